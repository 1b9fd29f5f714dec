/- Layer 9: the fixed answers. -/
import Derived.Test.YtmlndgmkjdkcfaaGenD
import Derived.Test.YtmlndgmkjdkcfaaExtTail
import Derived.Test.YtmlndgmkjdkcfaaPGen9
namespace Go.Proofs.Ytmlndgmkjdkcfaa
open Go.RowKit
set_option linter.unusedVariables false
set_option linter.unusedSimpArgs false
attribute [local go_sem] ite_max ite_min vite_max vite_min ite_max0 vite_max0 ext_cell ext_frozen

theorem gstep_at (V A D L H p v x p' v' : Int) (w : World) (hk : okB ⟨V, A, D, L, H⟩ ⟨p, v⟩ = true) (h : stepG ⟨V, A, D, L, H⟩ ⟨p, v⟩ x = ⟨p', v'⟩) :
    Calls Try.prog 29 #[.agg #[.int .i64 V, .int .i64 A, .int .i64 D, .int .i64 L, .int .i64 H], .agg #[.int .i64 p, .int .i64 v], .int .i64 x] w fun e w' => e = .returned (.agg #[.int .i64 p', .int .i64 v']) ∧ Below w.heap.size w w' := by
  have := gstep_yes V A D L H p v x w hk
  rw [h] at this
  exact this
theorem gto_at (V A D L H p v t s x : Int) (w : World) (hk : okB ⟨V, A, D, L, H⟩ ⟨p, v⟩ = true) (h : toG ⟨V, A, D, L, H⟩ ⟨p, v⟩ t s = x) :
    Calls Try.prog 30 #[.agg #[.int .i64 V, .int .i64 A, .int .i64 D, .int .i64 L, .int .i64 H], .agg #[.int .i64 p, .int .i64 v], .int .i64 t, .int .i64 s] w fun e w' => e = .returned (.int .i64 x) ∧ Below w.heap.size w w' := by
  subst h
  exact gto_yes V A D L H p v t s w hk

def g9 : Nat → GenS
  | 0 => ⟨0, 0⟩ | 1 => ⟨2, 2⟩ | 2 => ⟨6, 4⟩ | 3 => ⟨11, 5⟩ | 4 => ⟨16, 5⟩ | 5 => ⟨19, 3⟩ | 6 => ⟨20, 1⟩ | _ => ⟨20, 0⟩
theorem g9_step (k : Nat) (hk : k < 7) : stepG lim9 (g9 k) (toG lim9 (g9 k) 20 9) = g9 (k + 1) ∧ okB lim9 (g9 k) = true := by
  have h : k = 0 ∨ k = 1 ∨ k = 2 ∨ k = 3 ∨ k = 4 ∨ k = 5 ∨ k = 6 := by omega
  rcases h with rfl | rfl | rfl | rfl | rfl | rfl | rfl
  · exact go9_0
  · exact go9_1
  · exact go9_2
  · exact go9_3
  · exact go9_4
  · exact go9_5
  · exact go9_6

set_option maxRecDepth 100000 in
set_option maxHeartbeats 2000000 in
theorem awake9 (w : World) : Calls Try.prog 26 #[] w fun e w' => e = .returned (.bool true) ∧ Below w.heap.size w w' := by
  go_enter Try.func26, Try.ntmps26
  go_wp2_with fail
  go_loopw [9] (fun i w' => ∃ (k : Nat) (p v : Int), k ≤ 7 ∧ Hid (g9 k = ⟨p, v⟩) ∧ i = .int .i64 k ∧ Below w.heap.size w w' ∧ w.heap.size + 2 < w'.heap.size ∧
    (w'.cell? ⟨w.heap.size, 0, none⟩ = some (.int .i64 5) ∧ w'.cell? ⟨w.heap.size, 1, none⟩ = some (.int .i64 2) ∧ w'.cell? ⟨w.heap.size, 2, none⟩ = some (.int .i64 3) ∧ w'.cell? ⟨w.heap.size, 3, none⟩ = some (.int .i64 (-100)) ∧ w'.cell? ⟨w.heap.size, 4, none⟩ = some (.int .i64 100)) ∧
    (w'.cell? ⟨w.heap.size + 1, 0, none⟩ = some (.int .i64 p) ∧ w'.cell? ⟨w.heap.size + 1, 1, none⟩ = some (.int .i64 v)) ∧ (∀ o, w'.frozen? ⟨w.heap.size + 1, o, none⟩ = false) ∧
    Hid (∀ j : Nat, j < 7 → w'.cell? ⟨w.heap.size + 1 + 1, j, none⟩ = some (.int .i64 (g9 (j + 1)).v))) (fun i _ => 7 - (intOf i).toNat)
  case atStart =>
    refine ⟨0, 0, 0, by omega, rfl, rfl, by (repeat' (first | (with_reducible exact Below.refl _ _) | (with_reducible assumption) | (with_reducible refine below_drewN ?_ _) | (with_reducible refine Below.drew ?_) | (with_reducible refine below_new ?_ (Nat.le_refl _) _) | (with_reducible refine Below.setCell ?_ ?_ _) | (with_reducible refine below_go ?_ (by assumption) (Nat.le_refl _)) | (simp; done) | (simp; omega) | omega)), by simp, ⟨by go_simp, by go_simp, by go_simp, by go_simp, by go_simp⟩, ⟨by go_simp, by go_simp⟩, fun o => by go_simp, fun j hj => ?_⟩
    have h : j = 0 ∨ j = 1 ∨ j = 2 ∨ j = 3 ∨ j = 4 ∨ j = 5 ∨ j = 6 := by omega
    rcases h with rfl | rfl | rfl | rfl | rfl | rfl | rfl
    all_goals go_simp
    all_goals rfl
  case round =>
    obtain ⟨k, p, v, hk, HG, rfl, hbr, hsz, ⟨l0, l1, l2, l3, l4⟩, ⟨g0, g1⟩, hfr, HS⟩ := hrel
    by_cases hlt : k < 7
    · have hst := g9_step k hlt
      rw [HG.out] at hst
      obtain ⟨p', v', hg'⟩ : ∃ p' v', g9 (k + 1) = ⟨p', v'⟩ := ⟨_, _, rfl⟩
      rw [hg'] at hst
      have hs := HS.out k hlt
      rw [hg'] at hs
      have HG' := Lib.hid hg'
      have HT := Lib.hid hst
      have z0 : w.heap.size < wr.heap.size := by omega
      have z1 : w.heap.size + 1 < wr.heap.size := by omega
      clear hst hg'
      go_wp2_with fail
      refine wp_region_ext_tail 6 (by kernel_rfl) (by kernel_rfl) ?_
      simp only [List.take_succ_cons, List.take_zero, List.drop_succ_cons, List.drop_zero]
      repeat (go_big_quiet_step (first | (go_at_call 30; exact ext_call (gto_at 5 2 3 (-100) 100 _ _ _ _ _ _ HT.out.2 rfl)) | (go_at_call 29; exact ext_call (gstep_at 5 2 3 (-100) 100 _ _ _ _ _ _ HT.out.2 HT.out.1))))
      refine wpQuiet_nil ?_
      intro w3 hb3
      replace hb3 := ext_below hb3
      obtain ⟨hb3c, hb3f⟩ := bcell hb3
      have hb3z := hb3.size
      have hb3c0 := fun o => hb3c (w.heap.size) o (by first | (simp; done) | (simp; omega) | (simp at *; omega) | omega)
      have hb3f0 := fun o => hb3f (w.heap.size) o (by first | (simp; done) | (simp; omega) | (simp at *; omega) | omega)
      have hb3l0 := below_lt (b := w.heap.size) hb3 (by first | (simp; done) | (simp; omega) | (simp at *; omega) | omega)
      have hb3c1 := fun o => hb3c (w.heap.size + 1) o (by first | (simp; done) | (simp; omega) | (simp at *; omega) | omega)
      have hb3f1 := fun o => hb3f (w.heap.size + 1) o (by first | (simp; done) | (simp; omega) | (simp at *; omega) | omega)
      have hb3l1 := below_lt (b := w.heap.size + 1) hb3 (by first | (simp; done) | (simp; omega) | (simp at *; omega) | omega)
      have hb3c2 := fun o => hb3c (w.heap.size + 2) o (by first | (simp; done) | (simp; omega) | (simp at *; omega) | omega)
      have hb3f2 := fun o => hb3f (w.heap.size + 2) o (by first | (simp; done) | (simp; omega) | (simp at *; omega) | omega)
      have hb3l2 := below_lt (b := w.heap.size + 2) hb3 (by first | (simp; done) | (simp; omega) | (simp at *; omega) | omega)
      have z2 : w.heap.size + 2 < w3.heap.size := by have := hb3.size; omega
      go_wp2
      go_roundw
      case rel =>
        refine ⟨k + 1, p', v', by omega, HG', by go_num, by (repeat' (first | (with_reducible exact Below.refl _ _) | (with_reducible assumption) | (with_reducible refine below_drewN ?_ _) | (with_reducible refine Below.drew ?_) | (with_reducible refine below_new ?_ (Nat.le_refl _) _) | (with_reducible refine Below.setCell ?_ ?_ _) | (with_reducible refine below_go ?_ (by assumption) (Nat.le_refl _)) | (simp; done) | (simp; omega) | omega)), by simp; omega, ⟨by go_simp, by go_simp, by go_simp, by go_simp, by go_simp⟩, ⟨by go_simp, by go_simp⟩, fun o => by go_simp, fun j hj => ?_⟩
        have hj' := HS.out j hj
        go_simp
      case measure => simp [intOf]; omega
    · obtain rfl : k = 7 := by omega
      have hg := HG.out
      simp [g9] at hg
      obtain ⟨rfl, rfl⟩ := hg
      go_wp2_with fail
      refine (glanded_any _ _ _ _).mono ?_
      rintro e w4 ⟨rfl, hb4⟩
      go_wp2
      go_ret
      exact ⟨rfl, by (repeat' (first | (with_reducible exact Below.refl _ _) | (with_reducible assumption) | (with_reducible refine below_drewN ?_ _) | (with_reducible refine Below.drew ?_) | (with_reducible refine below_new ?_ (Nat.le_refl _) _) | (with_reducible refine Below.setCell ?_ ?_ _) | (with_reducible refine below_go ?_ (by assumption) (Nat.le_refl _)) | (simp; done) | (simp; omega) | omega))⟩

end Go.Proofs.Ytmlndgmkjdkcfaa

/- Layer 9: who goes from a standstill to a place is, step by step, nearer to it, never beyond it, nor behind where it began: GenBetween returns true. Conditions: none. -/
import Derived.Test.YtmlndgmkjdkcfaaGenG
import Derived.Test.YtmlndgmkjdkcfaaPGenF
import Derived.Test.YtmlndgmkjdkcfaaFresh
namespace Go.Proofs.Ytmlndgmkjdkcfaa
open Go.ChangeShapes Go.WideShapes Go.ChangeAt Go.RowKit
set_option linter.unusedVariables false
set_option linter.unusedSimpArgs false
attribute [local go_sem] ite_max ite_min vite_max vite_min ite_max0 vite_max0 ext_cell ext_frozen extS_cell extS_frozen

set_option maxRecDepth 100000 in
set_option maxHeartbeats 4000000 in
theorem between_goes (V A D L H c t s : Int) (w : World) (hr : Hid (rightB ⟨V, A, D, L, H⟩ = true)) (hs : Hid (safeB ⟨V, A, D, L, H⟩ ⟨c, 0⟩ = true)) (h1 : 1 ≤ s) (ht : L ≤ t ∧ t ≤ H) (hf : t - c ≤ 1000 ∧ c - t ≤ 1000) (hcb : -1099511627776 ≤ c ∧ c ≤ 1099511627776) :
    Calls Try.prog 9 #[.agg #[.int .i64 V, .int .i64 A, .int .i64 D, .int .i64 L, .int .i64 H], .int .i64 c, .int .i64 t, .int .i64 s] w fun e w' => e = .returned (.bool true) ∧ Below w.heap.size w w' := by
  have hy := rightB_yes hr.out
  simp only at hy
  go_enter Try.func9, Try.ntmps9
  go_wp2_with fail
  refine (awake9 _).mono ?_
  rintro e w1 ⟨rfl, hb1⟩
  obtain ⟨hb1c, hb1f⟩ := bcell hb1
  have hb1z := hb1.size
  have hb1c0 := fun o => hb1c (w.heap.size) o (by first | (simp; done) | (simp; omega) | (simp at *; omega) | omega)
  have hb1f0 := fun o => hb1f (w.heap.size) o (by first | (simp; done) | (simp; omega) | (simp at *; omega) | omega)
  have hb1l0 := below_lt (b := w.heap.size) hb1 (by first | (simp; done) | (simp; omega) | (simp at *; omega) | omega)
  go_wp2_with fail
  refine (gright_at _ _ _ _ _ _ _ hr.out).mono ?_
  rintro e w2 ⟨rfl, hb2⟩
  obtain ⟨hb2c, hb2f⟩ := bcell hb2
  have hb2z := hb2.size
  have hb2c0 := fun o => hb2c (w.heap.size) o (by first | (simp; done) | (simp; omega) | (simp at *; omega) | omega)
  have hb2f0 := fun o => hb2f (w.heap.size) o (by first | (simp; done) | (simp; omega) | (simp at *; omega) | omega)
  have hb2l0 := below_lt (b := w.heap.size) hb2 (by first | (simp; done) | (simp; omega) | (simp at *; omega) | omega)
  have hb2c1 := fun o => hb2c (w1.heap.size) o (by first | (simp; done) | (simp; omega) | (simp at *; omega) | omega)
  have hb2f1 := fun o => hb2f (w1.heap.size) o (by first | (simp; done) | (simp; omega) | (simp at *; omega) | omega)
  have hb2l1 := below_lt (b := w1.heap.size) hb2 (by first | (simp; done) | (simp; omega) | (simp at *; omega) | omega)
  go_wp2_with fail
  refine (gsafe_at _ _ _ _ _ _ _ _ hr.out (by omega) _ hs.out).mono ?_
  rintro e w3 ⟨rfl, hb3⟩
  obtain ⟨hb3c, hb3f⟩ := bcell hb3
  have hb3z := hb3.size
  have hb3c0 := fun o => hb3c (w.heap.size) o (by first | (simp; done) | (simp; omega) | (simp at *; omega) | omega)
  have hb3f0 := fun o => hb3f (w.heap.size) o (by first | (simp; done) | (simp; omega) | (simp at *; omega) | omega)
  have hb3l0 := below_lt (b := w.heap.size) hb3 (by first | (simp; done) | (simp; omega) | (simp at *; omega) | omega)
  have hb3c1 := fun o => hb3c (w1.heap.size) o (by first | (simp; done) | (simp; omega) | (simp at *; omega) | omega)
  have hb3f1 := fun o => hb3f (w1.heap.size) o (by first | (simp; done) | (simp; omega) | (simp at *; omega) | omega)
  have hb3l1 := below_lt (b := w1.heap.size) hb3 (by first | (simp; done) | (simp; omega) | (simp at *; omega) | omega)
  go_wp2_with fail
  have hB3 : Below w.heap.size w w3 := by (repeat' (first | (with_reducible exact Below.refl _ _) | (with_reducible assumption) | (with_reducible refine below_drewN ?_ _) | (with_reducible refine Below.drew ?_) | (with_reducible refine below_new ?_ (Nat.le_refl _) _) | (with_reducible refine Below.setCell ?_ ?_ _) | (with_reducible refine below_go ?_ (by assumption) (Nat.le_refl _)) | (simp; done) | (simp; omega) | omega))
  have z3 : w1.heap.size < w3.heap.size := by omega
  have z1 : w.heap.size < w1.heap.size := by omega
  obtain ⟨B, hB⟩ : ∃ B, w1.heap.size = B := ⟨_, rfl⟩
  rw [hB] at z3 z1 ⊢
  go_loopw [10] (fun i w' => ∃ (p v : Int) (k : Nat), k ≤ 1000 ∧ (t - p + k ≤ 1000 ∧ p - t + k ≤ 1000) ∧ Hid (btw ⟨V, A, D, L, H⟩ ⟨p, v⟩ c t s) ∧ i = .int .i64 k ∧ Below w.heap.size w w' ∧ B < w'.heap.size ∧
    (w'.cell? ⟨w.heap.size, 0, none⟩ = some (.int .i64 V) ∧ w'.cell? ⟨w.heap.size, 1, none⟩ = some (.int .i64 A) ∧ w'.cell? ⟨w.heap.size, 2, none⟩ = some (.int .i64 D) ∧ w'.cell? ⟨w.heap.size, 3, none⟩ = some (.int .i64 L) ∧ w'.cell? ⟨w.heap.size, 4, none⟩ = some (.int .i64 H)) ∧
    (w'.cell? ⟨B, 0, none⟩ = some (.int .i64 p) ∧ w'.cell? ⟨B, 1, none⟩ = some (.int .i64 v)) ∧ (∀ o, w'.frozen? ⟨B, o, none⟩ = false)) (fun i _ => 1500 - (intOf i).toNat)
  case atStart =>
    subst hB
    exact ⟨c, 0, 0, by omega, by omega, btw_start _ c t s hs.out hr.out h1, rfl, hB3, z3, ⟨by go_simp, by go_simp, by go_simp, by go_simp, by go_simp⟩, ⟨by go_simp, by go_simp⟩, fun o => by go_simp⟩
  case round =>
    obtain ⟨p, v, k, hk, hkd, HS, rfl, hbr, hsz, ⟨l0, l1, l2, l3, l4⟩, ⟨g0, g1⟩, hfr⟩ := hrel
    clear hB hB3 z3 hb1 hb2 hb3 hb1c hb1f hb1z hb1c0 hb1f0 hb1l0 hb2c hb2f hb2z hb2c0 hb2f0 hb2l0 hb2c1 hb2f1 hb2l1 hb3c hb3f hb3z hb3c0 hb3f0 hb3l0 hb3c1 hb3f1 hb3l1
    by_cases hpt : p = t
    · have q0 : (p != t) = false := by simpa using hpt
      have q1 : (p == t) = true := by simpa using hpt
      clear hpt
      go_wp2
      go_ret
      exact ⟨rfl, by (repeat' (first | (with_reducible exact Below.refl _ _) | (with_reducible assumption) | (with_reducible refine below_drewN ?_ _) | (with_reducible refine Below.drew ?_) | (with_reducible refine below_new ?_ (Nat.le_refl _) _) | (with_reducible refine Below.setCell ?_ ?_ _) | (with_reducible refine below_go ?_ (by assumption) (Nat.le_refl _)) | (simp; done) | (simp; omega) | omega))⟩
    · have q0 : (p != t) = true := by simpa using hpt
      obtain ⟨p', v', hg⟩ : ∃ p' v', stepG ⟨V, A, D, L, H⟩ ⟨p, v⟩ (toG ⟨V, A, D, L, H⟩ ⟨p, v⟩ t s) = ⟨p', v'⟩ := ⟨_, _, rfl⟩
      have hstep := btw_step ⟨V, A, D, L, H⟩ ⟨p, v⟩ c t s p' v' hr.out ht h1 HS.out hpt hg
      have hok : okB ⟨V, A, D, L, H⟩ ⟨p, v⟩ = true := by simp [okB, hr.out, HS.out.1]
      obtain ⟨hbt, hnear, hlo, hhi, hvs, hvl⟩ := hstep
      try simp only at hnear hlo hhi hvs hvl
      have hbs := safeB_yes hbt.1
      try simp only at hbs
      have hpv' : -1099511627776 ≤ p' ∧ p' ≤ 1099511627776 ∧ -1048576 ≤ v' ∧ v' ≤ 1048576 := by omega
      have HG := Lib.hid hg
      have HO := Lib.hid hok
      have HB := Lib.hid hbt
      have z0 : w.heap.size < wr.heap.size := by omega
      clear hg hok hbt hbs hpt
      go_wp2_with fail
      refine wp_region_fresh 8 (by kernel_rfl) (by kernel_rfl) _ rfl _ rfl rfl rfl (.cells #[.int .i64 0, .int .i64 0] 34) (fun a w' => by kernel_rfl) ?_
      apply Exists.intro
      refine ⟨fun S hS hne => ?_, ?_⟩
      · simp only [List.take_succ_cons, List.take_zero]
        delta CS
        repeat (go_big_quiet_step (first | (go_at_call 30; exact extS_call hS (gto_at V A D L H p v t s _ _ HO.out rfl)) | (go_at_call 29; exact extS_call hS (gstep_at V A D L H p v _ p' v' _ HO.out HG.out))))
        exact wpQuiet_nil rfl
      simp only [List.drop_succ_cons, List.drop_zero]
      intro q w3 hp1 hp2 hb3 hobj
      have c0 := heap_cell 0 _ hobj rfl
      have c1 := heap_cell 1 _ hobj rfl
      have cf : ∀ o, w3.frozen? ⟨q, o, none⟩ = false := fun o => heap_free o hobj
      clear hobj
      obtain ⟨hb3c, hb3f⟩ := bcell hb3
      have hb3z := hb3.size
      have hb3c0 := fun o => hb3c (w.heap.size) o (by first | (simp; done) | (simp; omega) | (simp at *; omega) | omega)
      have hb3f0 := fun o => hb3f (w.heap.size) o (by first | (simp; done) | (simp; omega) | (simp at *; omega) | omega)
      have hb3l0 := below_lt (b := w.heap.size) hb3 (by first | (simp; done) | (simp; omega) | (simp at *; omega) | omega)
      have hb3c1 := fun o => hb3c (B) o (by first | (simp; done) | (simp; omega) | (simp at *; omega) | omega)
      have hb3f1 := fun o => hb3f (B) o (by first | (simp; done) | (simp; omega) | (simp at *; omega) | omega)
      have hb3l1 := below_lt (b := B) hb3 (by first | (simp; done) | (simp; omega) | (simp at *; omega) | omega)
      go_wp2_with fail
      refine wp_name fun W2 hW2 => ?_
      have hb4 : Below wr.heap.size wr W2 := by rw [hW2.out]; (repeat' (first | (with_reducible exact Below.refl _ _) | (with_reducible assumption) | (with_reducible refine below_drewN ?_ _) | (with_reducible refine Below.drew ?_) | (with_reducible refine below_new ?_ (Nat.le_refl _) _) | (with_reducible refine Below.setCell ?_ ?_ _) | (with_reducible refine below_go ?_ (by assumption) (Nat.le_refl _)) | (simp; done) | (simp; omega) | omega))
      have hq : q < W2.heap.size := by rw [hW2.out]; first | (simp; done) | (simp; omega)
      have n0 : W2.cell? ⟨q, 0, none⟩ = some (.int .i64 p') := by rw [hW2.out]; go_simp
      have n1 : W2.cell? ⟨q, 1, none⟩ = some (.int .i64 v') := by rw [hW2.out]; go_simp
      clear hW2 c0 c1 cf hb3 hb3c hb3f hb3z hb3c0 hb3f0 hb3l0 hb3c1 hb3f1 hb3l1
      obtain ⟨hb4c, hb4f⟩ := bcell hb4
      have hb4z := hb4.size
      have hb4c0 := fun o => hb4c (w.heap.size) o (by first | (simp; done) | (simp; omega) | (simp at *; omega) | omega)
      have hb4f0 := fun o => hb4f (w.heap.size) o (by first | (simp; done) | (simp; omega) | (simp at *; omega) | omega)
      have hb4l0 := below_lt (b := w.heap.size) hb4 (by first | (simp; done) | (simp; omega) | (simp at *; omega) | omega)
      have hb4c1 := fun o => hb4c (B) o (by first | (simp; done) | (simp; omega) | (simp at *; omega) | omega)
      have hb4f1 := fun o => hb4f (B) o (by first | (simp; done) | (simp; omega) | (simp at *; omega) | omega)
      have hb4l1 := below_lt (b := B) hb4 (by first | (simp; done) | (simp; omega) | (simp at *; omega) | omega)
      refine wp_region_ext (by kernel_rfl) (by kernel_rfl) ?_
      repeat (go_big_quiet_step (fail))
      refine wpQuiet_nil ?_
      intro w6 hb6
      replace hb6 := ext_below hb6
      obtain ⟨hb6c, hb6f⟩ := bcell hb6
      have hb6z := hb6.size
      have hb6c0 := fun o => hb6c (w.heap.size) o (by first | (simp; done) | (simp; omega) | (simp at *; omega) | omega)
      have hb6f0 := fun o => hb6f (w.heap.size) o (by first | (simp; done) | (simp; omega) | (simp at *; omega) | omega)
      have hb6l0 := below_lt (b := w.heap.size) hb6 (by first | (simp; done) | (simp; omega) | (simp at *; omega) | omega)
      have hb6c1 := fun o => hb6c (B) o (by first | (simp; done) | (simp; omega) | (simp at *; omega) | omega)
      have hb6f1 := fun o => hb6f (B) o (by first | (simp; done) | (simp; omega) | (simp at *; omega) | omega)
      have hb6l1 := below_lt (b := B) hb6 (by first | (simp; done) | (simp; omega) | (simp at *; omega) | omega)
      have hb6c2 := fun o => hb6c (q) o (by first | (simp; done) | (simp; omega) | (simp at *; omega) | omega)
      have hb6f2 := fun o => hb6f (q) o (by first | (simp; done) | (simp; omega) | (simp at *; omega) | omega)
      have hb6l2 := below_lt (b := q) hb6 (by first | (simp; done) | (simp; omega) | (simp at *; omega) | omega)
      go_wp2_with fail
      go_roundw
      case rel => exact ⟨p', v', k + 1, by omega, by omega, HB, by go_num, by (repeat' (first | (with_reducible exact Below.refl _ _) | (with_reducible assumption) | (with_reducible refine below_drewN ?_ _) | (with_reducible refine Below.drew ?_) | (with_reducible refine below_new ?_ (Nat.le_refl _) _) | (with_reducible refine Below.setCell ?_ ?_ _) | (with_reducible refine below_go ?_ (by assumption) (Nat.le_refl _)) | (simp; done) | (simp; omega) | omega)), by simp; omega, ⟨by go_simp, by go_simp, by go_simp, by go_simp, by go_simp⟩, ⟨by go_simp, by go_simp⟩, fun o => by go_simp⟩
      case measure => simp [intOf]; omega

end Go.Proofs.Ytmlndgmkjdkcfaa

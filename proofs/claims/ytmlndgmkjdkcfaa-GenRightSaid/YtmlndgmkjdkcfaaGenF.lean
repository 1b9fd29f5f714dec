/- Layer 9: GenSafe. -/
import Derived.Test.YtmlndgmkjdkcfaaGenE
import Derived.Test.YtmlndgmkjdkcfaaPGenC
import Derived.Test.YtmlndgmkjdkcfaaReadS
import Derived.Deep.RegionHeld3
import Derived.Deep.DeepCutAuto
namespace Go.Proofs.Ytmlndgmkjdkcfaa
open Go.ChangeShapes Go.WideShapes Go.ChangeAt Go.RowKit
set_option linter.unusedVariables false
set_option linter.unusedSimpArgs false
attribute [local go_sem] ite_max ite_min vite_max vite_min ite_max0 vite_max0 ext_cell ext_frozen

set_option maxRecDepth 100000 in
set_option maxHeartbeats 4000000 in
theorem gensafe_some (V A D L H p0 v0 : Int) (b off cap : Nat) (zs : List Int) (w : World) (hr : Hid (rightB ⟨V, A, D, L, H⟩ = true)) (hs : Hid (safeB ⟨V, A, D, L, H⟩ ⟨p0, v0⟩ = true)) (hp0 : -9223372036854775808 ≤ p0 ∧ p0 ≤ 9223372036854775807)
    (hn : zs.length ≤ cap) (hcap : cap ≤ 9223372036854775807) (hb0 : b < w.heap.size) (hc : Hid (∀ i, i < zs.length → w.cell? ⟨b, off + i, none⟩ = some (.int .i64 (zs[i]?.getD 0)))) :
    Calls Try.prog 8 #[.agg #[.int .i64 V, .int .i64 A, .int .i64 D, .int .i64 L, .int .i64 H], .agg #[.int .i64 p0, .int .i64 v0], .slice (some ⟨b, off, none⟩) zs.length cap] w fun e w' => e = .returned (.bool true) ∧ Below w.heap.size w w' := by
  obtain ⟨n, hlen⟩ : ∃ n, zs.length = n := ⟨_, rfl⟩
  have hy := rightB_yes hr.out
  simp only at hy
  rw [hlen] at hn ⊢
  go_enter Try.func8, Try.ntmps8
  go_wp2_with fail
  refine (awake9 _).mono ?_
  rintro e w1 ⟨rfl, hb1⟩
  obtain ⟨hb1c, hb1f⟩ := bcell hb1
  have hb1z := hb1.size
  have hb1c0 := fun o => hb1c (w.heap.size) o (by first | (simp; done) | (simp; omega) | (simp at *; omega) | omega)
  have hb1f0 := fun o => hb1f (w.heap.size) o (by first | (simp; done) | (simp; omega) | (simp at *; omega) | omega)
  have hb1l0 := below_lt (b := w.heap.size) hb1 (by first | (simp; done) | (simp; omega) | (simp at *; omega) | omega)
  have hb1c1 := fun o => hb1c (w.heap.size + 1) o (by first | (simp; done) | (simp; omega) | (simp at *; omega) | omega)
  have hb1f1 := fun o => hb1f (w.heap.size + 1) o (by first | (simp; done) | (simp; omega) | (simp at *; omega) | omega)
  have hb1l1 := below_lt (b := w.heap.size + 1) hb1 (by first | (simp; done) | (simp; omega) | (simp at *; omega) | omega)
  go_wp2_with fail
  refine (gright_at _ _ _ _ _ _ _ hr.out).mono ?_
  rintro e w2 ⟨rfl, hb2⟩
  obtain ⟨hb2c, hb2f⟩ := bcell hb2
  have hb2z := hb2.size
  have hb2c0 := fun o => hb2c (w.heap.size) o (by first | (simp; done) | (simp; omega) | (simp at *; omega) | omega)
  have hb2f0 := fun o => hb2f (w.heap.size) o (by first | (simp; done) | (simp; omega) | (simp at *; omega) | omega)
  have hb2l0 := below_lt (b := w.heap.size) hb2 (by first | (simp; done) | (simp; omega) | (simp at *; omega) | omega)
  have hb2c1 := fun o => hb2c (w.heap.size + 1) o (by first | (simp; done) | (simp; omega) | (simp at *; omega) | omega)
  have hb2f1 := fun o => hb2f (w.heap.size + 1) o (by first | (simp; done) | (simp; omega) | (simp at *; omega) | omega)
  have hb2l1 := below_lt (b := w.heap.size + 1) hb2 (by first | (simp; done) | (simp; omega) | (simp at *; omega) | omega)
  go_wp2_with fail
  refine (gsafe_at _ _ _ _ _ _ _ _ hr.out hp0 _ hs.out).mono ?_
  rintro e w3 ⟨rfl, hb3⟩
  obtain ⟨hb3c, hb3f⟩ := bcell hb3
  have hb3z := hb3.size
  have hb3c0 := fun o => hb3c (w.heap.size) o (by first | (simp; done) | (simp; omega) | (simp at *; omega) | omega)
  have hb3f0 := fun o => hb3f (w.heap.size) o (by first | (simp; done) | (simp; omega) | (simp at *; omega) | omega)
  have hb3l0 := below_lt (b := w.heap.size) hb3 (by first | (simp; done) | (simp; omega) | (simp at *; omega) | omega)
  have hb3c1 := fun o => hb3c (w.heap.size + 1) o (by first | (simp; done) | (simp; omega) | (simp at *; omega) | omega)
  have hb3f1 := fun o => hb3f (w.heap.size + 1) o (by first | (simp; done) | (simp; omega) | (simp at *; omega) | omega)
  have hb3l1 := below_lt (b := w.heap.size + 1) hb3 (by first | (simp; done) | (simp; omega) | (simp at *; omega) | omega)
  go_wp2_with fail
  have hB3 : Below w.heap.size w w3 := by (repeat' (first | (with_reducible exact Below.refl _ _) | (with_reducible assumption) | (with_reducible refine below_drewN ?_ _) | (with_reducible refine Below.drew ?_) | (with_reducible refine below_new ?_ (Nat.le_refl _) _) | (with_reducible refine Below.setCell ?_ ?_ _) | (with_reducible refine below_go ?_ (by assumption) (Nat.le_refl _)) | (simp; done) | (simp; omega) | omega))
  have z3 : w.heap.size + 1 < w3.heap.size := by omega
  go_loopw [7] (fun i w' => ∃ (p v : Int) (k : Nat), k ≤ n ∧ k ≤ 300 ∧ Hid (safeB ⟨V, A, D, L, H⟩ ⟨p, v⟩ = true) ∧ (-1099511627776 ≤ p ∧ p ≤ 1099511627776 ∧ -1048576 ≤ v ∧ v ≤ 1048576) ∧ i = .int .i64 k ∧ Below w.heap.size w w' ∧ w.heap.size + 1 < w'.heap.size ∧
    (w'.cell? ⟨w.heap.size, 0, none⟩ = some (.int .i64 V) ∧ w'.cell? ⟨w.heap.size, 1, none⟩ = some (.int .i64 A) ∧ w'.cell? ⟨w.heap.size, 2, none⟩ = some (.int .i64 D) ∧ w'.cell? ⟨w.heap.size, 3, none⟩ = some (.int .i64 L) ∧ w'.cell? ⟨w.heap.size, 4, none⟩ = some (.int .i64 H)) ∧
    (w'.cell? ⟨w.heap.size + 1, 0, none⟩ = some (.int .i64 p) ∧ w'.cell? ⟨w.heap.size + 1, 1, none⟩ = some (.int .i64 v)) ∧ (∀ o, w'.frozen? ⟨w.heap.size + 1, o, none⟩ = false)) (fun i _ => n - (intOf i).toNat)
  case atStart =>
    have hz := safeB_yes hs.out
    simp only at hz
    exact ⟨p0, v0, 0, by omega, by omega, hs, by omega, rfl, hB3, z3, ⟨by go_simp, by go_simp, by go_simp, by go_simp, by go_simp⟩, ⟨by go_simp, by go_simp⟩, fun o => by go_simp⟩
  case round =>
    obtain ⟨p, v, k, hk, hk3, HS, hpv, rfl, hbr, hsz, ⟨l0, l1, l2, l3, l4⟩, ⟨g0, g1⟩, hfr⟩ := hrel
    clear hB3 z3 hb1 hb2 hb3 hb1c hb1f hb1z hb1c0 hb1f0 hb1l0 hb1c1 hb1f1 hb1l1 hb2c hb2f hb2z hb2c0 hb2f0 hb2l0 hb2c1 hb2f1 hb2l1 hb3c hb3f hb3z hb3c0 hb3f0 hb3l0 hb3c1 hb3f1 hb3l1
    by_cases hlt : k < n
    · by_cases h300 : k < 300
      · obtain ⟨x, hx⟩ : ∃ x, zs[k]?.getD 0 = x := ⟨_, rfl⟩
        have hcell : wr.cell? ⟨b, off + k, none⟩ = some (.int .i64 x) := by rw [hbr.cell hb0, hc.out k (by omega), hx]
        obtain ⟨p', v', hg⟩ : ∃ p' v', stepG ⟨V, A, D, L, H⟩ ⟨p, v⟩ x = ⟨p', v'⟩ := ⟨_, _, rfl⟩
        have hmid := step_between ⟨V, A, D, L, H⟩ ⟨p, v⟩ x hr.out HS.out
        have hk1 : p' = p + v' := by
          have e1 : (stepG ⟨V, A, D, L, H⟩ ⟨p, v⟩ x).p = p + (stepG ⟨V, A, D, L, H⟩ ⟨p, v⟩ x).v := rfl
          rw [hg] at e1
          exact e1
        rw [hg] at hmid
        have hkeep := step_keeps ⟨V, A, D, L, H⟩ ⟨p, v⟩ ⟨p', v'⟩ hr.out HS.out hk1 hmid.1 hmid.2
        have hok : okB ⟨V, A, D, L, H⟩ ⟨p, v⟩ = true := by simp [okB, hr.out, HS.out]
        have HG := Lib.hid hg
        have HK := Lib.hid hkeep
        have HP := Lib.hid hk1
        have HO := Lib.hid hok
        have z0 : w.heap.size < wr.heap.size := by omega
        have zb : b < wr.heap.size := by omega
        have hkS : ∀ w', Below wr.heap.size wr w' → (Below wr.heap.size wr w' ∧ w'.cell? ⟨w.heap.size, 0, none⟩ = some (.int .i64 V) ∧ w'.cell? ⟨w.heap.size, 1, none⟩ = some (.int .i64 A) ∧ w'.cell? ⟨w.heap.size, 2, none⟩ = some (.int .i64 D) ∧ w'.cell? ⟨w.heap.size, 3, none⟩ = some (.int .i64 L) ∧ w'.cell? ⟨w.heap.size, 4, none⟩ = some (.int .i64 H) ∧
            w'.cell? ⟨w.heap.size + 1, 0, none⟩ = some (.int .i64 p) ∧ w'.cell? ⟨w.heap.size + 1, 1, none⟩ = some (.int .i64 v) ∧ w'.cell? ⟨b, off + k, none⟩ = some (.int .i64 x)) :=
          fun w' h => ⟨h, (h.cell z0).trans l0, (h.cell z0).trans l1, (h.cell z0).trans l2, (h.cell z0).trans l3, (h.cell z0).trans l4, (h.cell hsz).trans g0, (h.cell hsz).trans g1, (h.cell zb).trans hcell⟩
        have HKS := Lib.hid hkS
        clear hg hkeep hk1 hmid hx hok hkS
        go_wp2_with fail
        go_cut [8] (fun s w9 => ∃ a : Nat, s = .pointer (some ⟨a, 0, none⟩) ∧ w.heap.size + 1 < a ∧ a < w9.heap.size ∧ Below wr.heap.size wr w9 ∧ w9.cell? ⟨a, 0, none⟩ = some (.int .i64 p') ∧ w9.cell? ⟨a, 1, none⟩ = some (.int .i64 v'))
        case first =>
          go_region_held3 (fun w' => Below wr.heap.size wr w' ∧ w'.cell? ⟨w.heap.size, 0, none⟩ = some (.int .i64 V) ∧ w'.cell? ⟨w.heap.size, 1, none⟩ = some (.int .i64 A) ∧ w'.cell? ⟨w.heap.size, 2, none⟩ = some (.int .i64 D) ∧ w'.cell? ⟨w.heap.size, 3, none⟩ = some (.int .i64 L) ∧ w'.cell? ⟨w.heap.size, 4, none⟩ = some (.int .i64 H) ∧
            w'.cell? ⟨w.heap.size + 1, 0, none⟩ = some (.int .i64 p) ∧ w'.cell? ⟨w.heap.size + 1, 1, none⟩ = some (.int .i64 v) ∧ w'.cell? ⟨b, off + k, none⟩ = some (.int .i64 x)) ((refine HKS.out _ ?_; (repeat' (first | (with_reducible exact Below.refl _ _) | (with_reducible assumption) | (with_reducible refine below_drewN ?_ _) | (with_reducible refine Below.drew ?_) | (with_reducible refine below_new ?_ (Nat.le_refl _) _) | (with_reducible refine Below.setCell ?_ ?_ _) | (with_reducible refine below_go ?_ (by assumption) (Nat.le_refl _)) | (simp; done) | (simp; omega) | omega)))) (first | (go_at_call 29; refine (gstep_at V A D L H p v x p' v' _ HO.out HG.out).mono ?_; rintro e w4 ⟨rfl, hb4⟩; obtain ⟨hc4, hf4⟩ := bcell hb4; have hcz := fun o => hc4 wr.heap.size o; have hfz := fun o => hf4 wr.heap.size o; try simp at hcz hfz; clear hc4 hf4))
          all_goals
            go_wp2_with fail
            go_meet
            case rel =>
              have hz4 := hb4.size
              simp at hz4
              exact ⟨_, rfl, by omega, by first | (simp; done) | (simp; omega), by (repeat' (first | (with_reducible exact Below.refl _ _) | (with_reducible assumption) | (with_reducible refine below_drewN ?_ _) | (with_reducible refine Below.drew ?_) | (with_reducible refine below_new ?_ (Nat.le_refl _) _) | (with_reducible refine Below.setCell ?_ ?_ _) | (with_reducible refine below_go ?_ (by assumption) (Nat.le_refl _)) | (simp; done) | (simp; omega) | omega)), by go_simp, by go_simp⟩
        case rest =>
          obtain ⟨a, rfl, ha1, ha2, hb9, n0, n1⟩ := hcut
          have hy1 := safeB_yes HS.out
          try simp only at hy1
          have hkk := HK.out
          try simp only at hkk
          obtain ⟨hs', hd1, hd2, ht1, ht2, hsp⟩ := hkk
          have hz' := safeB_yes hs'
          try simp only at hz'
          have hpv' : -1099511627776 ≤ p' ∧ p' ≤ 1099511627776 ∧ -1048576 ≤ v' ∧ v' ≤ 1048576 := by omega
          have HS' := Lib.hid hs'
          clear hs' hz' HK hy1 HO HG hcell HKS
          obtain ⟨hb9c, hb9f⟩ := bcell hb9
          have hb9z := hb9.size
          have hb9c0 := fun o => hb9c (w.heap.size) o (by first | (simp; done) | (simp; omega) | (simp at *; omega) | omega)
          have hb9f0 := fun o => hb9f (w.heap.size) o (by first | (simp; done) | (simp; omega) | (simp at *; omega) | omega)
          have hb9l0 := below_lt (b := w.heap.size) hb9 (by first | (simp; done) | (simp; omega) | (simp at *; omega) | omega)
          have hb9c1 := fun o => hb9c (w.heap.size + 1) o (by first | (simp; done) | (simp; omega) | (simp at *; omega) | omega)
          have hb9f1 := fun o => hb9f (w.heap.size + 1) o (by first | (simp; done) | (simp; omega) | (simp at *; omega) | omega)
          have hb9l1 := below_lt (b := w.heap.size + 1) hb9 (by first | (simp; done) | (simp; omega) | (simp at *; omega) | omega)
          have q1 : (p' == p + v') = true := by have := HP.out; simpa using this
          have q2 : (p' != p + v') = false := by have := HP.out; simpa using this
          go_wp2_with fail
          refine (gsafe_at _ _ _ _ _ _ _ _ hr.out (by omega) _ HS'.out).mono ?_
          rintro e w5 ⟨rfl, hb5⟩
          obtain ⟨hb5c, hb5f⟩ := bcell hb5
          have hb5z := hb5.size
          have hb5c0 := fun o => hb5c (w.heap.size) o (by first | (simp; done) | (simp; omega) | (simp at *; omega) | omega)
          have hb5f0 := fun o => hb5f (w.heap.size) o (by first | (simp; done) | (simp; omega) | (simp at *; omega) | omega)
          have hb5l0 := below_lt (b := w.heap.size) hb5 (by first | (simp; done) | (simp; omega) | (simp at *; omega) | omega)
          have hb5c1 := fun o => hb5c (w.heap.size + 1) o (by first | (simp; done) | (simp; omega) | (simp at *; omega) | omega)
          have hb5f1 := fun o => hb5f (w.heap.size + 1) o (by first | (simp; done) | (simp; omega) | (simp at *; omega) | omega)
          have hb5l1 := below_lt (b := w.heap.size + 1) hb5 (by first | (simp; done) | (simp; omega) | (simp at *; omega) | omega)
          have hb5c2 := fun o => hb5c (a) o (by first | (simp; done) | (simp; omega) | (simp at *; omega) | omega)
          have hb5f2 := fun o => hb5f (a) o (by first | (simp; done) | (simp; omega) | (simp at *; omega) | omega)
          have hb5l2 := below_lt (b := a) hb5 (by first | (simp; done) | (simp; omega) | (simp at *; omega) | omega)
          go_wp2_with fail
          all_goals
            refine wp_region_ext (by kernel_rfl) (by kernel_rfl) ?_
            repeat (go_big_quiet_step (fail))
            refine wpQuiet_nil ?_
            intro w6 hb6
            replace hb6 := ext_below hb6
            obtain ⟨hb6c, hb6f⟩ := bcell hb6
            have hb6z := hb6.size
            have hb6c0 := fun o => hb6c (w.heap.size) o (by first | (simp; done) | (simp; omega) | (simp at *; omega) | omega)
            have hb6f0 := fun o => hb6f (w.heap.size) o (by first | (simp; done) | (simp; omega) | (simp at *; omega) | omega)
            have hb6l0 := below_lt (b := w.heap.size) hb6 (by first | (simp; done) | (simp; omega) | (simp at *; omega) | omega)
            have hb6c1 := fun o => hb6c (w.heap.size + 1) o (by first | (simp; done) | (simp; omega) | (simp at *; omega) | omega)
            have hb6f1 := fun o => hb6f (w.heap.size + 1) o (by first | (simp; done) | (simp; omega) | (simp at *; omega) | omega)
            have hb6l1 := below_lt (b := w.heap.size + 1) hb6 (by first | (simp; done) | (simp; omega) | (simp at *; omega) | omega)
            have hb6c2 := fun o => hb6c (a) o (by first | (simp; done) | (simp; omega) | (simp at *; omega) | omega)
            have hb6f2 := fun o => hb6f (a) o (by first | (simp; done) | (simp; omega) | (simp at *; omega) | omega)
            have hb6l2 := below_lt (b := a) hb6 (by first | (simp; done) | (simp; omega) | (simp at *; omega) | omega)
            go_wp2_with fail
          all_goals
            go_roundw
            case rel => exact ⟨p', v', k + 1, by omega, by omega, HS', hpv', by go_num, by (repeat' (first | (with_reducible exact Below.refl _ _) | (with_reducible assumption) | (with_reducible refine below_drewN ?_ _) | (with_reducible refine Below.drew ?_) | (with_reducible refine below_new ?_ (Nat.le_refl _) _) | (with_reducible refine Below.setCell ?_ ?_ _) | (with_reducible refine below_go ?_ (by assumption) (Nat.le_refl _)) | (simp; done) | (simp; omega) | omega)), by simp; omega, ⟨by go_simp, by go_simp, by go_simp, by go_simp, by go_simp⟩, ⟨by go_simp, by go_simp⟩, fun o => by go_simp⟩
            case measure => simp [intOf]; omega
      · go_wp2
        go_ret
        exact ⟨rfl, by (repeat' (first | (with_reducible exact Below.refl _ _) | (with_reducible assumption) | (with_reducible refine below_drewN ?_ _) | (with_reducible refine Below.drew ?_) | (with_reducible refine below_new ?_ (Nat.le_refl _) _) | (with_reducible refine Below.setCell ?_ ?_ _) | (with_reducible refine below_go ?_ (by assumption) (Nat.le_refl _)) | (simp; done) | (simp; omega) | omega))⟩
    · go_wp2
      go_ret
      exact ⟨rfl, by (repeat' (first | (with_reducible exact Below.refl _ _) | (with_reducible assumption) | (with_reducible refine below_drewN ?_ _) | (with_reducible refine Below.drew ?_) | (with_reducible refine below_new ?_ (Nat.le_refl _) _) | (with_reducible refine Below.setCell ?_ ?_ _) | (with_reducible refine below_go ?_ (by assumption) (Nat.le_refl _)) | (simp; done) | (simp; omega) | omega))⟩

end Go.Proofs.Ytmlndgmkjdkcfaa

/- Layer 9: GenPasses, of right limits and a safe generator that stands still. -/
import Derived.Test.YtmlndgmkjdkcfaaGenN
import Derived.Test.YtmlndgmkjdkcfaaGenJ
import Derived.Test.YtmlndgmkjdkcfaaPGenI
namespace Go.Proofs.Ytmlndgmkjdkcfaa
open Go.ChangeShapes Go.WideShapes Go.ChangeAt Go.RowKit
set_option linter.unusedVariables false
set_option linter.unusedSimpArgs false
attribute [local go_sem] ite_max ite_min vite_max vite_min ite_max0 vite_max0 ext_cell ext_frozen extS_cell extS_frozen

theorem gby_at (V A D L H p v t u f s x : Int) (w : World) (hk : okB ⟨V, A, D, L, H⟩ ⟨p, v⟩ = true) (h : byG ⟨V, A, D, L, H⟩ ⟨p, v⟩ t u f s = x) :
    Calls Try.prog 35 #[.agg #[.int .i64 V, .int .i64 A, .int .i64 D, .int .i64 L, .int .i64 H], .agg #[.int .i64 p, .int .i64 v], .int .i64 t, .int .i64 u, .int .i64 f, .int .i64 s] w fun e w' => e = .returned (.int .i64 x) ∧ Below w.heap.size w w' := by
  subst h
  exact gby_yes V A D L H p v t u f s w hk

set_option maxRecDepth 100000 in
set_option maxHeartbeats 4000000 in
theorem passes_goes (V A D L H p0 t u f s : Int) (w : World) (hr : Hid (rightB ⟨V, A, D, L, H⟩ = true)) (hs : Hid (safeB ⟨V, A, D, L, H⟩ ⟨p0, 0⟩ = true)) (hpt : p0 < t) (htf : t ≤ f) (hfH : f ≤ H) (hfar : t - p0 ≤ 1500) (hu : 1 ≤ u) (h1 : 1 ≤ s) :
    Calls Try.prog 13 #[.agg #[.int .i64 V, .int .i64 A, .int .i64 D, .int .i64 L, .int .i64 H], .agg #[.int .i64 p0, .int .i64 0], .int .i64 t, .int .i64 u, .int .i64 f, .int .i64 s] w fun e w' => e = .returned (.bool true) ∧ Below w.heap.size w w' := by
  have hy := rightB_yes hr.out
  simp only at hy
  have hz := safeB_yes hs.out
  simp only at hz
  have hp0 : L ≤ p0 ∧ p0 ≤ H := by omega
  have hst0 := pass_start ⟨V, A, D, L, H⟩ p0 t u f hr.out hs.out hpt htf
  have HST0 := Lib.hid hst0
  obtain ⟨U, hU⟩ : ∃ U, spd u = U := ⟨_, rfl⟩
  have hU2 : min 1048576 u = U := by rw [← hU]; unfold spd; omega
  have hU3 := spd_bd u
  rw [hU] at HST0 hU3
  have HU := Lib.hid hU
  clear hz hst0 hU
  go_enter Try.func13, Try.ntmps13
  go_wp2_with fail
  refine (awake9 _).mono ?_
  rintro e w1 ⟨rfl, hb1⟩
  obtain ⟨hb1c, hb1f⟩ := bcell hb1
  have hb1z := hb1.size
  have hb1c0 := fun o => hb1c (w.heap.size) o (by first | (simp; done) | (simp; omega) | (simp at *; omega) | omega)
  have hb1f0 := fun o => hb1f (w.heap.size) o (by first | (simp; done) | (simp; omega) | (simp at *; omega) | omega)
  have hb1l0 := below_lt (b := w.heap.size) hb1 (by first | (simp; done) | (simp; omega) | (simp at *; omega) | omega)
  have hb1c1 := fun o => hb1c (w.heap.size + 1) o (by first | (simp; done) | (simp; omega) | (simp at *; omega) | omega)
  have hb1f1 := fun o => hb1f (w.heap.size + 1) o (by first | (simp; done) | (simp; omega) | (simp at *; omega) | omega)
  have hb1l1 := below_lt (b := w.heap.size + 1) hb1 (by first | (simp; done) | (simp; omega) | (simp at *; omega) | omega)
  go_wp2_with fail
  refine (gright_at _ _ _ _ _ _ _ hr.out).mono ?_
  rintro e w2 ⟨rfl, hb2⟩
  obtain ⟨hb2c, hb2f⟩ := bcell hb2
  have hb2z := hb2.size
  have hb2c0 := fun o => hb2c (w.heap.size) o (by first | (simp; done) | (simp; omega) | (simp at *; omega) | omega)
  have hb2f0 := fun o => hb2f (w.heap.size) o (by first | (simp; done) | (simp; omega) | (simp at *; omega) | omega)
  have hb2l0 := below_lt (b := w.heap.size) hb2 (by first | (simp; done) | (simp; omega) | (simp at *; omega) | omega)
  have hb2c1 := fun o => hb2c (w.heap.size + 1) o (by first | (simp; done) | (simp; omega) | (simp at *; omega) | omega)
  have hb2f1 := fun o => hb2f (w.heap.size + 1) o (by first | (simp; done) | (simp; omega) | (simp at *; omega) | omega)
  have hb2l1 := below_lt (b := w.heap.size + 1) hb2 (by first | (simp; done) | (simp; omega) | (simp at *; omega) | omega)
  go_wp2_with fail
  refine (gsafe_at _ _ _ _ _ _ _ _ hr.out (by omega) _ hs.out).mono ?_
  rintro e w3 ⟨rfl, hb3⟩
  obtain ⟨hb3c, hb3f⟩ := bcell hb3
  have hb3z := hb3.size
  have hb3c0 := fun o => hb3c (w.heap.size) o (by first | (simp; done) | (simp; omega) | (simp at *; omega) | omega)
  have hb3f0 := fun o => hb3f (w.heap.size) o (by first | (simp; done) | (simp; omega) | (simp at *; omega) | omega)
  have hb3l0 := below_lt (b := w.heap.size) hb3 (by first | (simp; done) | (simp; omega) | (simp at *; omega) | omega)
  have hb3c1 := fun o => hb3c (w.heap.size + 1) o (by first | (simp; done) | (simp; omega) | (simp at *; omega) | omega)
  have hb3f1 := fun o => hb3f (w.heap.size + 1) o (by first | (simp; done) | (simp; omega) | (simp at *; omega) | omega)
  have hb3l1 := below_lt (b := w.heap.size + 1) hb3 (by first | (simp; done) | (simp; omega) | (simp at *; omega) | omega)
  go_wp2_with fail
  have hB3 : Below w.heap.size w w3 := by (repeat' (first | (with_reducible exact Below.refl _ _) | (with_reducible assumption) | (with_reducible refine below_drewN ?_ _) | (with_reducible refine Below.drew ?_) | (with_reducible refine below_new ?_ (Nat.le_refl _) _) | (with_reducible refine Below.setCell ?_ ?_ _) | (with_reducible refine below_go ?_ (by assumption) (Nat.le_refl _)) | (simp; done) | (simp; omega) | omega))
  have z3 : w.heap.size + 1 < w3.heap.size := by omega
  go_loopw [13] (fun i w' => ∃ (p v : Int) (k : Nat), k ≤ 1500 ∧ p0 + k ≤ p ∧ p ≤ f ∧ k ≤ t - p0 ∧ Hid (passInv ⟨V, A, D, L, H⟩ ⟨p, v⟩ t U f) ∧ i = .int .i64 k ∧ Below w.heap.size w w' ∧ w.heap.size + 1 < w'.heap.size ∧
    (w'.cell? ⟨w.heap.size, 0, none⟩ = some (.int .i64 V) ∧ w'.cell? ⟨w.heap.size, 1, none⟩ = some (.int .i64 A) ∧ w'.cell? ⟨w.heap.size, 2, none⟩ = some (.int .i64 D) ∧ w'.cell? ⟨w.heap.size, 3, none⟩ = some (.int .i64 L) ∧ w'.cell? ⟨w.heap.size, 4, none⟩ = some (.int .i64 H)) ∧
    (w'.cell? ⟨w.heap.size + 1, 0, none⟩ = some (.int .i64 p) ∧ w'.cell? ⟨w.heap.size + 1, 1, none⟩ = some (.int .i64 v)) ∧ (∀ o, w'.frozen? ⟨w.heap.size + 1, o, none⟩ = false)) (fun i _ => 3000 - (intOf i).toNat)
  case atStart =>
    exact ⟨p0, 0, 0, by omega, by omega, by omega, by omega, HST0, rfl, hB3, z3, ⟨by go_simp, by go_simp, by go_simp, by go_simp, by go_simp⟩, ⟨by go_simp, by go_simp⟩, fun o => by go_simp⟩
  case round =>
    obtain ⟨p, v, k, hk, hkp, hpf, hkt, HS, rfl, hbr, hsz, ⟨l0, l1, l2, l3, l4⟩, ⟨g0, g1⟩, hfr⟩ := hrel
    clear HST0 hB3 z3 hb1 hb2 hb3 hb1c hb1f hb1z hb1c0 hb1f0 hb1l0 hb1c1 hb1f1 hb1l1 hb2c hb2f hb2z hb2c0 hb2f0 hb2l0 hb2c1 hb2f1 hb2l1 hb3c hb3f hb3z hb3c0 hb3f0 hb3l0 hb3c1 hb3f1 hb3l1
    have hok : okB ⟨V, A, D, L, H⟩ ⟨p, v⟩ = true := by simp [okB, hr.out, HS.out.1]
    have HO := Lib.hid hok
    have z0 : w.heap.size < wr.heap.size := by omega
    have hzs := safeB_yes HS.out.1
    simp only at hzs
    have hpv : -1048576 ≤ v ∧ v ≤ 1048576 := by omega
    clear hok hzs
    by_cases hlt : p < t
    · obtain ⟨p', v', hg⟩ : ∃ p' v', stepG ⟨V, A, D, L, H⟩ ⟨p, v⟩ (byG ⟨V, A, D, L, H⟩ ⟨p, v⟩ t u f s) = ⟨p', v'⟩ := ⟨_, _, rfl⟩
      have hst := pass_step ⟨V, A, D, L, H⟩ ⟨p, v⟩ t u f s p' v' hr.out (by simp only; omega) hu h1 (by rw [HU.out]; exact HS.out) hlt hg
      rw [HU.out] at hst
      obtain ⟨hinv, hup, hlf, hthen⟩ := hst
      simp only at hup hthen
      have hzs := safeB_yes hinv.1
      simp only at hzs
      have hpv' : -1048576 ≤ v' ∧ v' ≤ 1048576 := by omega
      have HG := Lib.hid hg
      have HT := Lib.hid hinv
      have HTH := Lib.hid hthen
      clear hg hinv hthen hzs
      go_wp2_with fail
      refine wp_region_fresh 10 (by kernel_rfl) (by kernel_rfl) _ rfl _ rfl rfl rfl (.cells #[.int .i64 0, .int .i64 0] 34) (fun a w' => by kernel_rfl) ?_
      apply Exists.intro
      refine ⟨fun S hS hne => ?_, ?_⟩
      · simp only [List.take_succ_cons, List.take_zero]
        delta CS
        repeat (go_big_quiet_step (first | (go_at_call 35; exact extS_call hS (gby_at V A D L H p v t u f s _ _ HO.out rfl)) | (go_at_call 29; exact extS_call hS (gstep_at V A D L H p v _ p' v' _ HO.out HG.out))))
        exact wpQuiet_nil rfl
      simp only [List.drop_succ_cons, List.drop_zero]
      intro q w3 hp1 hp2 hb3 hobj
      have c0 := heap_cell 0 _ hobj rfl
      have c1 := heap_cell 1 _ hobj rfl
      have cf : ∀ o, w3.frozen? ⟨q, o, none⟩ = false := fun o => heap_free o hobj
      clear hobj
      obtain ⟨hb3c, hb3f⟩ := bcell hb3
      have hb3z := hb3.size
      have hb3c0 := fun o => hb3c (w.heap.size) o (by first | (simp; done) | (simp; omega) | (simp at *; omega) | omega)
      have hb3f0 := fun o => hb3f (w.heap.size) o (by first | (simp; done) | (simp; omega) | (simp at *; omega) | omega)
      have hb3l0 := below_lt (b := w.heap.size) hb3 (by first | (simp; done) | (simp; omega) | (simp at *; omega) | omega)
      have hb3c1 := fun o => hb3c (w.heap.size + 1) o (by first | (simp; done) | (simp; omega) | (simp at *; omega) | omega)
      have hb3f1 := fun o => hb3f (w.heap.size + 1) o (by first | (simp; done) | (simp; omega) | (simp at *; omega) | omega)
      have hb3l1 := below_lt (b := w.heap.size + 1) hb3 (by first | (simp; done) | (simp; omega) | (simp at *; omega) | omega)
      by_cases hth : t ≤ p'
      · have hsp := HTH.out hth
        go_wp2_with fail
        go_roundw
        case rel => exact ⟨p', v', k + 1, by omega, by omega, by omega, by omega, HT, by go_num, by (repeat' (first | (with_reducible exact Below.refl _ _) | (with_reducible assumption) | (with_reducible refine below_drewN ?_ _) | (with_reducible refine Below.drew ?_) | (with_reducible refine below_new ?_ (Nat.le_refl _) _) | (with_reducible refine Below.setCell ?_ ?_ _) | (with_reducible refine below_go ?_ (by assumption) (Nat.le_refl _)) | (simp; done) | (simp; omega) | omega)), by first | (simp; done) | (simp; omega), ⟨by go_simp, by go_simp, by go_simp, by go_simp, by go_simp⟩, ⟨by go_simp, by go_simp⟩, fun o => by go_simp⟩
        case measure => simp [intOf]; omega
      · go_wp2_with fail
        go_roundw
        case rel => exact ⟨p', v', k + 1, by omega, by omega, by omega, by omega, HT, by go_num, by (repeat' (first | (with_reducible exact Below.refl _ _) | (with_reducible assumption) | (with_reducible refine below_drewN ?_ _) | (with_reducible refine Below.drew ?_) | (with_reducible refine below_new ?_ (Nat.le_refl _) _) | (with_reducible refine Below.setCell ?_ ?_ _) | (with_reducible refine below_go ?_ (by assumption) (Nat.le_refl _)) | (simp; done) | (simp; omega) | omega)), by first | (simp; done) | (simp; omega), ⟨by go_simp, by go_simp, by go_simp, by go_simp, by go_simp⟩, ⟨by go_simp, by go_simp⟩, fun o => by go_simp⟩
        case measure => simp [intOf]; omega
    · have hfin := HS.out.2.2.2.2 (by simp only; omega)
      simp only at hfin
      go_wp2
      go_ret
      exact ⟨rfl, by (repeat' (first | (with_reducible exact Below.refl _ _) | (with_reducible assumption) | (with_reducible refine below_drewN ?_ _) | (with_reducible refine Below.drew ?_) | (with_reducible refine below_new ?_ (Nat.le_refl _) _) | (with_reducible refine Below.setCell ?_ ?_ _) | (with_reducible refine below_go ?_ (by assumption) (Nat.le_refl _)) | (simp; done) | (simp; omega) | omega))⟩

end Go.Proofs.Ytmlndgmkjdkcfaa

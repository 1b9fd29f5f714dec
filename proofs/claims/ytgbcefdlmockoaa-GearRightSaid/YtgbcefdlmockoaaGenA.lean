/- Contracts of layer 9: what is right, what is safe. -/
import Derived.Test.YtgbcefdlmockoaaBrakeLaws
import Derived.Test.YtgbcefdlmockoaaExt
import Derived.Test.YtgbcefdlmockoaaPGen
namespace Go.Proofs.Ytgbcefdlmockoaa
open Go.RowKit
set_option linter.unusedVariables false
set_option linter.unusedSimpArgs false
attribute [local go_sem] ite_max ite_min vite_max vite_min ite_max0 vite_max0 ext_cell ext_frozen

set_option maxHeartbeats 1000000 in
theorem within_any (n lo hi : Int) (w : World) : Calls Try.prog 54 #[.int .i64 n, .int .i64 lo, .int .i64 hi] w fun e w' => e = .returned (.bool (decide (lo ≤ n ∧ n ≤ hi))) ∧ w = w' := by
  by_cases h1 : lo ≤ n
  · go_enter Try.func54, Try.ntmps54
    go_wp2
    go_ret
    exact ⟨by simp [h1], rfl⟩
  · have h2 : decide (lo ≤ n) = false := by simp; omega
    rw [decide_eq_false (show ¬ (lo ≤ n ∧ n ≤ hi) by omega)]
    go_enter Try.func54, Try.ntmps54
    go_wp2
    go_ret
    exact ⟨rfl, rfl⟩

set_option maxRecDepth 100000 in
set_option maxHeartbeats 2000000 in
theorem gright_any (V A D L H : Int) (w : World) : Calls Try.prog 34 #[.agg #[.int .i64 V, .int .i64 A, .int .i64 D, .int .i64 L, .int .i64 H]] w fun e w' => e = .returned (.bool (rightB ⟨V, A, D, L, H⟩)) ∧ Below w.heap.size w w' := by
  go_enter Try.func34, Try.ntmps34
  go_wp2_with (first | (go_at_call 54; refine (within_any _ _ _ _).mono ?_; rintro e w' ⟨rfl, rfl⟩))
  all_goals go_ret
  all_goals
    refine ⟨congrArg (fun b => Ending.returned (.bool b)) ?_, by (repeat' (first | (with_reducible exact Below.refl _ _) | (with_reducible assumption) | (with_reducible refine below_drewN ?_ _) | (with_reducible refine Below.drew ?_) | (with_reducible refine below_new ?_ (Nat.le_refl _) _) | (with_reducible refine Below.setCell ?_ ?_ _) | (with_reducible refine below_go ?_ (by assumption) (Nat.le_refl _)) | (simp; done) | (simp; omega) | omega))⟩
    rw [Bool.eq_iff_iff]
    simp only [rightB, decide_eq_true_eq, Bool.and_eq_true, Bool.false_eq_true, true_iff, false_iff]
    omega

theorem Way_sl (v d : Int) (w : World) (hv : 0 ≤ v ∧ v ≤ 1048576) (hd : 1 ≤ d ∧ d ≤ 1048576) :
    Calls Try.prog 55 #[.int .i64 v, .int .i64 d] w fun e w' => e = .returned (.int .i64 (slw v 0 d)) ∧ w = w' := by
  have h := Way_in v d w hv
  rw [lss_id d hd] at h
  exact h

set_option maxRecDepth 100000 in
set_option maxHeartbeats 2000000 in
theorem gsafe_any (V A D L H p v : Int) (w : World) (hr : rightB ⟨V, A, D, L, H⟩ = true) (hp : -9223372036854775808 ≤ p ∧ p ≤ 9223372036854775807) :
    Calls Try.prog 35 #[.agg #[.int .i64 V, .int .i64 A, .int .i64 D, .int .i64 L, .int .i64 H], .agg #[.int .i64 p, .int .i64 v]] w fun e w' => e = .returned (.bool (safeB ⟨V, A, D, L, H⟩ ⟨p, v⟩)) ∧ Below w.heap.size w w' := by
  have hy := rightB_yes hr
  simp only at hy
  by_cases c1 : L ≤ p ∧ p ≤ H
  · by_cases c2 : -1048576 ≤ v ∧ v ≤ 1048576
    · by_cases c3 : 0 ≤ v
      · have hb := slw_bound v 0 D (by omega) (by omega) (by omega)
        have hw : safeB ⟨V, A, D, L, H⟩ ⟨p, v⟩ = decide (slw v 0 D ≤ H - p) := by
          rw [Bool.eq_iff_iff]
          simp only [safeB, decide_eq_true_eq]
          omega
        have HW := Lib.hid hw
        clear hw
        go_enter Try.func35, Try.ntmps35
        go_wp2_with (first | (go_at_call 54; refine (within_any _ _ _ _).mono ?_; rintro e w' ⟨rfl, rfl⟩))
        refine wp_region_ext (by kernel_rfl) (by kernel_rfl) ?_
        repeat (go_big_quiet_step (first | (go_at_call 55; exact ext_same (Way_sl _ _ _ (by omega) (by omega)))))
        refine wpQuiet_nil ?_
        intro w1 hb1
        replace hb1 := ext_below hb1
        go_wp2
        go_ret
        rw [HW.out]
        exact ⟨rfl, by (repeat' (first | (with_reducible exact Below.refl _ _) | (with_reducible assumption) | (with_reducible refine below_drewN ?_ _) | (with_reducible refine Below.drew ?_) | (with_reducible refine below_new ?_ (Nat.le_refl _) _) | (with_reducible refine Below.setCell ?_ ?_ _) | (with_reducible refine below_go ?_ (by assumption) (Nat.le_refl _)) | (simp; done) | (simp; omega) | omega))⟩
      · have hb := slw_bound (-v) 0 D (by omega) (by omega) (by omega)
        have hw : safeB ⟨V, A, D, L, H⟩ ⟨p, v⟩ = decide (slw (-v) 0 D ≤ p - L) := by
          rw [Bool.eq_iff_iff]
          simp only [safeB, decide_eq_true_eq]
          omega
        have HW := Lib.hid hw
        clear hw
        go_enter Try.func35, Try.ntmps35
        go_wp2_with (first | (go_at_call 54; refine (within_any _ _ _ _).mono ?_; rintro e w' ⟨rfl, rfl⟩))
        refine wp_region_ext (by kernel_rfl) (by kernel_rfl) ?_
        repeat (go_big_quiet_step (first | (go_at_call 55; exact ext_same (Way_sl _ _ _ (by omega) (by omega)))))
        refine wpQuiet_nil ?_
        intro w1 hb1
        replace hb1 := ext_below hb1
        go_wp2
        go_ret
        rw [HW.out]
        exact ⟨rfl, by (repeat' (first | (with_reducible exact Below.refl _ _) | (with_reducible assumption) | (with_reducible refine below_drewN ?_ _) | (with_reducible refine Below.drew ?_) | (with_reducible refine below_new ?_ (Nat.le_refl _) _) | (with_reducible refine Below.setCell ?_ ?_ _) | (with_reducible refine below_go ?_ (by assumption) (Nat.le_refl _)) | (simp; done) | (simp; omega) | omega))⟩
    · have hw : safeB ⟨V, A, D, L, H⟩ ⟨p, v⟩ = false := decide_eq_false (by simp only; omega)
      have HW := Lib.hid hw
      have d2 : decide (-1048576 ≤ v ∧ v ≤ 1048576) = false := decide_eq_false c2
      clear hw c2
      go_enter Try.func35, Try.ntmps35
      go_wp2_with (first | (go_at_call 54; refine (within_any _ _ _ _).mono ?_; rintro e w' ⟨rfl, rfl⟩))
      go_ret
      rw [HW.out]
      exact ⟨rfl, by (repeat' (first | (with_reducible exact Below.refl _ _) | (with_reducible assumption) | (with_reducible refine below_drewN ?_ _) | (with_reducible refine Below.drew ?_) | (with_reducible refine below_new ?_ (Nat.le_refl _) _) | (with_reducible refine Below.setCell ?_ ?_ _) | (with_reducible refine below_go ?_ (by assumption) (Nat.le_refl _)) | (simp; done) | (simp; omega) | omega))⟩
  · have hw : safeB ⟨V, A, D, L, H⟩ ⟨p, v⟩ = false := decide_eq_false (by simp only; omega)
    have HW := Lib.hid hw
    have d1 : decide (L ≤ p ∧ p ≤ H) = false := decide_eq_false c1
    clear hw c1
    go_enter Try.func35, Try.ntmps35
    go_wp2_with (first | (go_at_call 54; refine (within_any _ _ _ _).mono ?_; rintro e w' ⟨rfl, rfl⟩))
    go_ret
    rw [HW.out]
    exact ⟨rfl, by (repeat' (first | (with_reducible exact Below.refl _ _) | (with_reducible assumption) | (with_reducible refine below_drewN ?_ _) | (with_reducible refine Below.drew ?_) | (with_reducible refine below_new ?_ (Nat.le_refl _) _) | (with_reducible refine Below.setCell ?_ ?_ _) | (with_reducible refine below_go ?_ (by assumption) (Nat.le_refl _)) | (simp; done) | (simp; omega) | omega))⟩

/-- may it be asked? -/
def okB (l : LimS) (g : GenS) : Bool := rightB l && safeB l g

theorem gright_at (V A D L H : Int) (w : World) (b : Bool) (h : rightB ⟨V, A, D, L, H⟩ = b) : Calls Try.prog 34 #[.agg #[.int .i64 V, .int .i64 A, .int .i64 D, .int .i64 L, .int .i64 H]] w fun e w' => e = .returned (.bool b) ∧ Below w.heap.size w w' := by
  subst h
  exact gright_any V A D L H w
theorem gsafe_at (V A D L H p v : Int) (w : World) (hr : rightB ⟨V, A, D, L, H⟩ = true) (hp : -9223372036854775808 ≤ p ∧ p ≤ 9223372036854775807) (b : Bool) (h : safeB ⟨V, A, D, L, H⟩ ⟨p, v⟩ = b) :
    Calls Try.prog 35 #[.agg #[.int .i64 V, .int .i64 A, .int .i64 D, .int .i64 L, .int .i64 H], .agg #[.int .i64 p, .int .i64 v]] w fun e w' => e = .returned (.bool b) ∧ Below w.heap.size w w' := by
  subst h
  exact gsafe_any V A D L H p v w hr hp

set_option maxRecDepth 100000 in
set_option maxHeartbeats 2000000 in
theorem gok_any (V A D L H p v : Int) (w : World) (hp : -9223372036854775808 ≤ p ∧ p ≤ 9223372036854775807) :
    Calls Try.prog 56 #[.agg #[.int .i64 V, .int .i64 A, .int .i64 D, .int .i64 L, .int .i64 H], .agg #[.int .i64 p, .int .i64 v]] w fun e w' => e = .returned (.bool (okB ⟨V, A, D, L, H⟩ ⟨p, v⟩)) ∧ Below w.heap.size w w' := by
  cases hr : rightB ⟨V, A, D, L, H⟩
  · have hk : okB ⟨V, A, D, L, H⟩ ⟨p, v⟩ = false := by simp [okB, hr]
    have HK := Lib.hid hk
    have HR := Lib.hid hr
    clear hk hr
    go_enter Try.func56, Try.ntmps56
    go_wp2_with fail
    refine (gright_at _ _ _ _ _ _ _ HR.out).mono ?_
    rintro e w1 ⟨rfl, hb1⟩
    go_wp2
    go_ret
    rw [HK.out]
    exact ⟨rfl, by (repeat' (first | (with_reducible exact Below.refl _ _) | (with_reducible assumption) | (with_reducible refine below_drewN ?_ _) | (with_reducible refine Below.drew ?_) | (with_reducible refine below_new ?_ (Nat.le_refl _) _) | (with_reducible refine Below.setCell ?_ ?_ _) | (with_reducible refine below_go ?_ (by assumption) (Nat.le_refl _)) | (simp; done) | (simp; omega) | omega))⟩
  · have hk : okB ⟨V, A, D, L, H⟩ ⟨p, v⟩ = safeB ⟨V, A, D, L, H⟩ ⟨p, v⟩ := by simp [okB, hr]
    have HK := Lib.hid hk
    have HR := Lib.hid hr
    clear hk hr
    go_enter Try.func56, Try.ntmps56
    go_wp2_with fail
    refine (gright_at _ _ _ _ _ _ _ HR.out).mono ?_
    rintro e w1 ⟨rfl, hb1⟩
    obtain ⟨hb1c, hb1f⟩ := bcell hb1
    have hb1z := hb1.size
    have hb1c0 := fun o => hb1c (w.heap.size) o (by first | (simp; done) | (simp; omega) | (simp at *; omega) | omega)
    have hb1f0 := fun o => hb1f (w.heap.size) o (by first | (simp; done) | (simp; omega) | (simp at *; omega) | omega)
    have hb1l0 := below_lt (b := w.heap.size) hb1 (by first | (simp; done) | (simp; omega) | (simp at *; omega) | omega)
    have hb1c1 := fun o => hb1c (w.heap.size + 1) o (by first | (simp; done) | (simp; omega) | (simp at *; omega) | omega)
    have hb1f1 := fun o => hb1f (w.heap.size + 1) o (by first | (simp; done) | (simp; omega) | (simp at *; omega) | omega)
    have hb1l1 := below_lt (b := w.heap.size + 1) hb1 (by first | (simp; done) | (simp; omega) | (simp at *; omega) | omega)
    go_wp2_with fail
    refine (gsafe_any _ _ _ _ _ _ _ _ HR.out hp).mono ?_
    rintro e w2 ⟨rfl, hb2⟩
    go_wp2
    go_ret
    rw [HK.out]
    exact ⟨rfl, by (repeat' (first | (with_reducible exact Below.refl _ _) | (with_reducible assumption) | (with_reducible refine below_drewN ?_ _) | (with_reducible refine Below.drew ?_) | (with_reducible refine below_new ?_ (Nat.le_refl _) _) | (with_reducible refine Below.setCell ?_ ?_ _) | (with_reducible refine below_go ?_ (by assumption) (Nat.le_refl _)) | (simp; done) | (simp; omega) | omega))⟩
theorem gok_at (V A D L H p v : Int) (w : World) (hp : -9223372036854775808 ≤ p ∧ p ≤ 9223372036854775807) (b : Bool) (h : okB ⟨V, A, D, L, H⟩ ⟨p, v⟩ = b) :
    Calls Try.prog 56 #[.agg #[.int .i64 V, .int .i64 A, .int .i64 D, .int .i64 L, .int .i64 H], .agg #[.int .i64 p, .int .i64 v]] w fun e w' => e = .returned (.bool b) ∧ Below w.heap.size w w' := by
  subst h
  exact gok_any V A D L H p v w hp

theorem reach_sl (s d : Int) (w : World) (hs : 0 ≤ s ∧ s ≤ 2199023255552) (hd : 1 ≤ d ∧ d ≤ 1048576) :
    Calls Try.prog 66 #[.int .i64 s, .int .i64 d] w fun e w' => e = .returned (.int .i64 (rch s d)) ∧ Below w.heap.size w w' := by
  have h := reach_any s d w
  rw [wy_id s hs, lss_id d hd] at h
  exact h

set_option maxRecDepth 100000 in
set_option maxHeartbeats 2000000 in
theorem gup_any (V A D L H v room : Int) (w : World) (hr : rightB ⟨V, A, D, L, H⟩ = true) (hv : 0 ≤ v ∧ v ≤ 1048576) (hm : 0 ≤ room ∧ room ≤ 2199023255552) :
    Calls Try.prog 60 #[.agg #[.int .i64 V, .int .i64 A, .int .i64 D, .int .i64 L, .int .i64 H], .int .i64 v, .int .i64 room] w fun e w' => e = .returned (.tuple #[.int .i64 (upLo ⟨V, A, D, L, H⟩ v), .int .i64 (upHi ⟨V, A, D, L, H⟩ v room)]) ∧ Below w.heap.size w w' := by
  have hy := rightB_yes hr
  simp only at hy
  have hb := rch_bd room D
  go_enter Try.func60, Try.ntmps60
  go_wp2_with fail
  refine wp_region_ext (by kernel_rfl) (by kernel_rfl) ?_
  repeat (go_big_quiet_step (first | (go_at_call 66; exact ext_call (reach_sl _ _ _ (by omega) (by omega)))))
  refine wpQuiet_nil ?_
  intro w1 hb1
  replace hb1 := ext_below hb1
  go_wp2
  go_ret2
  rw [show upLo ⟨V, A, D, L, H⟩ v = max (v - D) 0 by unfold upLo; simp only; omega, show upHi ⟨V, A, D, L, H⟩ v room = max (v - D) (max 0 (min (rch room D) (min V (v + A)))) by unfold upHi upLo; simp only; omega]
  exact ⟨rfl, by (repeat' (first | (with_reducible exact Below.refl _ _) | (with_reducible assumption) | (with_reducible refine below_drewN ?_ _) | (with_reducible refine Below.drew ?_) | (with_reducible refine below_new ?_ (Nat.le_refl _) _) | (with_reducible refine Below.setCell ?_ ?_ _) | (with_reducible refine below_go ?_ (by assumption) (Nat.le_refl _)) | (simp; done) | (simp; omega) | omega))⟩

end Go.Proofs.Ytgbcefdlmockoaa

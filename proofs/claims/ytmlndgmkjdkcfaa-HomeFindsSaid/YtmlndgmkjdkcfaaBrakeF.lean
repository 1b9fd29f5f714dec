/- Layer 8: the fixed answers; who is slow. -/
import Derived.Test.YtmlndgmkjdkcfaaBrakeE
namespace Go.Proofs.Ytmlndgmkjdkcfaa
open Go.RowKit
set_option linter.unusedVariables false
set_option linter.unusedSimpArgs false
attribute [local go_sem] ite_max ite_min vite_max vite_min

theorem rch_22_3 : rch (wy 22) (lss 3) = 10 := by
  have e1 : wy 22 = 22 := rfl
  have e2 : lss 3 = 3 := rfl
  rw [e1, e2]
  refine grt_eq _ _ _ (by omega) (by omega) (by decide) (fun x h1 h2 => ?_)
  cases h : stopsB 22 3 x
  · rfl
  · exact absurd (stopsB_anti 22 3 (by omega) 11 x (by omega) h) (by decide)

set_option maxHeartbeats 1000000 in
theorem awake8 (w : World) : Calls Try.prog 15 #[] w fun e w' => e = .returned (.bool true) ∧ Below w.heap.size w w' := by
  have h1 := fun (w : World) => (Way_any 10 3 w).mono (R' := fun e w' => e = .returned (.int .i64 12) ∧ w = w') fun e w' h => h
  have h2 := fun (w : World) => (slow_any 10 4 3 w).mono (R' := fun e w' => e = .returned (.int .i64 7) ∧ w = w') fun e w' h => h
  have h3 := fun (w : World) => (reach_any 22 3 w).mono (R' := fun e w' => e = .returned (.int .i64 10) ∧ Below w.heap.size w w') fun e w' h => by rw [rch_22_3] at h; exact h
  have h4 := fun (w : World) => (cycles_any 10 3 w).mono (R' := fun e w' => e = .returned (.int .i64 4) ∧ w = w') fun e w' h => h
  have H1 := Lib.hid h1
  have H2 := Lib.hid h2
  have H3 := Lib.hid h3
  have H4 := Lib.hid h4
  clear h1 h2 h3 h4
  go_enter Try.func15, Try.ntmps15
  go_wp2_with (first | (go_at_call 19; refine (H1.out _).mono ?_; rintro e w' ⟨rfl, rfl⟩) | (go_at_call 17; refine (H2.out _).mono ?_; rintro e w' ⟨rfl, rfl⟩) | (go_at_call 20; refine (H4.out _).mono ?_; rintro e w' ⟨rfl, rfl⟩) | (go_at_call 23; refine (H3.out _).mono ?_; rintro e w1 ⟨rfl, hb⟩))
  go_ret
  exact ⟨rfl, hb⟩

set_option maxHeartbeats 1000000 in
theorem slow8 (v d : Int) (w : World) : Calls Try.prog 16 #[.int .i64 v, .int .i64 d] w fun e w' => e = .returned (.bool (decide (4000 < spd v) && decide (d < 300))) ∧ w = w' := by
  by_cases h : 4000 < spd v
  · go_enter Try.func16, Try.ntmps16
    go_wp2_with (first | (go_at_call 24; refine (rvel_any _ _).mono ?_; rintro e w' ⟨rfl, rfl⟩))
    go_ret
    rw [decide_eq_true h]
    exact ⟨rfl, rfl⟩
  · go_enter Try.func16, Try.ntmps16
    go_wp2_with (first | (go_at_call 24; refine (rvel_any _ _).mono ?_; rintro e w' ⟨rfl, rfl⟩))
    go_ret
    rw [decide_eq_false (by omega)]
    exact ⟨rfl, rfl⟩

end Go.Proofs.Ytmlndgmkjdkcfaa

/- Layer 8: BrakeReach returns true, whatever the numbers. Conditions: none. -/
import Derived.Test.YtgbcefdlmockoaaBrakeF
import Derived.Test.YtgbcefdlmockoaaFrame
namespace Go.Proofs.Ytgbcefdlmockoaa
open Go.ChangeShapes Go.WideShapes Go.ChangeAt Go.RowKit
set_option linter.unusedVariables false
set_option linter.unusedSimpArgs false
attribute [local go_sem] ite_max ite_min vite_max vite_min

theorem Way_in (v d : Int) (w : World) (hv : 0 ≤ v ∧ v ≤ 1048576) :
    Calls Try.prog 55 #[.int .i64 v, .int .i64 d] w fun e w' => e = .returned (.int .i64 (slw v 0 (lss d))) ∧ w = w' := by
  have h := Way_any v d w
  rw [spd_id v hv] at h
  exact h





end Go.Proofs.Ytgbcefdlmockoaa

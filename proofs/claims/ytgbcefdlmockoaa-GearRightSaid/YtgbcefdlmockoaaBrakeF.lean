/- Layer 8: the fixed answers; who is slow. -/
import Derived.Test.YtgbcefdlmockoaaBrakeE
namespace Go.Proofs.Ytgbcefdlmockoaa
open Go.RowKit
set_option linter.unusedVariables false
set_option linter.unusedSimpArgs false
attribute [local go_sem] ite_max ite_min vite_max vite_min

theorem rch_22_3 : rch (wy 22) (lss 3) = 10 := by
  have e1 : wy 22 = 22 := rfl
  have e2 : lss 3 = 3 := rfl
  rw [e1, e2]
  refine grt_eq _ _ _ (by omega) (by omega) (by decide) (fun x h1 h2 => ?_)
  cases h : stopsB 22 3 x
  · rfl
  · exact absurd (stopsB_anti 22 3 (by omega) 11 x (by omega) h) (by decide)





end Go.Proofs.Ytgbcefdlmockoaa

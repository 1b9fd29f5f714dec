/- Contracts of the reference's functions of layer 8. -/
import Derived.Test.YtgbcefdlmockoaaBrakeD
namespace Go.Proofs.Ytgbcefdlmockoaa
open Go.RowKit
set_option linter.unusedVariables false
set_option linter.unusedSimpArgs false
attribute [local go_sem] ite_max ite_min vite_max vite_min







theorem in_spd (n : Int) : max 0 (min 1048576 n) = spd n := rfl
theorem in_lss (n : Int) : max 1 (min 1048576 n) = lss n := rfl





end Go.Proofs.Ytgbcefdlmockoaa

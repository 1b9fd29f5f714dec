/- Contracts of layer 9: what is wanted to come by a place and stop at another one. -/
import Derived.Test.YtgbcefdlmockoaaGenD
import Derived.Test.YtgbcefdlmockoaaPGenB
namespace Go.Proofs.Ytgbcefdlmockoaa
open Go.RowKit
set_option linter.unusedVariables false
set_option linter.unusedSimpArgs false
attribute [local go_sem] ite_max ite_min vite_max vite_min ite_max0 vite_max0 ext_cell ext_frozen







end Go.Proofs.Ytgbcefdlmockoaa

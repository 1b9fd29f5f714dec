/- Layer 1: the fixed answers; contracts by equations. -/
import Derived.Test.YtcamegfnhbbaeaaQF
import Derived.Test.YtcamegfnhbbaeaaFrame
namespace Go.Proofs.Ytcamegfnhbbaeaa
open Go.ChangeShapes Go.WideShapes Go.ChangeAt Go.RowKit
set_option linter.unusedVariables false
set_option linter.unusedSimpArgs false
attribute [local go_sem] ite_max ite_min vite_max vite_min ext_cell ext_frozen





end Go.Proofs.Ytcamegfnhbbaeaa

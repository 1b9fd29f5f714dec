/- Contracts of layer 1: the division of 128 bits by 64, of a number that has a high part. -/
import Derived.Test.YtcamegfnhbbaeaaQD
namespace Go.Proofs.Ytcamegfnhbbaeaa
open Go.RowKit
set_option linter.unusedVariables false
set_option linter.unusedSimpArgs false
attribute [local go_sem] ite_max ite_min vite_max vite_min ext_cell ext_frozen



end Go.Proofs.Ytcamegfnhbbaeaa

/- Contracts of layer 13: the reference's search. -/
import Derived.Test.YtmlndgmkjdkcfaaHomeC
namespace Go.Proofs.Ytmlndgmkjdkcfaa
open Go.RowKit
set_option linter.unusedVariables false
set_option linter.unusedSimpArgs false







end Go.Proofs.Ytmlndgmkjdkcfaa

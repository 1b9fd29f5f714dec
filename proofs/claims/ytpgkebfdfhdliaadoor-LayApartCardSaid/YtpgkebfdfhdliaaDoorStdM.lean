/- Layer 16: the reference's table (TreeM), beside the program's. -/
import Derived.Test.YtpgkebfdfhdliaaDoorM16
import Derived.Test.YtpgkebfdfhdliaaDoorTreeM
namespace Go.Proofs.YtpgkebfdfhdliaaDoor
set_option linter.unusedVariables false
set_option linter.unusedSimpArgs false

end Go.Proofs.YtpgkebfdfhdliaaDoor

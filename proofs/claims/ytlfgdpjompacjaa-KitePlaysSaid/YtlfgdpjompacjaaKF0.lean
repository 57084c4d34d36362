/- What every claim of this seat needs of the program as a whole. -/
import Derived.Test.YtlfgdpjompacjaaRows
import Derived.ProofKit
import Derived.Test.YtlfgdpjompacjaaGC
set_option linter.unusedVariables false
set_option linter.unusedSimpArgs false
namespace Go.Proofs.Ytlfgdpjompacjaa
open Go.ChangeShapes Go.WideShapes Go.ChangeAt Go.RowKit
theorem own : ownKnob Try.prog.godebug = none := by kernel_rfl
theorem laid : laidOutB Try.prog = true := by kernel_rfl
end Go.Proofs.Ytlfgdpjompacjaa

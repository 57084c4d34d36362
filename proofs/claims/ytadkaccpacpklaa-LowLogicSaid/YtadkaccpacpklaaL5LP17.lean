/- What is known: the reference's words. -/
import Derived.Test.YtadkaccpacpklaaL5LP16
set_option linter.unusedVariables false
set_option linter.unusedSimpArgs false
namespace Go.Dm
set_option maxRecDepth 100000
open Go.Low
variable {s:tS.den} {all:zR}
end Go.Dm

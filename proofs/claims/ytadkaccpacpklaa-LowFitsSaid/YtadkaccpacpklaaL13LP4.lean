/- The search hands on just what the plain one lists. -/
import Derived.Test.YtadkaccpacpklaaL13LP3
set_option linter.unusedVariables false
set_option linter.unusedSimpArgs false
namespace Go.Dm
set_option maxRecDepth 100000
open Go.Low
variable {s:tS.den} {L:LL} {r:List Int} {same:kA} {can:sq}
end Go.Dm

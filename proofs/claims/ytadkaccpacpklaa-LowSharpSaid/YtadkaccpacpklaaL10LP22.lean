/- Truths: low.Fits. -/
import Derived.Test.YtadkaccpacpklaaL10LP21
set_option linter.unusedVariables false
set_option linter.unusedSimpArgs false
namespace Go.Dm
set_option maxRecDepth 100000
open Go.Low
variable {s:tS.den} {A X Y D:cT}
end Go.Dm

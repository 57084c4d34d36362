/- Truths: what fits. -/
import Derived.Test.YtadkaccpacpklaaL10LP20
set_option linter.unusedVariables false
set_option linter.unusedSimpArgs false
namespace Go.Dm
set_option maxRecDepth 100000
open Go.Low
variable {s:tS.den} {A X Y D:cT}
def hr (s:tS.den) (t:Nat):Int:=mT s (t + 1) - mT s t
end Go.Dm

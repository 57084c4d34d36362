/- LowLogic. -/
import Derived.Test.YtadkaccpacpklaaL10LP18
import Derived.Test.YtadkaccpacpklaaL10LM4
set_option linter.unusedVariables false
set_option linter.unusedSimpArgs false
namespace Go.Dm
set_option maxRecDepth 100000
open Go.Low
variable {s:tS.den}
theorem nb {a b:Int} (h:a=b):(!decide (a=b))=false:=by rw [decide_eq_true h]; rfl
end Go.Dm

/- low.Where in plain terms. -/
import Derived.Test.YtadkaccpacpklaaL15LP18
import Derived.Test.YtadkaccpacpklaaL15LM5
set_option linter.unusedVariables false
set_option linter.unusedSimpArgs false
namespace Go.Dm
set_option maxRecDepth 100000
open Go.Low
variable {s:tS.den}
def b0:B6:=((0:Int),((0:Int),((0:Int),((0:Int),((0:Int),((0:Int),()))))))
end Go.Dm

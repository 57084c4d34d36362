/- The reference: choices of links. -/
import Derived.Test.YtadkaccpacpklaaL11LP5
set_option linter.unusedVariables false
set_option linter.unusedSimpArgs false
namespace Go.Dm
set_option maxRecDepth 100000
open Go.Low
end Go.Dm

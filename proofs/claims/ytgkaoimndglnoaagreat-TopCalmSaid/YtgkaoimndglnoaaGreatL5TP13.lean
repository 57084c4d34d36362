/- Bounds, the drawn field, and what fits. -/
import Derived.Test.YtgkaoimndglnoaaGreatL5TP12
import Derived.Test.YtgkaoimndglnoaaGreatL5TP3
set_option linter.unusedVariables false
set_option linter.unusedSimpArgs false
namespace Go.Dm
set_option maxRecDepth 100000
end Go.Dm

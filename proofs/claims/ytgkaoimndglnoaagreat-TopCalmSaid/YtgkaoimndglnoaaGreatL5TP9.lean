/- What is known of a reading holds what it shows in truth. -/
import Derived.Test.YtgkaoimndglnoaaGreatL5TP8
set_option linter.unusedVariables false
set_option linter.unusedSimpArgs false
namespace Go.Dm
set_option maxRecDepth 100000
end Go.Dm

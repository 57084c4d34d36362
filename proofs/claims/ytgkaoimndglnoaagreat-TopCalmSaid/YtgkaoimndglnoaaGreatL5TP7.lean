/- What is known of a reading: the corrections of the mercury, and that they go up and down together. -/
import Derived.Test.YtgkaoimndglnoaaGreatL5TP4
set_option linter.unusedVariables false
set_option linter.unusedSimpArgs false
namespace Go.Dm
set_option maxRecDepth 100000
end Go.Dm

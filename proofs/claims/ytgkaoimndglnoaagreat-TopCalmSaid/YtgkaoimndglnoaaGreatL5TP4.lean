/- Stations, by the reference; and that what agrees leaves an index. -/
import Derived.Test.YtgkaoimndglnoaaGreatL5TP3
set_option linter.unusedVariables false
set_option linter.unusedSimpArgs false
namespace Go.Dm
set_option maxRecDepth 100000
end Go.Dm

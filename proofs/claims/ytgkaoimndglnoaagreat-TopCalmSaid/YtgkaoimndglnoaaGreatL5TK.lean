/- The rows of the documents' examples. -/
import Derived.Test.YtgkaoimndglnoaaGreatL5GC
set_option linter.unusedVariables false
set_option linter.unusedSimpArgs false
namespace Go.Dm
set_option maxRecDepth 100000
theorem fI:M7 ()=some (true,()):=by kernel_rfl
end Go.Dm

/- The least and the greatest of a list; the reference's way to widen a span. -/
import Derived.Test.YtlfgdpjompacjaaL15NP11
set_option linter.unusedVariables false
set_option linter.unusedSimpArgs false
namespace Go.Dm
set_option maxRecDepth 100000

end Go.Dm


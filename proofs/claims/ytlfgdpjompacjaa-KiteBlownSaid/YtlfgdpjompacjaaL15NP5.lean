/- The theorem of marks. -/
import Derived.Test.YtlfgdpjompacjaaL15NP4
set_option linter.unusedVariables false
set_option linter.unusedSimpArgs false
namespace Go.Dm
set_option maxRecDepth 100000

end Go.Dm


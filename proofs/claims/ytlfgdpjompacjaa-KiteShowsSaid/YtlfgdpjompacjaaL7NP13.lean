/- The rows of winds, least and greatest. -/
import Derived.Test.YtlfgdpjompacjaaL7NP12
set_option linter.unusedVariables false
set_option linter.unusedSimpArgs false
namespace Go.Dm
set_option maxRecDepth 100000

end Go.Dm


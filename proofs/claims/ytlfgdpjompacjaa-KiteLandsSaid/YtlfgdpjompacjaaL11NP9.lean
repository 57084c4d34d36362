/- KitePlays. -/
import Derived.Test.YtlfgdpjompacjaaL11NP8
set_option linter.unusedVariables false
set_option linter.unusedSimpArgs false
namespace Go.Dm
set_option maxRecDepth 100000

end Go.Dm


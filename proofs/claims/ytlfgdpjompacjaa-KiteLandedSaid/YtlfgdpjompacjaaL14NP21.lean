/- The laws KiteWinds and KiteShows. -/
import Derived.Test.YtlfgdpjompacjaaL14NP20
set_option linter.unusedVariables false
set_option linter.unusedSimpArgs false
namespace Go.Dm
set_option maxRecDepth 100000

/-! the reference -/
/-! the truth that shows an end -/
end Go.Dm


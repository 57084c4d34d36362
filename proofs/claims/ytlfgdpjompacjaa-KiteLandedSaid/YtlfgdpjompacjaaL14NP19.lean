/- The reference's first truth; possible; what First and With come to. -/
import Derived.Test.YtlfgdpjompacjaaL14NP18
set_option linter.unusedVariables false
set_option linter.unusedSimpArgs false
namespace Go.Dm
set_option maxRecDepth 100000

section
variable {f : flightT} {se sn : Sl spanI}
end
/-! the rule -/
/-! the same truths -/
end Go.Dm


/- The rule's search for winds. -/
import Derived.Test.YtlfgdpjompacjaaL14NP14
set_option linter.unusedVariables false
set_option linter.unusedSimpArgs false
namespace Go.Dm
set_option maxRecDepth 100000

section
variable {f : flightT} {u d t : Int} {sp : Sl spanI} {fd : spanI}
end
end Go.Dm


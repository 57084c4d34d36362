/- Blow, and the reference's list. -/
import Derived.Test.YtlfgdpjompacjaaL14NP15
set_option linter.unusedVariables false
set_option linter.unusedSimpArgs false
namespace Go.Dm
set_option maxRecDepth 100000

def wayI (north : Bool) : Int := bif north then 1 else 0
/-! the reference -/
section
variable {f : flightT} {u d t : Int} {sp : Sl spanI} {fd : spanI} {tm : rowI}
end
end Go.Dm


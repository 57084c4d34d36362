/- Levels, and what is above a height. -/
import Derived.Test.YtlfgdpjompacjaaL15NP3
set_option linter.unusedVariables false
set_option linter.unusedSimpArgs false
namespace Go.Dm
set_option maxRecDepth 100000

def e0 : rowI := ⟨0, fun _ => ((0 : Int), ())⟩
/-! the first of which something holds -/
end Go.Dm


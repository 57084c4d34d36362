/- The rows of winds, least and greatest. -/
import Derived.Test.YtlfgdpjompacjaaL15NP12
set_option linter.unusedVariables false
set_option linter.unusedSimpArgs false
namespace Go.Dm
set_option maxRecDepth 100000

def rowW (g : Nat → Int) (n : Nat) : rowI := tab ⟨0, fun _ => ((0 : Int), ())⟩ (fun j => (g j, ())) n
end Go.Dm


/- Bounds of winds, by the rule and by the reference. -/
import Derived.Test.YtlfgdpjompacjaaL14NP19
set_option linter.unusedVariables false
set_option linter.unusedSimpArgs false
namespace Go.Dm
set_option maxRecDepth 100000

/-! the first for which something holds -/
/-! widening, one number after the other -/
end Go.Dm


/- The least and the greatest of a list; the reference's way to widen a span. -/
import Derived.Test.YtlfgdpjompacjaaL7NP11
set_option linter.unusedVariables false
set_option linter.unusedSimpArgs false
namespace Go.Dm
set_option maxRecDepth 100000

theorem mn_e (a b : Int) : mn a b = min a b := by unfold mn; split <;> omega
theorem mx_e (a b : Int) : mx a b = max a b := by unfold mx; split <;> omega
end Go.Dm


/- Bounds of winds, by the rule and by the reference. -/
import Derived.Test.YtlfgdpjompacjaaL11NP19
set_option linter.unusedVariables false
set_option linter.unusedSimpArgs false
namespace Go.Dm
set_option maxRecDepth 100000

/-! the first for which something holds -/
/-! widening, one number after the other -/
theorem M83xe (a b x : Int) (first : Bool) : M83 (no_index ((a, (b, ())), (x, (first, ())))) = some ((bif first then (x, (x, ())) else (mn a x, (mx b x, ()))), ()) := by
  cases first <;> rfl
end Go.Dm


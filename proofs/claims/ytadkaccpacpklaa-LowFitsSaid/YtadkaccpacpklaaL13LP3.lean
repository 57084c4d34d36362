/- The search hands on just what the plain one lists. -/
import Derived.Test.YtadkaccpacpklaaL13LP2
set_option linter.unusedVariables false
set_option linter.unusedSimpArgs false
namespace Go.Dm
set_option maxRecDepth 100000
open Go.Low
variable {s:tS.den} {L:LL} {r:List Int} {same:kA} {can:sq}
theorem Ck (j:Nat) (r:List Int):eY (j + 1) r=eY j r + (bif has r (j:Int) then 0 else 1):=by
 simp only [eY,List.range_succ,List.filter_append,List.length_append]
 congr 1
 cases h:has r (j:Int) <;> simp [h]
end Go.Dm

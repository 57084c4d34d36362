/- All links: as they are listed map by map; which these are. -/
import Derived.Test.YtadkaccpacpklaaL13LM1
set_option linter.unusedVariables false
set_option linter.unusedSimpArgs false
namespace Go.Low
variable {s:PS}
def first (s:PS):List Int:=List.replicate (s.k 0) (-1)
theorem zN {r:List Int} {b:Int}:has r b=true↔∃ i:Nat,r[i]? = some b:=by
 unfold has
 rw [List.contains_iff_mem,List.mem_iff_getElem?]
end Go.Low

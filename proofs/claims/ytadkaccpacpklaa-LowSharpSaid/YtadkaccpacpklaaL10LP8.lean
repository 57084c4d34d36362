/- The reference: each low can be the same as all that it was before. -/
import Derived.Test.YtadkaccpacpklaaL10LP7
set_option linter.unusedVariables false
set_option linter.unusedSimpArgs false
namespace Go.Dm
set_option maxRecDepth 100000
open Go.Low
variable {s:tS.den}
structure Pre (s:tS.den) (L:LL):Prop where
 sh:Shape s L []
 first:L.getD 0 []=first (cB s)
theorem OO {o:cT} {t i:Nat} (ht:t < o.n) (hi':i < (o.g t).1.n):qR (aW o) t i=(show Int from ((o.g t).1.g i).1):=by
 unfold qR
 rw [kH ht,List.getD_eq_getElem?_getD,gR,if_pos hi']; rfl
end Go.Dm

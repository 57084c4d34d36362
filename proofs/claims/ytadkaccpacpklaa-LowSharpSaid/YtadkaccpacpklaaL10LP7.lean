/- The reference: what links must keep. -/
import Derived.Test.YtadkaccpacpklaaL10LP6
set_option linter.unusedVariables false
set_option linter.unusedSimpArgs false
namespace Go.Dm
set_option maxRecDepth 100000
open Go.Low
variable {s:tS.den}
theorem kH {o:cT} {t:Nat} (h:t < o.n):(aW o).getD t []=aV (o.g t).1:=by
 rw [List.getD_eq_getElem?_getD,tW h]; rfl
theorem getD_take {L:LL} {t j:Nat} (h:t < j):(L.take j).getD t []=L.getD t []:=by
 simp only [List.getD_eq_getElem?_getD]
 rw [List.getElem?_take_of_lt h]
end Go.Dm

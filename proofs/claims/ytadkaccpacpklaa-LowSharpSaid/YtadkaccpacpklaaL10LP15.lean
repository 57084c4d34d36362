/- In how many links each fact is so. -/
import Derived.Test.YtadkaccpacpklaaL10LP14
set_option linter.unusedVariables false
set_option linter.unusedSimpArgs false
namespace Go.Dm
set_option maxRecDepth 100000
open Go.Low
variable {s:tS.den}
abbrev Fact:=Int×Int×Int×Int×Unit
def hit (N:Nat) (L:LL) (t i:Nat):List Fact:=
 (if t=0 then [] else if qR L t i < 0 then [((1:Int),(t:Int),(i:Int),(0:Int),())] else [((0:Int),(t:Int),(i:Int),qR L t i,())]) ++ (if t + 1 < N/\has (L.getD (t + 1) []) (i:Int)=false then [((2:Int),(t:Int),(i:Int),(0:Int),())] else [])
theorem Good.rows {it:fD.den} (h:Good s it):∃ rows:cT,it=vw s rows/\PC s rows/\toL it=aW rows:=⟨it.1.2.2.2.2.2.1,h.eq,⟨h.n,h.k⟩,rfl⟩
variable {L:LL} {N t i:Nat}
end Go.Dm

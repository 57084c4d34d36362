/- LowMore. -/
import Derived.Test.YtadkaccpacpklaaL15LP27
import Derived.Test.YtadkaccpacpklaaL15LP19
set_option linter.unusedVariables false
set_option linter.unusedSimpArgs false
namespace Go.Dm
set_option maxRecDepth 100000
open Go.Low
variable {s:tS.den} {fr to:Int}
theorem abi (hs:(cB s).Ok):s.1.n<=1000/\∀ t,t < s.1.n->(s.1.g t).2.1.n<=1000:=⟨by have:=eF hs; omega,fun t ht=>by have:=dN hs ht; omega⟩
section
variable {sp bn gn:Int} (hx:XOk s fr to sp bn gn) (ho:Io s=true) (ha:Dg (xS fr to sp bn gn s s.1.n)=true)
include hx ho
end
theorem tb {a b:Int} (h:a≠b):(!decide (a=b))=true:=by rw [decide_eq_false h]; rfl
end Go.Dm

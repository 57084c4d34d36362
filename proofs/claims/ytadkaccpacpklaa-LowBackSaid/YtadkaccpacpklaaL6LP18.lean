/- LowSames. -/
import Derived.Test.YtadkaccpacpklaaL6LP17
set_option linter.unusedVariables false
set_option linter.unusedSimpArgs false
namespace Go.Dm
set_option maxRecDepth 100000
open Go.Low
variable {s:tS.den}
theorem wn1 (hs:(cB s).Ok):W (((s.1.n:Nat):Int) - 1)=((s.1.n - 1:Nat):Int):=by
 have:=eF hs
 have xU:0 < s.1.n:=hs.n1
 rw [gQ ⟨by omega,by omega⟩]; omega
theorem aQz (hs:(cB s).Ok) {x:Int} (h0:¬ (x < 1)) (h:¬ (((s.1.n:Nat):Int)<=x)):oV x 1 (W (((s.1.n:Nat):Int) - 1))=true:=by
 have xU:0 < s.1.n:=hs.n1
 unfold oV; rw [wn1 hs,decide_eq_true (by omega:1<=x),decide_eq_true (by omega:x<=((s.1.n - 1:Nat):Int))]; rfl
end Go.Dm

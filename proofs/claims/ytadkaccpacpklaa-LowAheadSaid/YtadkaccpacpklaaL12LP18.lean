/- LowSames. -/
import Derived.Test.YtadkaccpacpklaaL12LP17
set_option linter.unusedVariables false
set_option linter.unusedSimpArgs false
namespace Go.Dm
set_option maxRecDepth 100000
open Go.Low
variable {s:tS.den}
theorem wn1 (hs:(cB s).Ok):W (((s.1.n:Nat):Int) - 1)=((s.1.n - 1:Nat):Int):=by
 have:=eF hs
 have xU:0 < s.1.n:=hs.n1
 rw [gQ ⟨by omega,by omega⟩]; omega
end Go.Dm

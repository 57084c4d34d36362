/- The search, and what it hands on. -/
import Derived.Test.YtadkaccpacpklaaL13LP1
set_option linter.unusedVariables false
set_option linter.unusedSimpArgs false
namespace Go.Dm
set_option maxRecDepth 100000
open Go.Low
abbrev kA:=Sl (Sl sR.den)
abbrev sq:=Sl (Sl Py.den)
abbrev cT:=Sl (Ty.den (.cons (.sl sR) .nil))
def aW (rows:cT):LL:=(List.range rows.n).map fun t=>aV (rows.g t).1
variable {s:tS.den} {L:LL} {r:List Int} {same:kA} {can:sq}
theorem lE (hs:(cB s).Ok) {t i:Nat} (ht:t < s.1.n) (hi':i < (s.1.g t).2.1.n):vL ((s.1.g t).2.1.g i):=fun a ha=>by
 have h:0<=lo ((s.1.g t).2.1.g i) a/\lo ((s.1.g t).2.1.g i) a<=hi ((s.1.g t).2.1.g i) a/\hi ((s.1.g t).2.1.g i) a<=99999:=hs.box t i ht hi' a ha
 omega
theorem dN (hs:(cB s).Ok) {t:Nat} (ht:t < s.1.n):(s.1.g t).2.1.n<=3:=hs.k t ht
theorem eF (hs:(cB s).Ok):s.1.n<=4:=hs.n4
end Go.Dm

/- LowFits. -/
import Derived.Test.YtadkaccpacpklaaL12LP23
set_option linter.unusedVariables false
set_option linter.unusedSimpArgs false
namespace Go.Dm
set_option maxRecDepth 100000
open Go.Low
variable {s:tS.den} {A X Y D:cT}
def bxT (s:tS.den) (X Y D:cT) (t:Nat):Bool:=(List.range (s.1.g t).2.1.n).all fun i=>bx3 (tv X Y D t i) ((s.1.g t).2.1.g i)
def nrI (s:tS.den) (A X Y D:cT) (u i:Nat):Bool:=decide (ap A (u + 1) i < 0) || Wv s (tv X Y D (u + 1) i) (tv X Y D u (ap A (u + 1) i).toNat) (mT s (u + 1) - mT s u)
def ayW (r:Sl sR.den) (i:Nat):Bool:=!decide (0<=(show Int from (r.g i).1)) || !has ((aV r).take i) (show Int from (r.g i).1)
def Ww (r:Sl sR.den):Bool:=(List.range r.n).all (ayW r)
def atl (s:tS.den) (A X Y D:cT):Bool:=(List.range s.1.n).all (bxT s X Y D) && ((List.range (s.1.n - 1)).all (fun u=>(List.range (s.1.g (u + 1)).2.1.n).all (nrI s A X Y D u) && Ww (A.g (u + 1)).1) && (decide (((eP (aW A):Nat):Int)<=OC s) && decide (((fc (aW A):Nat):Int)<=Sa s)))
end Go.Dm

/- A suite of which more is known: what LowMore makes of a suite. -/
import Derived.Test.YtadkaccpacpklaaL12LP26
import Derived.Test.YtadkaccpacpklaaL12LM6
set_option linter.unusedVariables false
set_option linter.unusedSimpArgs false
namespace Go.Dm
set_option maxRecDepth 100000
open Go.Low
variable {s:tS.den} {fr to:Int}
def ah9 (l h p:Int):Int:=l + (h - l) * p / 100
def aEc (fr to:Int) (b:B6):B6:=(ah9 b.1 b.2.1 fr,(ah9 b.1 b.2.1 to,(ah9 b.2.2.1 b.2.2.2.1 fr,(ah9 b.2.2.1 b.2.2.2.1 to,(ah9 b.2.2.2.2.1 b.2.2.2.2.2.1 fr,(ah9 b.2.2.2.2.1 b.2.2.2.2.2.1 to,()))))))
def e3:Sl Py.den:=⟨0,fun i=>((0:Int),((0:Int),((0:Int),((0:Int),((0:Int),((0:Int),()))))))⟩
def e4:Sl Tc.den:=⟨0,fun i=>((0:Int),((⟨0,fun i=>((0:Int),((0:Int),((0:Int),((0:Int),((0:Int),((0:Int),()))))))⟩:Sl _),()))⟩
def azf (fr to:Int) (r:Sl Py.den) (n:Nat):Sl Py.den:=tab e3 (fun i=>aEc fr to (r.g i)) n
def aTJ (fr to:Int) (s:tS.den) (n:Nat):Sl Tc.den:=tab e4 (fun t=>(mT s t,(azf fr to (s.1.g t).2.1 (s.1.g t).2.1.n,()))) n
def xS (fr to sp bn gn:Int) (s:tS.den) (n:Nat):tS.den:=(aTJ fr to s n,(sp,(zn s,(bn,(gn,())))))
structure XOk (s:tS.den) (fr to sp bn gn:Int):Prop where
 p0:0<=fr
 pq:fr<=to
 q1:to<=100
 s0:0<=sp
 s1:sp<=pN s
 b0:0<=bn
 b1:bn<=OC s
 g0:0<=gn
 g1:gn<=Sa s
end Go.Dm

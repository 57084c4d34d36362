/- A suite of which more is known: what LowMore makes of a suite. -/
import Derived.Test.YtadkaccpacpklaaL10LP26
import Derived.Test.YtadkaccpacpklaaL10LM6
set_option linter.unusedVariables false
set_option linter.unusedSimpArgs false
namespace Go.Dm
set_option maxRecDepth 100000
open Go.Low
variable {s:tS.den} {fr to:Int}
def ah9 (l h p:Int):Int:=l + (h - l) * p / 100
theorem baW (a b:Int):vA (no_index (a,(b,())))=some ((a,(b,())),()):=rfl
def aEc (fr to:Int) (b:B6):B6:=(ah9 b.1 b.2.1 fr,(ah9 b.1 b.2.1 to,(ah9 b.2.2.1 b.2.2.2.1 fr,(ah9 b.2.2.1 b.2.2.2.1 to,(ah9 b.2.2.2.2.1 b.2.2.2.2.2.1 fr,(ah9 b.2.2.2.2.1 b.2.2.2.2.2.1 to,()))))))
def e3:Sl Py.den:=⟨0,fun i=>((0:Int),((0:Int),((0:Int),((0:Int),((0:Int),((0:Int),()))))))⟩
def e4:Sl Tc.den:=⟨0,fun i=>((0:Int),((⟨0,fun i=>((0:Int),((0:Int),((0:Int),((0:Int),((0:Int),((0:Int),()))))))⟩:Sl _),()))⟩
def azf (fr to:Int) (r:Sl Py.den) (n:Nat):Sl Py.den:=tab e3 (fun i=>aEc fr to (r.g i)) n
def aTJ (fr to:Int) (s:tS.den) (n:Nat):Sl Tc.den:=tab e4 (fun t=>(mT s t,(azf fr to (s.1.g t).2.1 (s.1.g t).2.1.n,()))) n
def xS (fr to sp bn gn:Int) (s:tS.den) (n:Nat):tS.den:=(aTJ fr to s n,(sp,(zn s,(bn,(gn,())))))
theorem aGE (h:Io s=true):(∀ t,t < s.1.n->jI s t < mT s t/\mT s t<=200/\(s.1.g t).2.1.n<=3/\∀ j,j < (s.1.g t).2.1.n->Is ((s.1.g t).2.1.g j)=true)/\(1<=s.1.n/\s.1.n<=4)/\(0<=pN s/\pN s<=50)/\(0<=zn s/\zn s<=1000)/\(0<=OC s/\OC s<=12)/\(0<=Sa s/\Sa s<=12):=by
 unfold Io UW oV at h
 simp only [Bool.and_eq_true,decide_eq_true_eq] at h
 obtain ⟨h1,⟨n1,n4⟩,sp,dp,bn,gn⟩:=h
 refine ⟨fun t ht=>?_,⟨by omega,by omega⟩,sp,dp,bn,gn⟩
 have:=mQ h1 ht
 unfold lD at this
 simp only [Bool.and_eq_true,Bool.not_eq_true',decide_eq_false_iff_not] at this
 obtain ⟨a,b,c,d⟩:=this
 exact ⟨by omega,by omega,by omega,fun j hj=>mQ d hj⟩
theorem aTL (h1:∀ t,t < s.1.n->jI s t < mT s t/\mT s t<=200/\(s.1.g t).2.1.n<=3/\∀ j,j < (s.1.g t).2.1.n->Is ((s.1.g t).2.1.g j)=true) (h2:1<=s.1.n/\s.1.n<=4) (h3:0<=pN s/\pN s<=50) (h4:0<=zn s/\zn s<=1000) (h5:0<=OC s/\OC s<=12) (h6:0<=Sa s/\Sa s<=12):Io s=true:=by
 unfold Io UW oV
 simp only [Bool.and_eq_true,decide_eq_true_eq]
 refine ⟨JL fun t ht=>?_,⟨by omega,by omega⟩,h3,h4,h5,h6⟩
 obtain ⟨a,b,c,d⟩:=h1 t ht
 unfold lD
 simp only [Bool.and_eq_true,Bool.not_eq_true',decide_eq_false_iff_not]
 exact ⟨by omega,by omega,by omega,JL fun j hj=>d j hj⟩
structure XOk (s:tS.den) (fr to sp bn gn:Int):Prop where
 p0:0<=fr
 pq:fr<=to
 q1:to<=100
 s0:0<=sp
 s1:sp<=pN s
 b0:0<=bn
 b1:bn<=OC s
 g0:0<=gn
 g1:gn<=Sa s
end Go.Dm

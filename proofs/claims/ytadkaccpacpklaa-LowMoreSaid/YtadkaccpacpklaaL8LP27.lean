/- A suite of which more is known: what LowMore makes of a suite. -/
import Derived.Test.YtadkaccpacpklaaL8LP26
import Derived.Test.YtadkaccpacpklaaL8LM6
set_option linter.unusedVariables false
set_option linter.unusedSimpArgs false
namespace Go.Dm
set_option maxRecDepth 100000
open Go.Low
variable {s:tS.den} {fr to:Int}
def ah9 (l h p:Int):Int:=l + (h - l) * p / 100
theorem aqb {l h:Int} (hl:l<=h) {p q:Int} (h0:0<=p) (hpq:p<=q) (h1:q<=100):l<=ah9 l h p/\ah9 l h p<=ah9 l h q/\ah9 l h q<=h:=by
 unfold ah9
 have d:0<=h - l:=by omega
 have a1:0<=(h - l) * p:=Int.mul_nonneg d h0
 have a2:(h - l) * p<=(h - l) * q:=Int.mul_le_mul_of_nonneg_left hpq d
 have a3:(h - l) * q<=(h - l) * 100:=Int.mul_le_mul_of_nonneg_left h1 d
 omega
theorem aQA {l h p:Int} (h0:0<=l) (hl:l<=h) (h1:h<=99999) (p0:0<=p) (p1:p<=100):W (l + W (Int.tdiv (W (W (h - l) * p)) 100))=ah9 l h p:=by
 have d:0<=h - l:=by omega
 have a1:0<=(h - l) * p:=Int.mul_nonneg d p0
 have a3:(h - l) * p<=(h - l) * 100:=Int.mul_le_mul_of_nonneg_left p1 d
 have e1:W (h - l)=h - l:=gQ ⟨by omega,by omega⟩
 have e2:W ((h - l) * p)=(h - l) * p:=gQ ⟨by omega,by omega⟩
 rw [e1,e2,Int.tdiv_eq_ediv_of_nonneg a1]
 have e3:W ((h - l) * p / 100)=(h - l) * p / 100:=gQ ⟨by omega,by omega⟩
 rw [e3]
 unfold ah9
 exact gQ ⟨by omega,by omega⟩
theorem aKn {l h:Int} (h0:0<=l) (hl:l<=h) (h1:h<=99999) (p0:0<=fr) (pq:fr<=to) (q1:to<=100):M45 (no_index ((l,(h,())),(fr,(to,()))))=some ((ah9 l h fr,(ah9 l h to,())),()):=by
 unfold M45 Q45
 show cl (oM).dflt (vA (W (l + W (Int.tdiv (W (W (h - l) * fr)) 100)),(W (l + W (Int.tdiv (W (W (h - l) * to)) 100)),()))) (fun u0=>some (u0.1,())) none=_
 rw [aQA h0 hl h1 p0 (by omega),aQA h0 hl h1 (by omega) q1]
 rfl
def aEc (fr to:Int) (b:B6):B6:=(ah9 b.1 b.2.1 fr,(ah9 b.1 b.2.1 to,(ah9 b.2.2.1 b.2.2.2.1 fr,(ah9 b.2.2.1 b.2.2.2.1 to,(ah9 b.2.2.2.2.1 b.2.2.2.2.2.1 fr,(ah9 b.2.2.2.2.1 b.2.2.2.2.2.1 to,()))))))
theorem aTH (b:B6) (a:Nat):lo (aEc fr to b) a=ah9 (lo b a) (hi b a) fr:=by unfold lo hi aEc; split <;> rfl
theorem aTI (b:B6) (a:Nat):hi (aEc fr to b) a=ah9 (lo b a) (hi b a) to:=by unfold lo hi aEc; split <;> rfl
def e3:Sl Py.den:=⟨0,fun i=>((0:Int),((0:Int),((0:Int),((0:Int),((0:Int),((0:Int),()))))))⟩
def e4:Sl Tc.den:=⟨0,fun i=>((0:Int),((⟨0,fun i=>((0:Int),((0:Int),((0:Int),((0:Int),((0:Int),((0:Int),()))))))⟩:Sl _),()))⟩
def azf (fr to:Int) (r:Sl Py.den) (n:Nat):Sl Py.den:=tab e3 (fun i=>aEc fr to (r.g i)) n
def aTJ (fr to:Int) (s:tS.den) (n:Nat):Sl Tc.den:=tab e4 (fun t=>(mT s t,(azf fr to (s.1.g t).2.1 (s.1.g t).2.1.n,()))) n
def xS (fr to sp bn gn:Int) (s:tS.den) (n:Nat):tS.den:=(aTJ fr to s n,(sp,(zn s,(bn,(gn,())))))
theorem aPv (hs:(cB s).Ok) (p0:0<=fr) (pq:fr<=to) (q1:to<=100) {t:Nat} (ht:t < s.1.n) {c3 c4:Int} {xs:tS.den} :
  atD (fr,(to,(c3,(c4,((),((),((t:Int),((),(s,(xs,())))))))))) ((0:Int),((mT s t,(e3,())),())) = .exit 2 ((mT s t,(azf fr to (s.1.g t).2.1 (s.1.g t).2.1.n,())),()):=by
 have hk:=dN hs ht
 unfold atD
 refine bQ (ps:=UN) (s.1.g t).2.1.n cz (fun j=>((j:Int),((mT s t,(azf fr to (s.1.g t).2.1 j,())),()))) (by unfold cz; omega) (fun j hj=>?_) ?_
 ·have hb:=fun a ha=>hs.box t j ht hj a ha
  have i0:0<=((s.1.g t).2.1.g j).1/\((s.1.g t).2.1.g j).1<=((s.1.g t).2.1.g j).2.1/\((s.1.g t).2.1.g j).2.1<=99999:=hb 0 (by omega)
  have i1:0<=((s.1.g t).2.1.g j).2.2.1/\((s.1.g t).2.1.g j).2.2.1<=((s.1.g t).2.1.g j).2.2.2.1/\((s.1.g t).2.1.g j).2.2.2.1<=99999:=hb 1 (by omega)
  have i2:0<=((s.1.g t).2.1.g j).2.2.2.2.1/\((s.1.g t).2.1.g j).2.2.2.2.1<=((s.1.g t).2.1.g j).2.2.2.2.2.1/\((s.1.g t).2.1.g j).2.2.2.2.2.1<=99999:=hb 2 (by omega)
  have hn:(azf fr to (s.1.g t).2.1 j).n=j:=aoU rfl
  have h48:((azf fr to (s.1.g t).2.1 j).n + 1) * 48<=140737488355328:=by omega
  unfold atC atB
  refine (aq (decide_eq_true (aQ ht))).trans ?_
  refine (aq (decide_eq_true (dW hj))).trans ?_
  refine (aq (decide_eq_true (aQ ht))).trans ?_
  refine (aq (decide_eq_true (aQ hj))).trans ?_
  refine (aK (aKn i0.1 i0.2.1 i0.2.2 p0 pq q1)).trans ?_
  refine (aK (aKn i1.1 i1.2.1 i1.2.2 p0 pq q1)).trans ?_
  refine (aK (aKn i2.1 i2.2.1 i2.2.2 p0 pq q1)).trans ?_
  refine (aq (decide_eq_true h48)).trans ?_
  exact congrArg (fun q:Int=>(RQ.next (show (aa UN).den from (q,((mT s t,(azf fr to (s.1.g t).2.1 (j + 1),())),()))):RQ UN anZ)) (dR hj (by omega))
 ·unfold atC atB
  have:¬ ((((s.1.g t).2.1.n:Nat):Int) < (((s.1.g t).2.1.n:Nat):Int)):=by omega
  refine (aq (decide_eq_true (aQ ht))).trans ?_
  exact aR (decide_eq_false this)
theorem aTK (hs:(cB s).Ok) (p0:0<=fr) (pq:fr<=to) (q1:to<=100) {sp bn gn c3 c4:Int} :
  aPm (fr,(to,(c3,(c4,((),((),(s,()))))))) ((0:Int),(xS fr to sp bn gn s 0,())) = .exit 0 (xS fr to sp bn gn s s.1.n,()):=by
 have WM:=eF hs
 unfold aPm
 refine bQ (ps:=ah6) s.1.n cz (fun j=>((j:Int),(xS fr to sp bn gn s j,()))) (by unfold cz; omega) (fun j hj=>?_) ?_
 ·have hn:(aTJ fr to s j).n=j:=aoU rfl
  have h32:((aTJ fr to s j).n + 1) * 32<=140737488355328:=by omega
  have hL:=aPv hs p0 pq q1 hj (c3:=c3) (c4:=c4) (xs:=xS fr to sp bn gn s j)
  unfold aJ6 aJ5
  refine (aq (decide_eq_true (dW hj))).trans ?_
  refine (aq (decide_eq_true (aQ hj))).trans ?_
  refine (bp hL).trans ?_
  refine (aq (decide_eq_true h32)).trans ?_
  exact congrArg (fun q:Int=>(RQ.next (show (aa ah6).den from (q,(xS fr to sp bn gn s (j + 1),()))):RQ ah6 aAy)) (dR hj (by omega))
 ·unfold aJ6 aJ5
  have:¬ ((s.1.n:Int) < (s.1.n:Int)):=by omega
  exact aR (decide_eq_false this)
theorem aPw {sp bn gn:Int}:(xS fr to sp bn gn s s.1.n).1.n=s.1.n:=aoU rfl
theorem azg {sp bn gn:Int} {t:Nat} (ht:t < s.1.n):(xS fr to sp bn gn s s.1.n).1.g t=(mT s t,(azf fr to (s.1.g t).2.1 (s.1.g t).2.1.n,())):=aze (s0:=e4) rfl ht
theorem aKo {r:Sl Py.den} {i:Nat} (h:i < r.n):(azf fr to r r.n).g i=aEc fr to (r.g i):=aze (s0:=e3) rfl h
theorem alb {r:Sl Py.den}:(azf fr to r r.n).n=r.n:=aoU rfl
theorem aFC {b:B6}:Is b=true↔(0<=b.1/\b.1<=b.2.1/\b.2.1<=100)/\(0<=b.2.2.1/\b.2.2.1<=b.2.2.2.1/\b.2.2.2.1<=100)/\(0<=b.2.2.2.2.1/\b.2.2.2.2.1<=b.2.2.2.2.2.1/\b.2.2.2.2.2.1<=99999):=by
 unfold Is OD
 simp only [Bool.and_eq_true,decide_eq_true_eq]
theorem aGE (h:Io s=true):(∀ t,t < s.1.n->jI s t < mT s t/\mT s t<=200/\(s.1.g t).2.1.n<=3/\∀ j,j < (s.1.g t).2.1.n->Is ((s.1.g t).2.1.g j)=true)/\(1<=s.1.n/\s.1.n<=4)/\(0<=pN s/\pN s<=50)/\(0<=zn s/\zn s<=1000)/\(0<=OC s/\OC s<=12)/\(0<=Sa s/\Sa s<=12):=by
 unfold Io UW oV at h
 simp only [Bool.and_eq_true,decide_eq_true_eq] at h
 obtain ⟨h1,⟨n1,n4⟩,sp,dp,bn,gn⟩:=h
 refine ⟨fun t ht=>?_,⟨by omega,by omega⟩,sp,dp,bn,gn⟩
 have:=mQ h1 ht
 unfold lD at this
 simp only [Bool.and_eq_true,Bool.not_eq_true',decide_eq_false_iff_not] at this
 obtain ⟨a,b,c,d⟩:=this
 exact ⟨by omega,by omega,by omega,fun j hj=>mQ d hj⟩
theorem aTL (h1:∀ t,t < s.1.n->jI s t < mT s t/\mT s t<=200/\(s.1.g t).2.1.n<=3/\∀ j,j < (s.1.g t).2.1.n->Is ((s.1.g t).2.1.g j)=true) (h2:1<=s.1.n/\s.1.n<=4) (h3:0<=pN s/\pN s<=50) (h4:0<=zn s/\zn s<=1000) (h5:0<=OC s/\OC s<=12) (h6:0<=Sa s/\Sa s<=12):Io s=true:=by
 unfold Io UW oV
 simp only [Bool.and_eq_true,decide_eq_true_eq]
 refine ⟨JL fun t ht=>?_,⟨by omega,by omega⟩,h3,h4,h5,h6⟩
 obtain ⟨a,b,c,d⟩:=h1 t ht
 unfold lD
 simp only [Bool.and_eq_true,Bool.not_eq_true',decide_eq_false_iff_not]
 exact ⟨by omega,by omega,by omega,JL fun j hj=>d j hj⟩
structure XOk (s:tS.den) (fr to sp bn gn:Int):Prop where
 p0:0<=fr
 pq:fr<=to
 q1:to<=100
 s0:0<=sp
 s1:sp<=pN s
 b0:0<=bn
 b1:bn<=OC s
 g0:0<=gn
 g1:gn<=Sa s
theorem aKp {sp bn gn:Int} (hx:XOk s fr to sp bn gn) (ho:Io s=true):Io (xS fr to sp bn gn s s.1.n)=true:=by
 obtain ⟨h1,h2,h3,h4,h5,h6⟩:=aGE ho
 obtain ⟨p0,pq,q1,s0,s1,b0,b1,g0,g1⟩:=hx
 have hn:(xS fr to sp bn gn s s.1.n).1.n=s.1.n:=aPw
 refine aTL (fun t ht=>?_) (by rw [hn]; exact h2) ⟨s0,Int.le_trans s1 h3.2⟩ h4 ⟨b0,Int.le_trans b1 h5.2⟩ ⟨g0,Int.le_trans g1 h6.2⟩
 rw [hn] at ht
 have hm:∀ u,u < s.1.n->mT (xS fr to sp bn gn s s.1.n) u=mT s u:=fun u hu=>by
  show ((xS fr to sp bn gn s s.1.n).1.g u).1=_
  rw [azg hu]
 have hp:jI (xS fr to sp bn gn s s.1.n) t=jI s t:=by
  cases t with
  | zero=>rfl
  | succ u=>exact hm u (by omega)
 obtain ⟨a,b,c,d⟩:=h1 t ht
 rw [hm t ht,hp,azg ht]
 refine ⟨a,b,?_,fun j hj=>?_⟩
 ·dsimp only; rw [alb]; exact c
 ·dsimp only at hj ⊢
  rw [alb] at hj
  rw [aKo hj]
  obtain ⟨i0,i1,i2⟩:=aFC.1 (d j hj)
  have j0:=aqb i0.2.1 p0 pq q1
  have j1:=aqb i1.2.1 p0 pq q1
  have j2:=aqb i2.2.1 p0 pq q1
  refine aFC.2 ⟨⟨?_,j0.2.1,?_⟩,⟨?_,j1.2.1,?_⟩,?_,j2.2.1,?_⟩
  ·exact Int.le_trans i0.1 j0.1
  ·exact Int.le_trans j0.2.2 i0.2.2
  ·exact Int.le_trans i1.1 j1.1
  ·exact Int.le_trans j1.2.2 i1.2.2
  ·exact Int.le_trans i2.1 j2.1
  ·exact Int.le_trans j2.2.2 i2.2.2
theorem aEd {sp bn gn:Int} (hx:XOk s fr to sp bn gn) (ho:Io s=true):Sub (cB (xS fr to sp bn gn s s.1.n)) (cB s):=by
 have hs:=qP ho
 obtain ⟨p0,pq,q1,s0,s1,b0,b1,g0,g1⟩:=hx
 have hn:(xS fr to sp bn gn s s.1.n).1.n=s.1.n:=aPw
 have hk:∀ t,t < s.1.n->((xS fr to sp bn gn s s.1.n).1.g t).2.1.n=(s.1.g t).2.1.n:=fun t ht=>by rw [azg ht]; exact alb
 refine ⟨hn,fun t ht=>?_,fun t ht=>?_,fun a=>?_,b1,g1,fun t i ht hi' a ha=>?_⟩
 ·have ht:t < s.1.n:=by rw [<- hn]; exact ht
  exact hk t ht
 ·have ht:t < s.1.n:=by rw [<- hn]; exact ht
  show ((xS fr to sp bn gn s s.1.n).1.g t).1=mT s t
  rw [azg ht]
 ·unfold Go.Low.dV
  split
  ·exact s1
  ·exact s1
  ·exact Int.le_refl (zn s)
 ·have ht:t < s.1.n:=by rw [<- hn]; exact ht
  have hi':i < (s.1.g t).2.1.n:=by rw [<- hk t ht]; exact hi'
  have e:(cB (xS fr to sp bn gn s s.1.n)).box t i=aEc fr to ((s.1.g t).2.1.g i):=by
   show ((xS fr to sp bn gn s s.1.n).1.g t).2.1.g i=_
   rw [azg ht]; exact aKo hi'
  have hb:=hs.box t i ht hi' a ha
  have hj:=aqb hb.2.1 p0 pq q1
  rw [e,aTH,aTI]
  exact ⟨hj.1,hj.2.2⟩
theorem aTM {c c' n n':Nat} (h0:0 < n') (h1:c=0->c'=0) (h2:c=n->c'=n') (h:wd c n≠2):wd c' n'=wd c n:=by
 unfold wd at h ⊢
 by_cases e:c=0
 ·subst e
  rw [h1 rfl]; rfl
 ·have e':¬ (((c:Nat):Int)=(0:Int)):=by omega
  rw [decide_eq_false e',cond_false] at h ⊢
  by_cases e2:c=n
  ·subst e2
   rw [h2 rfl]
   have h0':¬ (((n':Nat):Int)=(0:Int)):=by omega
   rw [decide_eq_true rfl,decide_eq_false h0',decide_eq_true rfl]; rfl
  ·have e2':¬ (((c:Nat):Int)=((n:Nat):Int)):=by omega
   rw [decide_eq_false e2'] at h
   exact absurd rfl h
end Go.Dm

/- LowFits. -/
import Derived.Test.YtadkaccpacpklaaL13LP23
set_option linter.unusedVariables false
set_option linter.unusedSimpArgs false
namespace Go.Dm
set_option maxRecDepth 100000
open Go.Low
variable {s:tS.den} {A X Y D:cT}
def bxT (s:tS.den) (X Y D:cT) (t:Nat):Bool:=(List.range (s.1.g t).2.1.n).all fun i=>bx3 (tv X Y D t i) ((s.1.g t).2.1.g i)
theorem aDL (v:V3) (b:B6):bx3 v b=(oV v.1 b.1 b.2.1 && (oV v.2.1 b.2.2.1 b.2.2.2.1 && oV v.2.2.1 b.2.2.2.2.1 b.2.2.2.2.2.1)):=by
 show (oV v.1 b.1 b.2.1 && (oV v.2.1 b.2.2.1 b.2.2.2.1 && (oV v.2.2.1 b.2.2.2.2.1 b.2.2.2.2.2.1 && true)))=_
 rw [Bool.and_true]
theorem aSQ (hs:(cB s).Ok) (h:Ov s A X Y D) {t:Nat} (ht:t < s.1.n) :
  OV ((),((),((t:Int),(s,(trT A X Y D,()))))) ((0:Int),())=bif bxT s X Y D t then .exit 2 () else LQ.ret (wy:=Gk) (show (aa Gk.ret).den from (false,())):=by
 have hk:=dN hs ht
 have nX:=h.x.n
 have nY:=h.y.n
 have nD:=h.d.n
 unfold OV bxT
 refine dX (ps:=sP) (n:=(s.1.g t).2.1.n) (f:=fun j=>((j:Int),())) (by unfold cz; omega) (fun j hj _=>?_) (fun _=>?_)
 ·have Ew:(RQ.next (show (aa sP).den from (W ((j:Int) + 1),())):RQ sP Gk) = .next (((j + 1:Nat):Int),()):=by rw [dR hj (by omega)]
  have iX:j < (X.g t).1.n:=by rw [h.x.k t ht]; exact hj
  have iY:j < (Y.g t).1.n:=by rw [h.y.k t ht]; exact hj
  have iD:j < (D.g t).1.n:=by rw [h.d.k t ht]; exact hj
  unfold UI UH
  refine (aq (decide_eq_true (aQ ht))).trans ?_
  refine (aq (decide_eq_true (dW hj))).trans ?_
  refine (aq (decide_eq_true (aQ ht))).trans ?_
  refine (aq (decide_eq_true (aQ hj))).trans ?_
  refine (aq (decide_eq_true (aQ (n:=X.n) (by omega)))).trans ?_
  refine (aq (decide_eq_true (aQ iX))).trans ?_
  refine (aq (decide_eq_true (aQ (n:=Y.n) (by omega)))).trans ?_
  refine (aq (decide_eq_true (aQ iY))).trans ?_
  refine (aq (decide_eq_true (aQ (n:=D.n) (by omega)))).trans ?_
  refine (aq (decide_eq_true (aQ iD))).trans ?_
  rw [aDL]
  refine (aK (uW (ap X t j) ((s.1.g t).2.1.g j).1 ((s.1.g t).2.1.g j).2.1)).trans ?_
  show _=bif (oV (ap X t j) ((s.1.g t).2.1.g j).1 ((s.1.g t).2.1.g j).2.1 && (oV (ap Y t j) ((s.1.g t).2.1.g j).2.2.1 ((s.1.g t).2.1.g j).2.2.2.1 && oV (ap D t j) ((s.1.g t).2.1.g j).2.2.2.2.1 ((s.1.g t).2.1.g j).2.2.2.2.2.1)) then _ else _
  cases oV (ap X t j) ((s.1.g t).2.1.g j).1 ((s.1.g t).2.1.g j).2.1 with
  | false=>rfl
  | true =>
   refine (aR rfl).trans ?_
   refine (aK (uW (ap Y t j) ((s.1.g t).2.1.g j).2.2.1 ((s.1.g t).2.1.g j).2.2.2.1)).trans ?_
   cases oV (ap Y t j) ((s.1.g t).2.1.g j).2.2.1 ((s.1.g t).2.1.g j).2.2.2.1 with
   | false=>rfl
   | true =>
    refine (aR rfl).trans ?_
    refine (aK (uW (ap D t j) ((s.1.g t).2.1.g j).2.2.2.2.1 ((s.1.g t).2.1.g j).2.2.2.2.2.1)).trans ?_
    cases oV (ap D t j) ((s.1.g t).2.1.g j).2.2.2.2.1 ((s.1.g t).2.1.g j).2.2.2.2.2.1 with
    | false=>rfl
    | true=>exact Ew
 ·unfold UI UH
  refine (aq (decide_eq_true (aQ ht))).trans ?_
  have:¬ ((((s.1.g t).2.1.n:Nat):Int) < (((s.1.g t).2.1.n:Nat):Int)):=by omega
  exact aR (decide_eq_false this)
theorem atj {a b w l m l' m':Int} (h1:0<=l/\m<=99999) (h2:0<=l'/\m'<=99999) (ha:l<=a/\a<=m) (hb:l'<=b/\b<=m'):M98 (no_index (a,(b,(w,()))))=some (Kh a b w,()):=by
 show (bif decide (W (a - b)<=w) then some (decide (W (b - a)<=w),()) else some (false,()))=_
 rw [gQ (n:=a - b) ⟨by omega,by omega⟩,gQ (n:=b - a) ⟨by omega,by omega⟩]
 unfold Kh
 cases decide (a - b<=w) <;> rfl
def nrI (s:tS.den) (A X Y D:cT) (u i:Nat):Bool:=decide (ap A (u + 1) i < 0) || Wv s (tv X Y D (u + 1) i) (tv X Y D u (ap A (u + 1) i).toNat) (mT s (u + 1) - mT s u)
theorem aSR (hs:(cB s).Ok) (h:Ov s A X Y D) {u:Nat} (hu:u + 1 < s.1.n) (hb0:bxT s X Y D u=true) (Sw:bxT s X Y D (u + 1)=true) :
  OW ((),((),(((u + 1:Nat):Int),(mT s (u + 1) - mT s u,(s,(trT A X Y D,())))))) ((0:Int),())=bif (List.range (s.1.g (u + 1)).2.1.n).all (nrI s A X Y D u) then .exit 6 () else LQ.ret (wy:=Gm) (show (aa Gm.ret).den from (false,())):=by
 have Pt:u < s.1.n:=by omega
 have h4:=eF hs
 have hk:=dN hs hu
 have nA:=h.a.n
 have nX:=h.x.n
 have nY:=h.y.n
 have nD:=h.d.n
 have wp:=wo (n:=s.1.n) (by omega) hu
 have q1:0<=pN s/\pN s<=50:=hs.sp
 have q2:0<=zn s/\zn s<=1000:=hs.dp
 have hm1:0<=mT s (u + 1)/\mT s (u + 1)<=200:=hs.Xp (u + 1) hu
 have hm2:0<=mT s u/\mT s u<=200:=hs.Xp u Pt
 have hm3:mT s u < mT s (u + 1):=hs.tm u hu
 have m1:=(MG (p:=pN s) (h:=mT s (u + 1) - mT s u) ⟨q1.1,by omega⟩ ⟨by omega,by omega⟩).1
 have m2:=(MG (p:=zn s) (h:=mT s (u + 1) - mT s u) q2 ⟨by omega,by omega⟩).1
 unfold OW
 refine dX (ps:=sQ) (n:=(s.1.g (u + 1)).2.1.n) (f:=fun j=>((j:Int),())) (by unfold cz; omega) (fun i hi _=>?_) (fun _=>?_)
 ·have Ew:(RQ.next (show (aa sQ).den from (W ((i:Int) + 1),())):RQ sQ Gm) = .next (((i + 1:Nat):Int),()):=by rw [dR hi (by omega)]
  have iA:i < (A.g (u + 1)).1.n:=by rw [h.a.k _ hu]; exact hi
  have iX:i < (X.g (u + 1)).1.n:=by rw [h.x.k _ hu]; exact hi
  have iY:i < (Y.g (u + 1)).1.n:=by rw [h.y.k _ hu]; exact hi
  have iD:i < (D.g (u + 1)).1.n:=by rw [h.d.k _ hu]; exact hi
  have hlk:=h.link hu hi
  unfold UL UK
  refine (aq (decide_eq_true (aQ hu))).trans ?_
  refine (aq (decide_eq_true (dW hi))).trans ?_
  refine (aq (decide_eq_true (aQ (n:=A.n) (by omega)))).trans ?_
  refine (aq (decide_eq_true (aQ iA))).trans ?_
  by_cases l0:ap A (u + 1) i < 0
  ·refine (aq (decide_eq_true l0)).trans ?_
   have:nrI s A X Y D u i=true:=by unfold nrI; rw [decide_eq_true l0]; rfl
   rw [this]; exact Ew
  ·have l2:0<=ap A (u + 1) i/\(ap A (u + 1) i).toNat < (s.1.g u).2.1.n:=by omega
   have hbk:=l2.2
   have bX:(ap A (u + 1) i).toNat < (X.g u).1.n:=by rw [h.x.k u Pt]; exact hbk
   have bY:(ap A (u + 1) i).toNat < (Y.g u).1.n:=by rw [h.y.k u Pt]; exact hbk
   have bD:(ap A (u + 1) i).toNat < (D.g u).1.n:=by rw [h.d.k u Pt]; exact hbk
   have iu:∀ {o:cT},o.n=s.1.n->(0:Int)<=(u:Int)/\(u:Int) < ((o.n:Nat):Int):=fun e=>by omega
   have ia:∀ {m:Nat},(ap A (u + 1) i).toNat < m->(0:Int)<=ap A (u + 1) i/\ap A (u + 1) i < (m:Int):=fun e=>by omega
   have b1:=lE hs hu hi
   have b2:=lE hs Pt hbk
   obtain ⟨v1,v2,v4⟩:=Yu.1 (mQ Sw hi)
   obtain ⟨u1,u2,u4⟩:=Yu.1 (mQ hb0 hbk)
   have c0:=b1 0 (by omega)
   have c1:=b1 1 (by omega)
   have c2:=b1 2 (by omega)
   have d0:=b2 0 (by omega)
   have d1:=b2 1 (by omega)
   have d2:=b2 2 (by omega)
   have f1:=atj (a:=ap X (u + 1) i) (b:=ap X u (ap A (u + 1) i).toNat) (w:=W (pN s * (mT s (u + 1) - mT s u))) ⟨c0.1,c0.2.2.2⟩ ⟨d0.1,d0.2.2.2⟩ v1 u1
   have f2:=atj (a:=ap Y (u + 1) i) (b:=ap Y u (ap A (u + 1) i).toNat) (w:=W (pN s * (mT s (u + 1) - mT s u))) ⟨c1.1,c1.2.2.2⟩ ⟨d1.1,d1.2.2.2⟩ v2 u2
   have f3:=atj (a:=ap D (u + 1) i) (b:=ap D u (ap A (u + 1) i).toNat) (w:=W (zn s * (mT s (u + 1) - mT s u))) ⟨c2.1,c2.2.2.2⟩ ⟨d2.1,d2.2.2.2⟩ v4 u4
   have en:nrI s A X Y D u i=(Kh (ap X (u + 1) i) (ap X u (ap A (u + 1) i).toNat) (W (pN s * (mT s (u + 1) - mT s u))) && (Kh (ap Y (u + 1) i) (ap Y u (ap A (u + 1) i).toNat) (W (pN s * (mT s (u + 1) - mT s u))) && Kh (ap D (u + 1) i) (ap D u (ap A (u + 1) i).toNat) (W (zn s * (mT s (u + 1) - mT s u))))):=by
    unfold nrI; rw [decide_eq_false l0,m1,m2]; rfl
   rw [en]
   refine (aR (decide_eq_false l0)).trans ?_
   dsimp only
   rw [wp]
   refine (aq (decide_eq_true (aQ (n:=X.n) (by omega)))).trans ?_
   refine (aq (decide_eq_true (aQ iX))).trans ?_
   refine (aq (decide_eq_true (iu nX))).trans ?_
   refine (aq (decide_eq_true (ia bX))).trans ?_
   refine (aK f1).trans ?_
   cases Kh (ap X (u + 1) i) (ap X u (ap A (u + 1) i).toNat) (W (pN s * (mT s (u + 1) - mT s u))) with
   | false=>rfl
   | true =>
    refine (aR rfl).trans ?_
    refine (aq (decide_eq_true (aQ (n:=Y.n) (by omega)))).trans ?_
    refine (aq (decide_eq_true (aQ iY))).trans ?_
    refine (aq (decide_eq_true (iu nY))).trans ?_
    refine (aq (decide_eq_true (ia bY))).trans ?_
    refine (aK f2).trans ?_
    cases Kh (ap Y (u + 1) i) (ap Y u (ap A (u + 1) i).toNat) (W (pN s * (mT s (u + 1) - mT s u))) with
    | false=>rfl
    | true =>
     refine (aR rfl).trans ?_
     refine (aq (decide_eq_true (aQ (n:=D.n) (by omega)))).trans ?_
     refine (aq (decide_eq_true (aQ iD))).trans ?_
     refine (aq (decide_eq_true (iu nD))).trans ?_
     refine (aq (decide_eq_true (ia bD))).trans ?_
     refine (aK f3).trans ?_
     cases Kh (ap D (u + 1) i) (ap D u (ap A (u + 1) i).toNat) (W (zn s * (mT s (u + 1) - mT s u))) with
     | false=>rfl
     | true=>exact Ew
 ·unfold UL UK
  refine (aq (decide_eq_true (aQ hu))).trans ?_
  have:¬ ((((s.1.g (u + 1)).2.1.n:Nat):Int) < (((s.1.g (u + 1)).2.1.n:Nat):Int)):=by omega
  exact aR (decide_eq_false this)
def ayW (r:Sl sR.den) (i:Nat):Bool:=!decide (0<=(show Int from (r.g i).1)) || !has ((aV r).take i) (show Int from (r.g i).1)
def Ww (r:Sl sR.den):Bool:=(List.range r.n).all (ayW r)
theorem aI8 {r:Sl sR.den} (hr:r.n<=1000):M99 (no_index (r,()))=some (Ww r,()):=by
 have key:ahE (r,()) ((0:Int),())=bif Ww r then .exit 0 () else LQ.ret (wy:=Rp) (show (aa Rp.ret).den from (false,())):=by
  unfold ahE Ww
  refine dX (ps:=CY) (n:=r.n) (f:=fun j=>((j:Int),())) (by unfold cz; omega) (fun j hj _=>?_) (fun _=>?_)
  ·have Ew:(RQ.next (show (aa CY).den from (W ((j:Int) + 1),())):RQ CY Rp) = .next (((j + 1:Nat):Int),()):=by rw [dR hj (by omega)]
   have hpre:=aaH (r:=r) (j:=j) (by omega)
   have h73:=acB (⟨j,fun q=>r.g (q + 0)⟩:Sl sR.den) (show j<=140737488355328 by omega) (show Int from (r.g j).1)
   rw [hpre] at h73
   unfold ahD ahC
   refine (aq (decide_eq_true (dW hj))).trans ?_
   refine (aq (decide_eq_true (aQ hj))).trans ?_
   unfold ayW
   by_cases c:0<=(show Int from (r.g j).1)
   ·refine (aq (decide_eq_true c)).trans ?_
    refine (aq (decide_eq_true (by omega:(0:Int)<=0/\((0:Int)<=(j:Int)/\(j:Int)<=((r.n:Nat):Int))))).trans ?_
    refine (aq (decide_eq_true (aQ hj))).trans ?_
    refine (aK h73).trans ?_
    rw [decide_eq_true c]
    cases has ((aV r).take j) (show Int from (r.g j).1) with
    | true=>rfl
    | false=>exact Ew
   ·refine (aR (decide_eq_false c)).trans ?_
    rw [decide_eq_false c]; exact Ew
  ·unfold ahD ahC
   have:¬ ((r.n:Int) < (r.n:Int)):=by omega
   exact aR (decide_eq_false this)
 unfold M99 Q99
 revert key
 cases Ww r with
 | true=>intro key; exact (bp key).trans rfl
 | false=>intro key; exact (congrArg (fun o=>aF o 0 _ (bS o _ _)) key).trans rfl
def atl (s:tS.den) (A X Y D:cT):Bool:=(List.range s.1.n).all (bxT s X Y D) && ((List.range (s.1.n - 1)).all (fun u=>(List.range (s.1.g (u + 1)).2.1.n).all (nrI s A X Y D u) && Ww (A.g (u + 1)).1) && (decide (((eP (aW A):Nat):Int)<=OC s) && decide (((fc (aW A):Nat):Int)<=Sa s)))
theorem aI9 (hs:(cB s).Ok) (h:Ov s A X Y D):M55 (no_index (s,(trT A X Y D,())))=some (atl s A X Y D,()):=by
 have h4:=eF hs
 have xU:0 < s.1.n:=hs.n1
 have nA:=h.a.n
 have hkA:∀ t,t < A.n->(A.g t).1.n<=3:=fun t ht=>by rw [h.a.k t (by omega)]; exact dN hs (by omega)
 have k0:ahJ ((),((),(s,(trT A X Y D,())))) ((0:Int),())=bif (List.range s.1.n).all (bxT s X Y D) then .exit 0 () else LQ.ret (wy:=Rq) (show (aa Rq.ret).den from (false,())):=by
  unfold ahJ
  refine dX (ps:=CZ) (n:=s.1.n) (f:=fun j=>((j:Int),())) (by unfold cz; omega) (fun t ht _=>?_) (fun _=>?_)
  ·have Ew:(RQ.next (show (aa CZ).den from (W ((t:Int) + 1),())):RQ CZ Rq) = .next (((t + 1:Nat):Int),()):=by rw [dR ht (by omega)]
   unfold ahI ahH
   refine (aq (decide_eq_true (dW ht))).trans ?_
   have hin:=aSQ hs h ht
   revert hin
   cases bxT s X Y D t with
   | true=>intro hin; exact (bp hin).trans Ew
   | false=>intro hin; exact (congrArg (fun o=>aF o 2 _ (bS o _ _)) hin).trans rfl
  ·unfold ahI ahH
   have:¬ (((s.1.n:Nat):Int) < ((s.1.n:Nat):Int)):=by omega
   exact aR (decide_eq_false this)
 unfold M55 Q55 atl
 cases hb:(List.range s.1.n).all (bxT s X Y D) with
 | false =>
  rw [hb] at k0
  exact (congrArg (fun o=>aF o 0 _ (bS o _ _)) k0).trans rfl
 | true =>
  rw [hb] at k0
  refine (bp k0).trans ?_
  have k1:ahO ((),((),(s,(trT A X Y D,())))) (((0 + 1:Nat):Int),())=bif (List.range (s.1.n - 1)).all (fun u=>(List.range (s.1.g (u + 1)).2.1.n).all (nrI s A X Y D u) && Ww (A.g (u + 1)).1) then .exit 4 () else LQ.ret (wy:=Rr) (show (aa Rr.ret).den from (false,())):=by
   unfold ahO
   refine dX (ps:=Da) (n:=s.1.n - 1) (f:=fun j=>(((j + 1:Nat):Int),())) (by unfold cz; omega) (fun u hu _=>?_) (fun _=>?_)
   ·have Qo:u + 1 < s.1.n:=by omega
    have Ew:(RQ.next (show (aa Da).den from (W (((u + 1:Nat):Int) + 1),())):RQ Da Rr) = .next (((u + 1 + 1:Nat):Int),()):=by rw [dR Qo (by omega)]
    have wp:=wo (n:=s.1.n) (by omega) Qo
    have hm1:0<=mT s (u + 1)/\mT s (u + 1)<=200:=hs.Xp (u + 1) Qo
    have Pt:u < s.1.n:=by omega
    have hm2:0<=mT s u/\mT s u<=200:=hs.Xp u Pt
    have wd':W (mT s (u + 1) - mT s u)=mT s (u + 1) - mT s u:=gQ ⟨by omega,by omega⟩
    have hin:=aSR hs h Qo (mQ hb Pt) (mQ hb Qo)
    rw [<- wd'] at hin
    have h99:=aI8 (r:=(A.g (u + 1)).1) (by have:=hkA (u + 1) (by omega); omega)
    unfold ahN ahM
    refine (aq (decide_eq_true (dW Qo))).trans ?_
    refine (aq (decide_eq_true (aQ Qo))).trans ?_
    dsimp only
    rw [wp]
    refine (aq (decide_eq_true (aQ Pt))).trans ?_
    revert hin
    cases (List.range (s.1.g (u + 1)).2.1.n).all (nrI s A X Y D u) with
    | false=>intro hin; exact (congrArg (fun o=>aF o 6 _ (bS o _ _)) hin).trans rfl
    | true =>
     intro hin
     refine (bp hin).trans ?_
     refine (aq (decide_eq_true (aQ (n:=A.n) (by omega)))).trans ?_
     refine (aK h99).trans ?_
     cases Ww (A.g (u + 1)).1 with
     | false=>rfl
     | true=>exact Ew
   ·unfold ahN ahM
    have:¬ (((s.1.n - 1 + 1:Nat):Int) < ((s.1.n:Nat):Int)):=by omega
    exact aR (decide_eq_false this)
  cases hr:(List.range (s.1.n - 1)).all (fun u=>(List.range (s.1.g (u + 1)).2.1.n).all (nrI s A X Y D u) && Ww (A.g (u + 1)).1) with
  | false =>
   rw [hr] at k1
   exact (congrArg (fun o=>aF o 4 _ (bS o _ _)) k1).trans rfl
  | true =>
   rw [hr] at k1
   refine (bp k1).trans ?_
   refine (aK (ao9 (o:=A) (by omega) (by omega) hkA)).trans ?_
   by_cases c:((eP (aW A):Nat):Int)<=OC s
   ·refine (aq (decide_eq_true c)).trans ?_
    refine (aK (apa (o:=A) (by omega) (by omega) hkA)).trans ?_
    rw [decide_eq_true c]; rfl
   ·refine (aR (decide_eq_false c)).trans ?_
    rw [decide_eq_false c]; rfl
end Go.Dm

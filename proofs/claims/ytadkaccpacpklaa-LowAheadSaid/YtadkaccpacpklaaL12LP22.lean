/- Truths: low.Fits. -/
import Derived.Test.YtadkaccpacpklaaL12LP21
set_option linter.unusedVariables false
set_option linter.unusedSimpArgs false
namespace Go.Dm
set_option maxRecDepth 100000
open Go.Low
variable {s:tS.den} {A X Y D:cT}
def trT (A X Y D:cT):ag6.den:=(A,(X,(Y,(D,()))))
def aI5 (b j:Int):RQ sO uV:=.next (b,(j,()))
def aSI:RQ sO uV:=.out (LQ.ret (show (aa uV.ret).den from (false,((0:Int),()))))
theorem atg (A:cT) (t j:Nat):bcI A t j<=j:=by
 unfold bcI
 split
 ·omega
 ·unfold eO
  exact Nat.le_trans List.count_le_length (by rw [List.length_take]; omega)
theorem ath {u i:Nat} (h:i < (A.g (u + 1)).1.n):bcI A (u + 1) (i + 1)=bcI A (u + 1) i + (bif decide (ap A (u + 1) i = -1) then 1 else 0):=by
 show eO ((aV (A.g (u + 1)).1).take (i + 1))=eO ((aV (A.g (u + 1)).1).take i) + _
 rw [Eu h,LM]; rfl
theorem aSJ (hs:(cB s).Ok) (h:Ov s A X Y D) {t:Nat} (ht:t < s.1.n) (acA:∀ u,t=u + 1->∀ j,j < (s.1.g u).2.1.n->bx3 (tv X Y D u j) ((s.1.g u).2.1.g j)=true) {g0 N:Int} {b0:Nat} (hb0:b0<=100) :
  UB ((),((),((),(g0,((t:Int),(N,((t:Int),((A.g t).1,((((A.g t).1.n:Nat):Int),(s,(trT A X Y D,((s.1,(s.2.1,(s.2.2.1,(s.2.2.2.1,(s.2.2.2.2.1,(A,())))))),())))))))))))) ((b0:Int),((0:Int),())) =
   bif (List.range (s.1.g t).2.1.n).all (okI s A X Y D t) then .exit 8 (((b0 + bcI A t (s.1.g t).2.1.n:Nat):Int),()) else LQ.ret (wy:=uV) (show (aa uV.ret).den from (false,((0:Int),()))):=by
 have h4:=eF hs
 have hk:=dN hs ht
 have hA:=h.a.k t ht
 have hX:=h.x.k t ht
 have hY:=h.y.k t ht
 have hD:=h.d.k t ht
 have nA:=h.a.n
 have nX:=h.x.n
 have nY:=h.y.n
 have nD:=h.d.n
 have e0:bcI A t 0=0:=Nat.le_zero.1 (atg A t 0)
 have key:aH (OU ((),((),((),(g0,((t:Int),(N,((t:Int),((A.g t).1,((((A.g t).1.n:Nat):Int),(s,(trT A X Y D,((s.1,(s.2.1,(s.2.2.1,(s.2.2.2.1,(s.2.2.2.2.1,(A,())))))),()))))))))))))) cz (((b0 + bcI A t 0:Nat):Int),(((0:Nat):Int),())) =
   bif (List.range (s.1.g t).2.1.n).all (okI s A X Y D t) then .exit 8 (((b0 + bcI A t (s.1.g t).2.1.n:Nat):Int),()) else LQ.ret (wy:=uV) (show (aa uV.ret).den from (false,((0:Int),()))):=by
  refine dX (ps:=sO) (n:=(s.1.g t).2.1.n) (f:=fun j=>(((b0 + bcI A t j:Nat):Int),((j:Int),()))) (by unfold cz; omega) (fun i hi _=>?_) (fun _=>?_)
  ·have hle:=atg A t i
   have w1:W ((i:Int) + 1)=((i + 1:Nat):Int):=dR hi (by omega)
   show _=bif okI s A X Y D t i then aI5 ((b0 + bcI A t (i + 1):Nat):Int) ((i + 1:Nat):Int) else aSI
   rw [<- w1]
   have iA:i < (A.g t).1.n:=by omega
   have iX:i < (X.g t).1.n:=by omega
   have iY:i < (Y.g t).1.n:=by omega
   have iD:i < (D.g t).1.n:=by omega
   unfold OU UA
   refine (aq (decide_eq_true (dW iA))).trans ?_
   refine (aq (decide_eq_true (aQ iA))).trans ?_
   refine (aq (decide_eq_true (aQ (n:=X.n) (by omega)))).trans ?_
   refine (aq (decide_eq_true (aQ iX))).trans ?_
   refine (aq (decide_eq_true (aQ (n:=Y.n) (by omega)))).trans ?_
   refine (aq (decide_eq_true (aQ iY))).trans ?_
   refine (aq (decide_eq_true (aQ (n:=D.n) (by omega)))).trans ?_
   refine (aq (decide_eq_true (aQ iD))).trans ?_
   refine (aK (Po ht hi)).trans ?_
   cases hbx:bx3 (tv X Y D t i) ((s.1.g t).2.1.g i) with
   | false =>
    have ho:okI s A X Y D t i=false:=by unfold okI; rw [hbx,Bool.false_and]
    rw [ho]
    have hL:∀ c:(aa oL).den,c.2.2.2.2.2.2.2.2.2.2.2.2.2.2.2.2.2.2.1=tv X Y D t i->c.2.2.2.2.2.2.2.2.2.2.2.2.2.2.1=(s.1.g t).2.1.g i->xG c ((0:Int),())=LQ.ret (wy:=su) (show (aa su.ret).den from (false,((0:Int),()))):=fun c e1 e2=>by
     rw [aI4 c,e1,e2,hbx]; rfl
    refine (congrArg (fun o=>aF o 10 _ (bS o _ _)) (hL _ ?_ ?_)).trans ?_
    ·rfl
    ·rfl
    ·rfl
   | true =>
    have hL:∀ c:(aa oL).den,c.2.2.2.2.2.2.2.2.2.2.2.2.2.2.2.2.2.2.1=tv X Y D t i->c.2.2.2.2.2.2.2.2.2.2.2.2.2.2.1=(s.1.g t).2.1.g i->xG c ((0:Int),()) = .exit 10 ():=fun c e1 e2=>by
     rw [aI4 c,e1,e2,hbx]; rfl
    refine (bp (hL _ ?_ ?_)).trans ?_
    ·rfl
    ·rfl
    clear hL
    cases t with
    | zero =>
     have ho:okI s A X Y D 0 i=true:=by unfold okI; rw [hbx]; rfl
     rw [ho]
     refine (aq (decide_eq_true (rfl:((0:Nat):Int)=0))).trans ?_
     rfl
    | succ u =>
     have hlk:=h.link ht hi
     have d0:¬ (((u + 1:Nat):Int)=0):=by omega
     have hsu:=ath (A:=A) (u:=u) (i:=i) iA
     refine (aR (decide_eq_false d0)).trans ?_
     by_cases l0:ap A (u + 1) i < 0
     ·have ho:okI s A X Y D (u + 1) i=true:=by unfold okI; rw [hbx]; simp only []; rw [decide_eq_true l0]; rfl
      rw [ho]
      have l1:ap A (u + 1) i = -1:=by omega
      rw [decide_eq_true l1,cond_true] at hsu
      refine (aq (decide_eq_true l0)).trans ?_
      have w2:W (((b0 + bcI A (u + 1) i:Nat):Int) + 1)=((b0 + bcI A (u + 1) (i + 1):Nat):Int):=by rw [hsu,gQ ⟨by omega,by omega⟩]; omega
      exact congrArg (fun q:Int=>aI5 q (W ((i:Int) + 1))) w2
     ·have l1:¬ ap A (u + 1) i = -1:=by omega
      have l2:0<=ap A (u + 1) i/\(ap A (u + 1) i).toNat < (s.1.g u).2.1.n:=by omega
      rw [decide_eq_false l1,cond_false,Nat.add_zero] at hsu
      have hbk:=l2.2
      have bX:(ap A (u + 1) i).toNat < (X.g u).1.n:=by rw [h.x.k u (by omega)]; exact hbk
      have bY:(ap A (u + 1) i).toNat < (Y.g u).1.n:=by rw [h.y.k u (by omega)]; exact hbk
      have bD:(ap A (u + 1) i).toNat < (D.g u).1.n:=by rw [h.d.k u (by omega)]; exact hbk
      have wp:=wo (n:=s.1.n) (by omega) ht
      have hu:u < s.1.n:=by omega
      have hm1:0<=mT s (u + 1)/\mT s (u + 1)<=200:=hs.Xp (u + 1) ht
      have hm2:0<=mT s u/\mT s u<=200:=hs.Xp u hu
      have hm3:mT s u < mT s (u + 1):=hs.tm u ht
      have hdf:=atf hs (lE hs ht hi) (lE hs hu hbk) hbx (acA u rfl _ hbk) (h:=mT s (u + 1) - mT s u) (by omega) (by omega)
      have hpre:=aaH (r:=(A.g (u + 1)).1) (j:=i) (by omega)
      have h97:=Wt (⟨i,fun q=>(A.g (u + 1)).1.g (q + 0)⟩:Sl sR.den) (show i<=140737488355328 by omega) (ap A (u + 1) i)
      rw [hpre] at h97
      have ho:okI s A X Y D (u + 1) i=(Wv s (tv X Y D (u + 1) i) (tv X Y D u (ap A (u + 1) i).toNat) (mT s (u + 1) - mT s u) && !has ((aV (A.g (u + 1)).1).take i) (ap A (u + 1) i)):=by
       unfold okI; rw [hbx]; simp only []; rw [decide_eq_false l0]; rfl
      have a2:(0:Int)<=0/\((0:Int)<=(i:Int)/\(i:Int)<=(((A.g (u + 1)).1.n:Nat):Int)):=by omega
      have iu:∀ {o:cT},o.n=s.1.n->(0:Int)<=(u:Int)/\(u:Int) < ((o.n:Nat):Int):=fun e=>by omega
      have ia:∀ {m:Nat},(ap A (u + 1) i).toNat < m->(0:Int)<=ap A (u + 1) i/\ap A (u + 1) i < (m:Int):=fun e=>by omega
      have hL:∀ c:(aa pU).den,c.2.2.2.2.2.2.2.2.2.2.2.2.2.2.2.2.2.2.2.1=tv X Y D (u + 1) i->c.2.2.2.2.2.2.2.2.2.2.2.2.2.2.2.2.2.2.2.2.1=tv X Y D u (ap A (u + 1) i).toNat->c.2.2.2.2.2.2.2.2.2.2.2.2.2.2.2.1=(pN s * (mT s (u + 1) - mT s u),(pN s * (mT s (u + 1) - mT s u),(zn s * (mT s (u + 1) - mT s u),()))) ->
        AJ c ((0:Int),())=bif Wv s (tv X Y D (u + 1) i) (tv X Y D u (ap A (u + 1) i).toNat) (mT s (u + 1) - mT s u) then .exit 12 () else LQ.ret (wy:=sw) (show (aa sw.ret).den from (false,((0:Int),()))):=fun c e1 e2 e3=>by
       rw [aSH c,e1,e2,e3,hdf]
      refine (aR (decide_eq_false l0)).trans ?_
      dsimp only
      rw [wp]
      refine (aq (decide_eq_true (iu nX))).trans ?_
      refine (aq (decide_eq_true (ia bX))).trans ?_
      refine (aq (decide_eq_true (iu nY))).trans ?_
      refine (aq (decide_eq_true (ia bY))).trans ?_
      refine (aq (decide_eq_true (iu nD))).trans ?_
      refine (aq (decide_eq_true (ia bD))).trans ?_
      refine (aK (afH hs ht)).trans ?_
      refine (aK (aiQ hs (h:=mT s (u + 1) - mT s u) (by omega) (by omega))).trans ?_
      rw [ho,hsu]
      revert hL
      cases Wv s (tv X Y D (u + 1) i) (tv X Y D u (ap A (u + 1) i).toNat) (mT s (u + 1) - mT s u) with
      | false =>
       intro hL
       refine (congrArg (fun o=>aF o 12 _ (bS o _ _)) (hL _ ?_ ?_ ?_)).trans ?_
       ·rfl
       ·rfl
       ·rfl
       ·rfl
      | true =>
       intro hL
       refine (bp (hL _ ?_ ?_ ?_)).trans ?_
       ·rfl
       ·rfl
       ·rfl
       refine (aq (decide_eq_true (aQ (n:=A.n) (by omega)))).trans ?_
       refine (aq (decide_eq_true a2)).trans ?_
       refine (aK h97).trans ?_
       cases has ((aV (A.g (u + 1)).1).take i) (ap A (u + 1) i) <;> rfl
  ·unfold OU UA
   have:¬ ((((s.1.g t).2.1.n:Nat):Int) < (((A.g t).1.n:Nat):Int)):=by omega
   exact aR (decide_eq_false this)
 rw [e0,Nat.add_zero] at key
 exact key
end Go.Dm

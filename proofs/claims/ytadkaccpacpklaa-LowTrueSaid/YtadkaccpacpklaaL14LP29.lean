/-
 Of the plain law.
-/
import Derived.Test.YtadkaccpacpklaaL14LP22
set_option linter.unusedVariables false
set_option linter.unusedSimpArgs false
namespace Go.Dm
set_option maxRecDepth 100000
open Go.Low
variable {s:tS.den} {A X Y D:cT}
theorem aSL (hs:(cB s).Ok) (h:Ov s A X Y D) {u:Nat} (hu:u + 1 < s.1.n) {c4 c6 c7:Int} {g0:Nat} (hg:g0<=100) (K:gN.den) :
  UF ((),((),((),(c4,(((u + 1:Nat):Int),(c6,(c7,((((s.1.g u).2.1.n:Nat):Int),(s,(trT A X Y D,K)))))))))) ((g0:Int),((0:Int),())) =
   .exit 14 (((g0 + eY (A.g u).1.n (aV (A.g (u + 1)).1):Nat):Int),()):=by
 have hk:=dN hs (t:=u) (by omega)
 have hk1:=dN hs hu
 have hA:=h.a.k u (by omega)
 have hA1:=h.a.k (u + 1) hu
 have nA:=h.a.n
 have hm:∀ j r,eY j r<=j:=fun j r=>by
  unfold eY
  exact Nat.le_trans (List.length_filter_le _ _) (by simp)
 rw [hA]
 unfold UF
 refine bQ (ps:=mN) (s.1.g u).2.1.n cz (fun j=>(((g0 + eY j (aV (A.g (u + 1)).1):Nat):Int),((j:Int),()))) (by unfold cz; omega) (fun j hj=>?_) ?_
 ·have hmj:=hm j (aV (A.g (u + 1)).1)
  have hsu:=Ck j (aV (A.g (u + 1)).1)
  have w1:W ((j:Int) + 1)=((j + 1:Nat):Int):=dR hj (by omega)
  unfold UE UD
  refine (aq (decide_eq_true (dW hj))).trans ?_
  refine (aq (decide_eq_true (aQ (n:=A.n) (by omega)))).trans ?_
  refine (aK (Wt (A.g (u + 1)).1 (by omega) (j:Int))).trans ?_
  cases hd:has (aV (A.g (u + 1)).1) (j:Int) with
  | true =>
   rw [hd,cond_true,Nat.add_zero] at hsu
   rw [hsu]
   refine (aR rfl).trans ?_
   exact congrArg (fun q:Int=>(RQ.next (show (aa mN).den from (((g0 + eY j (aV (A.g (u + 1)).1):Nat):Int),(q,()))):RQ mN Gi)) w1
  | false =>
   rw [hd,cond_false] at hsu
   refine (aq rfl).trans ?_
   have w2:W (((g0 + eY j (aV (A.g (u + 1)).1):Nat):Int) + 1)=((g0 + eY (j + 1) (aV (A.g (u + 1)).1):Nat):Int):=by rw [gQ ⟨by omega,by omega⟩,hsu]; omega
   exact (congrArg (fun q:Int=>(RQ.next (show (aa mN).den from (q,(W ((j:Int) + 1),()))):RQ mN Gi)) w2).trans (congrArg (fun q:Int=>(RQ.next (show (aa mN).den from (((g0 + eY (j + 1) (aV (A.g (u + 1)).1):Nat):Int),(q,()))):RQ mN Gi)) w1)
 ·unfold UE UD
  have:¬ ((((s.1.g u).2.1.n:Nat):Int) < (((s.1.g u).2.1.n:Nat):Int)):=by omega
  exact aR (decide_eq_false this)
theorem aSM (hs:(cB s).Ok) (h:Ov s A X Y D) :
  anp ((),((),((),(((s.1.n:Nat):Int),(s,(trT A X Y D,((s.1,(s.2.1,(s.2.2.1,(s.2.2.2.1,(s.2.2.2.2.1,(A,())))))),()))))))) ((0:Int),((0:Int),((0:Int),()))) =
   bif (List.range s.1.n).all (fun t=>(List.range (s.1.g t).2.1.n).all (okI s A X Y D t)) then .exit 6 (((eP (aW A):Nat):Int),(((fc (aW A):Nat):Int),())) else LQ.ret (wy:=IS) (show (aa IS.ret).den from (false,((0:Int),()))):=by
 have h4:=eF hs
 have nA:=h.a.n
 have hkA:∀ t,t < A.n->(A.g t).1.n<=3:=fun t ht=>by rw [h.a.k t (by omega)]; exact dN hs (by omega)
 have Xq:=BO hkA
 have hgl:=BP hkA
 have b0:eP ((aW A).take 0)=0:=rfl
 have g0:fc ((aW A).take 0)=0:=rfl
 have key:aH (acE ((),((),((),(((s.1.n:Nat):Int),(s,(trT A X Y D,((s.1,(s.2.1,(s.2.2.1,(s.2.2.2.1,(s.2.2.2.2.1,(A,())))))),())))))))) cz (((eP ((aW A).take 0):Nat):Int),(((fc ((aW A).take 0):Nat):Int),(((0:Nat):Int),()))) =
   bif (List.range s.1.n).all (fun t=>(List.range (s.1.g t).2.1.n).all (okI s A X Y D t)) then .exit 6 (((eP ((aW A).take s.1.n):Nat):Int),(((fc ((aW A).take s.1.n):Nat):Int),())) else LQ.ret (wy:=IS) (show (aa IS.ret).den from (false,((0:Int),()))):=by
  refine dX (ps:=zm) (n:=s.1.n) (f:=fun j=>(((eP ((aW A).take j):Nat):Int),(((fc ((aW A).take j):Nat):Int),((j:Int),())))) (by unfold cz; omega) (fun t ht hall=>?_) (fun _=>?_)
  ·have w1:W ((t:Int) + 1)=((t + 1:Nat):Int):=dR ht (by omega)
   have hA:=h.a.k t ht
   have hlen:=iN (A.g t).1
   have htk:(aV (A.g t).1).take (s.1.g t).2.1.n=aV (A.g t).1:=List.take_of_length_le (by omega)
   have hbt:eP ((aW A).take t)<=100:=by
    cases t with
    | zero=>rw [b0]; omega
    | succ u=>have:=Xq u (by omega); omega
   have hgt:fc ((aW A).take t)<=100:=by
    cases t with
    | zero=>rw [g0]; omega
    | succ u=>have:=hgl u (by omega); omega
   have hin:=aSJ hs h ht (fun u e j hj=>by
    subst e
    have:=mQ (hall u (by omega)) hj
    unfold okI at this
    rw [Bool.and_eq_true] at this
    exact this.1) (g0:=((fc ((aW A).take t):Nat):Int)) (N:=((s.1.n:Nat):Int)) hbt
   unfold acE ahA
   refine (aq (decide_eq_true (dW ht))).trans ?_
   refine (aq (decide_eq_true (aQ (n:=A.n) (by omega)))).trans ?_
   revert hin
   cases (List.range (s.1.g t).2.1.n).all (okI s A X Y D t) with
   | false=>intro hin; exact (congrArg (fun o=>aF o 8 _ (bS o _ _)) hin).trans rfl
   | true =>
    intro hin
    refine (bp hin).trans ?_
    cases t with
    | zero =>
     have e1:eP ((aW A).take (0 + 1))=0:=Nat.le_zero.1 (Xq 0 (by omega))
     have e2:fc ((aW A).take (0 + 1))=0:=Nat.le_zero.1 (hgl 0 (by omega))
     refine (aq (decide_eq_true (rfl:((0:Nat):Int)=0))).trans ?_
     rw [e1,e2]
     exact congrArg (fun q:Int=>(RQ.next (show (aa zm).den from ((0:Int),((0:Int),(q,())))):RQ zm IS)) w1
    | succ u =>
     have d0:¬ (((u + 1:Nat):Int)=0):=by omega
     have wp:=wo (n:=s.1.n) (by omega) ht
     have e1:eP ((aW A).take (u + 1 + 1))=eP ((aW A).take (u + 1)) + bcI A (u + 1) (s.1.g (u + 1)).2.1.n:=by
      rw [gu (by omega),qZ (by rw [wq (by omega)]; omega)]
      show _=_ + eO ((aV (A.g (u + 1)).1).take (s.1.g (u + 1)).2.1.n)
      rw [htk]
     have e2:=AG (o:=A) (j:=u) (by omega)
     have hd:=aSL hs h ht (c4:=((eP ((aW A).take (u + 1)) + bcI A (u + 1) (s.1.g (u + 1)).2.1.n:Nat):Int)) (c6:=((s.1.n:Nat):Int)) (c7:=((u + 1:Nat):Int)) hgt ((s.1,(s.2.1,(s.2.2.1,(s.2.2.2.1,(s.2.2.2.2.1,(A,())))))),())
     refine (aR (decide_eq_false d0)).trans ?_
     dsimp only
     rw [wp]
     refine (aq (decide_eq_true (aQ (n:=s.1.n) (by omega)))).trans ?_
     refine (bp hd).trans ?_
     rw [e1,e2]
     exact congrArg (fun q:Int=>(RQ.next (show (aa zm).den from (((eP ((aW A).take (u + 1)) + bcI A (u + 1) (s.1.g (u + 1)).2.1.n:Nat):Int),(((fc ((aW A).take (u + 1)) + eY (A.g u).1.n (aV (A.g (u + 1)).1):Nat):Int),(q,())))):RQ zm IS)) w1
  ·unfold acE ahA
   have:¬ (((s.1.n:Nat):Int) < ((s.1.n:Nat):Int)):=by omega
   exact aR (decide_eq_false this)
 have e:(aW A).take s.1.n=aW A:=List.take_of_length_le (by rw [dI]; omega)
 rw [e] at key
 exact key
def ati (s:tS.den) (A X Y D:cT):Bool:=(List.range s.1.n).all (fun t=>(List.range (s.1.g t).2.1.n).all (okI s A X Y D t)) && (decide (((eP (aW A):Nat):Int)<=OC s) && decide (((fc (aW A):Nat):Int)<=Sa s))
theorem aI6 {t K:Nat} (hK:K=bef s t) (hb:K<=1000) (hr:(A.g t).1.n<=1000) {c4:cT} {c5:Int} {T:tTr.den} :
  Ir ((),((),(((K:Nat):Int),(c4,(c5,((t:Int),((A.g t).1,((((A.g t).1.n:Nat):Int),(s,(T,())))))))))) ((0:Int),()) =
   bif (List.range (A.g t).1.n).all (VX s A t) then .exit 4 () else LQ.ret (wy:=Gb) (show (aa Gb.ret).den from (false,((2:Int),()))):=by
 have wk:W (((K:Nat):Int) - 1)=((K:Nat):Int) - 1:=gQ ⟨by omega,by omega⟩
 unfold Ir
 refine dX (ps:=sN) (n:=(A.g t).1.n) (f:=fun j=>((j:Int),())) (by unfold cz; omega) (fun j hj _=>?_) (fun _=>?_)
 ·have Ew:(RQ.next (show (aa sN).den from (W ((j:Int) + 1),())):RQ sN Gb) = .next (((j + 1:Nat):Int),()):=by rw [dR hj (by omega)]
  unfold Uy Ux
  refine (aq (decide_eq_true (dW hj))).trans ?_
  refine (aq (decide_eq_true (aQ hj))).trans ?_
  refine (aK (zk _ _ _)).trans ?_
  have e:oV (show Int from ((A.g t).1.g j).1) (-1) (W (((K:Nat):Int) - 1))=VX s A t j:=by rw [wk,hK]; rfl
  show (bif !(oV (show Int from ((A.g t).1.g j).1) (-1) (W (((K:Nat):Int) - 1))) then _ else _)=_
  rw [e]
  cases VX s A t j with
  | false=>rfl
  | true=>exact Ew
 ·unfold Uy Ux
  have:¬ ((((A.g t).1.n:Nat):Int) < (((A.g t).1.n:Nat):Int)):=by omega
  exact aR (decide_eq_false this)
theorem aSN (hn:A.n=s.1.n) (hA:vB A) (hk:∀ t,t < s.1.n->(s.1.g t).2.1.n<=1000) {T:tTr.den} :
  ahy ((),((),(A,(((A.n:Nat):Int),(s,(T,())))))) ((0:Int),())=bif Xe s A then .exit 2 () else LQ.ret (wy:=Ro) (show (aa Ro.ret).den from (false,((2:Int),()))):=by
 have hbn:=hA.n
 unfold ahy Xe
 refine dX (ps:=CX) (n:=A.n) (f:=fun j=>((j:Int),())) (by unfold cz; omega) (fun t ht _=>?_) (fun _=>?_)
 ·have Ew:(RQ.next (show (aa CX).den from (W ((t:Int) + 1),())):RQ CX Ro) = .next (((t + 1:Nat):Int),()):=by rw [dR ht (by omega)]
  have hbk:=hA.k t ht
  unfold ahx ahw
  refine (aq (decide_eq_true (dW ht))).trans ?_
  refine (aq (decide_eq_true (aQ ht))).trans ?_
  cases t with
  | zero =>
   refine (aR (decide_eq_false (by omega:¬ ((0:Int) < ((0:Nat):Int))))).trans ?_
   have hin:=aI6 (s:=s) (A:=A) (t:=0) (K:=0) rfl (by omega) (by omega) (c4:=A) (c5:=((A.n:Nat):Int)) (T:=T)
   revert hin
   cases (List.range (A.g 0).1.n).all (VX s A 0) with
   | true=>intro hin; exact (bp hin).trans Ew
   | false=>intro hin; exact (congrArg (fun o=>aF o 4 _ (bS o _ _)) hin).trans rfl
  | succ u =>
   have wp:=wo (n:=s.1.n) (by omega) (show u + 1 < s.1.n by omega)
   refine (aq (decide_eq_true (by omega:(0:Int) < ((u + 1:Nat):Int)))).trans ?_
   dsimp only
   rw [wp]
   refine (aq (decide_eq_true (aQ (n:=s.1.n) (by omega)))).trans ?_
   have hin:=aI6 (s:=s) (A:=A) (t:=u + 1) (K:=(s.1.g u).2.1.n) rfl (hk u (by omega)) (by omega) (c4:=A) (c5:=((A.n:Nat):Int)) (T:=T)
   revert hin
   cases (List.range (A.g (u + 1)).1.n).all (VX s A (u + 1)) with
   | true=>intro hin; exact (bp hin).trans Ew
   | false=>intro hin; exact (congrArg (fun o=>aF o 4 _ (bS o _ _)) hin).trans rfl
 ·unfold ahx ahw
  have:¬ ((A.n:Int) < (A.n:Int)):=by omega
  exact aR (decide_eq_false this)
theorem aSO (hA:vB A) (hX:vB X) (hY:vB Y) (hD:vB D) :
  aht ((),((),(trT A X Y D,(s,(trT A X Y D,()))))) ((0:Int),())=bif gM s A && (gM s X && (gM s Y && gM s D)) then .exit 0 () else LQ.ret (wy:=Rn) (show (aa Rn.ret).den from (false,((2:Int),()))):=by
 have hB:∀ j,j < 4->vB (List.getD [A,X,Y,D] (j * 1) A):=fun j hj=>match j,hj with
  | 0,_=>hA
  | 1,_=>hX
  | 2,_=>hY
  | 3,_=>hD
 have e:(List.range 4).all (fun j=>gM s (List.getD [A,X,Y,D] (j * 1) A))=(gM s A && (gM s X && (gM s Y && gM s D))):=by
  show (gM s A && (gM s X && (gM s Y && (gM s D && true))))=_
  rw [Bool.and_true]
 rw [<- e]
 unfold aht
 refine dX (ps:=CW) (n:=4) (f:=fun j=>((j:Int),())) (by unfold cz; omega) (fun j hj _=>?_) (fun _=>?_)
 ·have Ew:(RQ.next (show (aa CW).den from (W ((j:Int) + 1),())):RQ CW Rn) = .next (((j + 1:Nat):Int),()):=by rw [dR hj (by omega)]
  unfold ahs ahr
  refine (aq (decide_eq_true (by omega:(j:Int) < 4))).trans ?_
  refine (aq (decide_eq_true (by omega:(j:Int) < 4/\(0:Int)<=(j:Int)))).trans ?_
  refine (aq (decide_eq_true (by omega:j * 1 < 4))).trans ?_
  refine (aK (aI1 (s:=s) (hB j hj))).trans ?_
  cases gM s (List.getD [A,X,Y,D] (j * 1) A) with
  | false=>rfl
  | true=>exact Ew
 ·unfold ahs ahr
  exact aR (decide_eq_false (by omega:¬ (((4:Nat):Int) < 4)))
theorem VY (h:LS s A X Y D=true):Ov s A X Y D:=by
 unfold LS Rs at h
 simp only [Bool.and_eq_true] at h
 obtain ⟨⟨h1,h2⟩,h3,h4,h5⟩:=h
 have ha:=Kg h1
 refine ⟨ha,Kg h3,Kg h4,Kg h5,fun t i ht hi=>?_⟩
 have:=mQ h2 (j:=t) (by rw [ha.n]; exact ht)
 exact mQ this (by rw [ha.k t ht]; exact hi)
theorem aI7 (hn:s.1.n<=1000) (hk:∀ t,t < s.1.n->(s.1.g t).2.1.n<=1000) (hA:vB A) (hX:vB X) (hY:vB Y) (hD:vB D) :
  M52 (no_index (s,(trT A X Y D,())))=some (bif Io s && LS s A X Y D then (ati s A X Y D,((0:Int),())) else (false,((2:Int),()))):=by
 unfold M52 Q52
 refine (aK (Us hn hk)).trans ?_
 cases ho:Io s with
 | false=>exact aq rfl
 | true =>
  refine (aR rfl).trans ?_
  have hs:=qP ho
  have h0:=aSO (s:=s) hA hX hY hD
  unfold LS Rs
  cases hrw:(gM s A && (gM s X && (gM s Y && gM s D))) with
  | false =>
   rw [hrw] at h0
   have e:((gM s A && Xe s A) && (gM s X && (gM s Y && gM s D)))=false:=by
    revert hrw
    cases gM s A <;> cases Xe s A <;> cases gM s X <;> cases gM s Y <;> cases gM s D <;> simp
   rw [e]
   exact (congrArg (fun o=>aF o 0 _ (bS o _ _)) h0).trans rfl
  | true =>
   rw [hrw] at h0
   refine (bp h0).trans ?_
   have hra:gM s A=true:=by rw [Bool.and_eq_true] at hrw; exact hrw.1
   have e:((gM s A && Xe s A) && (gM s X && (gM s Y && gM s D)))=Xe s A:=by
    revert hrw
    cases gM s A <;> cases Xe s A <;> cases gM s X <;> cases gM s Y <;> cases gM s D <;> simp
   rw [e]
   have h1:=aSN (s:=s) (Kg hra).n hA hk (T:=trT A X Y D)
   cases hrg:Xe s A with
   | false =>
    rw [hrg] at h1
    exact (congrArg (fun o=>aF o 2 _ (bS o _ _)) h1).trans rfl
   | true =>
    rw [hrg] at h1
    refine (bp h1).trans ?_
    have ht:LS s A X Y D=true:=by unfold LS Rs; rw [e,hrg]
    have h2:=aSM hs (VY ht)
    unfold ati
    revert h2
    cases (List.range s.1.n).all (fun t=>(List.range (s.1.g t).2.1.n).all (okI s A X Y D t)) with
    | false=>intro h2; exact (congrArg (fun o=>aF o 6 _ (bS o _ _)) h2).trans rfl
    | true =>
     intro h2
     refine (bp h2).trans ?_
     by_cases c:((eP (aW A):Nat):Int)<=OC s
     ·refine (aq (decide_eq_true c)).trans ?_
      rw [decide_eq_true c]; rfl
     ·refine (aR (decide_eq_false c)).trans ?_
      rw [decide_eq_false c]; rfl
end Go.Dm
namespace Go.Dm
set_option maxRecDepth 100000
open Go.Low
variable {s:tS.den} {A X Y D:cT}
def bxT (s:tS.den) (X Y D:cT) (t:Nat):Bool:=(List.range (s.1.g t).2.1.n).all fun i=>bx3 (tv X Y D t i) ((s.1.g t).2.1.g i)
def nrI (s:tS.den) (A X Y D:cT) (u i:Nat):Bool:=decide (ap A (u + 1) i < 0) || Wv s (tv X Y D (u + 1) i) (tv X Y D u (ap A (u + 1) i).toNat) (mT s (u + 1) - mT s u)
def ayW (r:Sl sR.den) (i:Nat):Bool:=!decide (0<=(show Int from (r.g i).1)) || !has ((aV r).take i) (show Int from (r.g i).1)
def Ww (r:Sl sR.den):Bool:=(List.range r.n).all (ayW r)
def atl (s:tS.den) (A X Y D:cT):Bool:=(List.range s.1.n).all (bxT s X Y D) && ((List.range (s.1.n - 1)).all (fun u=>(List.range (s.1.g (u + 1)).2.1.n).all (nrI s A X Y D u) && Ww (A.g (u + 1)).1) && (decide (((eP (aW A):Nat):Int)<=OC s) && decide (((fc (aW A):Nat):Int)<=Sa s)))
end Go.Dm
namespace Go.Dm
set_option maxRecDepth 100000
open Go.Low
variable {s:tS.den} {A X Y D:cT}
theorem atm (h:Ov s A X Y D) {u i:Nat} (hu:u + 1 < s.1.n) (hi:i < (s.1.g (u + 1)).2.1.n):okI s A X Y D (u + 1) i=(bx3 (tv X Y D (u + 1) i) ((s.1.g (u + 1)).2.1.g i) && (nrI s A X Y D u i && ayW (A.g (u + 1)).1 i)):=by
 have hl:=h.link hu hi
 show (_ && (decide (ap A (u + 1) i < 0) || (Wv s (tv X Y D (u + 1) i) (tv X Y D u (ap A (u + 1) i).toNat) (hr s u) && !has ((aV (A.g (u + 1)).1).take i) (ap A (u + 1) i))))=(_ && ((decide (ap A (u + 1) i < 0) || Wv s (tv X Y D (u + 1) i) (tv X Y D u (ap A (u + 1) i).toNat) (mT s (u + 1) - mT s u)) && (!decide (0<=ap A (u + 1) i) || !has ((aV (A.g (u + 1)).1).take i) (ap A (u + 1) i))))
 by_cases c:ap A (u + 1) i < 0
 ·have c':¬ (0<=ap A (u + 1) i):=by omega
  rw [decide_eq_true c,decide_eq_false c']; rfl
 ·have c':0<=ap A (u + 1) i:=by omega
  rw [decide_eq_false c,decide_eq_true c']; rfl
theorem ayX (h:Ov s A X Y D):ati s A X Y D=atl s A X Y D:=by
 unfold ati atl
 rw [<- Bool.and_assoc ((List.range s.1.n).all (bxT s X Y D))]
 congr 1
 rw [Bool.eq_iff_iff,Bool.and_eq_true]
 constructor
 ·intro hf
  refine ⟨JL fun t ht=>JL fun i hi=>?_,JL fun u hu=>?_⟩
  ·have:=mQ (mQ hf ht) hi
   unfold okI at this
   rw [Bool.and_eq_true] at this
   exact this.1
  ·have Qo:u + 1 < s.1.n:=by omega
   have hk:∀ i,i < (s.1.g (u + 1)).2.1.n->nrI s A X Y D u i=true/\ayW (A.g (u + 1)).1 i=true:=fun i hi=>by
    have:=mQ (mQ hf Qo) hi
    rw [atm h Qo hi,Bool.and_eq_true,Bool.and_eq_true] at this
    exact this.2
   rw [Bool.and_eq_true]
   exact ⟨JL fun i hi=>(hk i hi).1,JL fun i hi=>(hk i (by rw [<- h.a.k _ Qo]; exact hi)).2⟩
 ·rintro ⟨h1,h2⟩
  refine JL fun t ht=>JL fun i hi=>?_
  cases t with
  | zero=>unfold okI; rw [mQ (mQ h1 ht) hi]; rfl
  | succ u =>
   have:=mQ h2 (j:=u) (by omega)
   rw [Bool.and_eq_true] at this
   rw [atm h ht hi,mQ (mQ h1 ht) hi,mQ this.1 hi,mQ this.2 (j:=i) (by rw [h.a.k _ ht]; exact hi)]; rfl
end Go.Dm
namespace Go.Dm
set_option maxRecDepth 100000
open Go.Low
variable {s:tS.den}
theorem azl {p w:B6} (h:UY (inter p w)=true):xB (no_index (p,((⟨1,fun i=>List.getD [w] i w⟩:Sl Py.den),())))=some (inter p w,()):=by
 obtain ⟨p1,p2,p3,p4,p5,p6,⟨⟩⟩:=p
 obtain ⟨w1,w2,w3,w4,w5,w6,⟨⟩⟩:=w
 have h:(decide (max p1 w1<=min p2 w2) && decide (max p3 w3<=min p4 w4) && decide (max p5 w5<=min p6 w6))=true:=h
 simp only [Bool.and_eq_true,decide_eq_true_eq] at h
 obtain ⟨⟨d1,d2⟩,d3⟩:=h
 have s0:∀ v:(aa fT).den,v.1=1->zJ ((),((),((⟨1,fun i=>List.getD [((w1,(w2,(w3,(w4,(w5,(w6,())))))):B6)] i (w1,(w2,(w3,(w4,(w5,(w6,()))))))⟩:Sl Py.den),(((1:Nat):Int),(((0:Int),((0:Int),((0:Int),((0:Int),((0:Int),((0:Int),())))))),()))))) v = .out (.exit 0 (v.2.1,())):=fun v hv=>by
  unfold zJ Cc
  rw [hv]
  rfl
 have s1:zJ ((),((),((⟨1,fun i=>List.getD [((w1,(w2,(w3,(w4,(w5,(w6,())))))):B6)] i (w1,(w2,(w3,(w4,(w5,(w6,()))))))⟩:Sl Py.den),(((1:Nat):Int),(((0:Int),((0:Int),((0:Int),((0:Int),((0:Int),((0:Int),())))))),()))))) ((0:Int),((p1,(p2,(p3,(p4,(p5,(p6,())))))),())) =
   bif decide (mn p2 w2 < mx p1 w1) then .out (.cw 150 OA ((0:Int),()) ()) else bif decide (mn p4 w4 < mx p3 w3) then .out (.cw 150 OA ((1:Int),()) ()) else bif decide (mn p6 w6 < mx p5 w5) then .out (.cw 150 OA ((2:Int),()) ()) else .next ((1:Int),((mx p1 w1,(mn p2 w2,(mx p3 w3,(mn p4 w4,(mx p5 w5,(mn p6 w6,())))))),())):=rfl
 rw [GU,GU,GU,LI,LI,LI] at s1
 have c1:¬ (min p2 w2 < max p1 w1):=by omega
 have c2:¬ (min p4 w4 < max p3 w3):=by omega
 have c3:¬ (min p6 w6 < max p5 w5):=by omega
 rw [decide_eq_false c1,cond_false,decide_eq_false c2,cond_false,decide_eq_false c3,cond_false] at s1
 have key:AW ((),((),((⟨1,fun i=>List.getD [((w1,(w2,(w3,(w4,(w5,(w6,())))))):B6)] i (w1,(w2,(w3,(w4,(w5,(w6,()))))))⟩:Sl Py.den),(((1:Nat):Int),(((0:Int),((0:Int),((0:Int),((0:Int),((0:Int),((0:Int),())))))),()))))) ((0:Int),((p1,(p2,(p3,(p4,(p5,(p6,())))))),())) = .exit 0 ((max p1 w1,(min p2 w2,(max p3 w3,(min p4 w4,(max p5 w5,(min p6 w6,())))))),()):=by
  unfold AW
  refine bQ (ps:=fT) 1 cz (fun j=>match j with | 0=>((0:Int),((p1,(p2,(p3,(p4,(p5,(p6,())))))),())) | _=>((1:Int),((max p1 w1,(min p2 w2,(max p3 w3,(min p4 w4,(max p5 w5,(min p6 w6,())))))),()))) (by unfold cz; omega) (fun j hj=>?_) ?_
  ·obtain rfl:j=0:=by omega
   exact s1
  ·exact s0 _ rfl
 unfold xB RV
 exact bp key
theorem aAH (hs:(cB s).Ok) {t i:Nat} (ht:t < s.1.n) (hi':i < (s.1.g t).2.1.n) {b:B6} (hne:ne b) (h1:∀ a,lo ((s.1.g t).2.1.g i) a<=lo b a) (h2:∀ a,hi b a<=hi ((s.1.g t).2.1.g i) a):vL b:=fun a ha=>by
 have q1:=lE hs ht hi' a ha
 have q2:=hne a ha
 have q3:=h1 a
 have q4:=h2 a
 omega
theorem aEh (hs:(cB s).Ok) {L:LL} (h:wD (cB s) L) {t i:Nat} (ht:t < s.1.n) (hi':i < (s.1.g t).2.1.n):vL (Low.can (cB s) L t i):=by
 refine aAH hs ht hi' (azm hs h ht hi') (fun a=>?_) fun a=>?_
 ·have:=(Mi (s:=cB s) L a _ t i).1 (Int.le_refl _) _ (aa4 L t i)
  rw [Int.sub_self,Int.mul_zero,Int.sub_zero] at this
  exact this
 ·have:=(Mj (s:=cB s) L a _ t i).1 (Int.le_refl _) _ (aa4 L t i)
  rw [Int.sub_self,Int.mul_zero,Int.add_zero] at this
  exact this
theorem aAI (L:LL) (m t i:Nat):(t,i)∈des (cB s) L m t i:=by cases m <;> simp [des]
theorem aGJ (hs:(cB s).Ok) {L:LL} (h:wD (cB s) L) {m t i:Nat} (ht:t + m < s.1.n) (hi':i < (s.1.g t).2.1.n):vL (fut (cB s) L m t i):=by
 refine aAH hs (t:=t) (by omega) hi' (azn hs h ht hi') (fun a=>?_) fun a=>?_
 ·have:=(atS (s:=cB s) L a m t i _).1 (Int.le_refl _) _ (aAI L m t i)
  rw [Int.sub_self,Int.mul_zero,Int.sub_zero] at this
  exact this
 ·have:=(atT (s:=cB s) L a m t i _).1 (Int.le_refl _) _ (aAI L m t i)
  rw [Int.sub_self,Int.mul_zero,Int.add_zero] at this
  exact this
theorem atU {c d:Nat->Bool}:∀ {n:Nat},(∀ j,j < n->c j=d j)->fB c n=fB d n
 | 0,_=>rfl
 | n + 1,h=>by
  have ih:=atU (n:=n) fun j hj=>h j (by omega)
  simp only [fB,ih,h n (by omega)]
theorem aKC (hs:(cB s).Ok) {rows:cT} (hL:aW rows∈links (cB s)):∀ (n t i:Nat),t < n->t < s.1.n->i < (s.1.g t).2.1.n ->
  Yc n (no_index ((vw s rows).1,((t:Int),((i:Int),()))))=some (Low.can (cB s) (aW rows) t i,())
 | 0,t,i,h,_,_=>by omega
 | n + 1,0,i,_,ht,hi'=>by
  show UT (Yc n) _=_
  unfold UT acd
  refine (aK (Po ht hi')).trans ?_
  exact aR rfl
 | n + 1,t + 1,i,hn,ht,hi'=>by
  have hr:=aia hs hL
  have hI:=(tX hs).1 hL
  have WM:=eF hs
  have hk:=dN hs (t:=t) (by omega)
  have hr0:=hr.n
  have tY:i < (rows.g (t + 1)).1.n:=by rw [hr.k _ ht]; exact hi'
  have RI:t + 1 < rows.n:=by rw [hr.n]; exact ht
  have hl:qR (aW rows) (t + 1) i=(show Int from ((rows.g (t + 1)).1.g i).1):=OO RI tY
  have a0:(0:Int) < ((t + 1:Nat):Int):=by omega
  have a1:(0:Int)<=((t + 1:Nat):Int)/\((t + 1:Nat):Int) < ((rows.n:Nat):Int):=by omega
  have a2:(0:Int)<=(i:Int)/\(i:Int) < ((((rows.g (t + 1)).1.n:Nat)):Int):=by omega
  show UT (Yc n) _=_
  unfold UT acd
  refine (aK (Po ht hi')).trans ?_
  refine (aq (decide_eq_true a0)).trans ?_
  refine (aq (decide_eq_true a1)).trans ?_
  refine (aq (decide_eq_true a2)).trans ?_
  simp only [Low.can]
  by_cases c:0<=qR (aW rows) (t + 1) i
  ·rw [if_pos c]
   have c':(0:Int)<=(show Int from ((rows.g (t + 1)).1.g i).1):=by rw [<- hl]; exact c
   rcases hI.afg ht hi' with h1 | h1
   ·omega
   have e:(show Int from ((rows.g (t + 1)).1.g i).1)=(((qR (aW rows) (t + 1) i).toNat:Nat):Int):=by rw [<- hl]; omega
   have ih:=aKC hs hL n t (qR (aW rows) (t + 1) i).toNat (by omega) (by omega) h1.2.1
   have ih':Yc n ((vw s rows).1,((W (((t + 1:Nat):Int) - 1)),((rows.g (t + 1)).1.g i)))=some (Low.can (cB s) (aW rows) t (qR (aW rows) (t + 1) i).toNat,()):=by
    rw [wo (n:=s.1.n) (by omega) ht]
    refine Eq.trans (congrArg (fun z:Int=>Yc n ((vw s rows).1,((t:Int),(z,())))) e) ih
   have hm0:0<=mT s t/\mT s t<=200:=hs.Xp t (Nat.lt_of_succ_lt ht)
   have hm1:0<=mT s (t + 1)/\mT s (t + 1)<=200:=hs.Xp (t + 1) ht
   have hm2:mT s t < mT s (t + 1):=hs.tm t ht
   have hcan:=azm hs hI (t:=t + 1) ht hi'
   simp only [Low.can] at hcan
   rw [if_pos c] at hcan
   refine (aq (decide_eq_true c')).trans ?_
   refine (aq (decide_eq_true a1)).trans ?_
   refine (aq (decide_eq_true a2)).trans ?_
   refine (aK ih').trans ?_
   refine (aK (afH hs ht)).trans ?_
   refine (aK (ang hs (aEh hs hI (by omega) h1.2.1) (h:=mT s (t + 1) - mT s t) (by omega) (by omega))).trans ?_
   refine (aK (azl (Wc.2 hcan))).trans ?_
   rfl
  ·rw [if_neg c]
   have c':¬ ((0:Int)<=(show Int from ((rows.g (t + 1)).1.g i).1)):=by rw [<- hl]; exact c
   exact aR (decide_eq_false c')
theorem aTW {rows:cT} (hn:rows.n=s.1.n) (h4:s.1.n<=4) {t i:Nat} (ht:t + 1 < s.1.n) (hr:(rows.g (t + 1)).1.n<=1000) :
  Ay (no_index ((vw s rows).1,((t:Int),((i:Int),()))))=some ((match fB (fun j=>decide ((i:Int)=((rows.g (t + 1)).1.g j).1)) (rows.g (t + 1)).1.n with | some k=>(k:Int) | none=>-1),()):=by
 have adO:=aat (rows.g (t + 1)).1 (by omega) (i:Int)
 have hW:W ((t:Int) + 1)=((t + 1:Nat):Int):=dR (n:=s.1.n) (by omega) (by omega)
 have key:∀ w:Int,w=((t + 1:Nat):Int)->(bif decide (w=((s.1.n:Nat):Int)) then some ((-1:Int),()) else bif decide ((0:Int)<=w/\w < ((rows.n:Nat):Int)) then cl (Dx).dflt (Gq ((rows.g (Int.toNat w)).1,((i:Int),()))) (fun u0=>some u0) none else none)=some ((match fB (fun j=>decide ((i:Int)=((rows.g (t + 1)).1.g j).1)) (rows.g (t + 1)).1.n with | some k=>(k:Int) | none=>-1),()):=by
  intro w hw
  subst hw
  have c1:¬ (((t + 1:Nat):Int)=((s.1.n:Nat):Int)):=by omega
  refine (aR (decide_eq_false c1)).trans ?_
  refine (aq (decide_eq_true (aQ (by omega)))).trans ?_
  exact aK adO
 unfold Ay aa9
 exact key _ hW
theorem aGK {rows:cT} {t i:Nat} (ht:t + 1=s.1.n) (h4:s.1.n<=4):Ay (no_index ((vw s rows).1,((t:Int),((i:Int),()))))=some ((-1:Int),()):=by
 have hW:W ((t:Int) + 1)=((s.1.n:Nat):Int):=by rw [gQ ⟨by omega,by omega⟩]; omega
 unfold Ay aa9
 exact aq (decide_eq_true hW)
theorem aPH (hs:(cB s).Ok) {rows:cT} (hr:PC s rows) {t i:Nat} (ht:t + 1 < s.1.n):fB (fun j=>decide ((i:Int)=((rows.g (t + 1)).1.g j).1)) (rows.g (t + 1)).1.n=nx (cB s) (aW rows) t i:=by
 have hk:(rows.g (t + 1)).1.n=(cB s).k (t + 1):=hr.k _ ht
 unfold nx
 rw [hk]
 refine atU fun j hj=>?_
 have:=OO (o:=rows) (t:=t + 1) (i:=j) (by rw [hr.n]; exact ht) (by rw [hk]; exact hj)
 rw [this]
theorem aKD (hs:(cB s).Ok) {rows:cT} (hL:aW rows∈links (cB s)):∀ (m n t i:Nat),m < n->t + m + 1=s.1.n->i < (s.1.g t).2.1.n ->
  aaj n (no_index ((vw s rows).1,((t:Int),((i:Int),()))))=some (fut (cB s) (aW rows) m t i,())
 | m,0,t,i,h,_,_=>by omega
 | 0,n + 1,t,i,_,ht,hi'=>by
  have WM:=eF hs
  show UU (aaj n) _=_
  unfold UU ace
  refine (aK (Po (by omega) hi')).trans ?_
  refine (aK (aGK (by omega) (by omega))).trans ?_
  exact aR rfl
 | m + 1,n + 1,t,i,hn,ht,hi'=>by
  have hr:=aia hs hL
  have hI:=(tX hs).1 hL
  have WM:=eF hs
  have ht1:t + 1 < s.1.n:=by omega
  have hk1:=dN hs ht1
  have aba:=aTW (i:=i) hr.n (by omega) ht1 (by rw [hr.k _ ht1]; omega)
  rw [aPH hs hr ht1] at aba
  show UU (aaj n) _=_
  unfold UU ace
  refine (aK (Po (by omega) hi')).trans ?_
  refine (aK aba).trans ?_
  simp only [fut]
  have aTX:=azn hs hI (m:=m + 1) (t:=t) (i:=i) (by show t + (m + 1) < s.1.n; omega) hi'
  simp only [fut] at aTX
  cases hn':nx (cB s) (aW rows) t i with
  | none=>exact aR rfl
  | some j =>
   rw [hn'] at aTX
   have h1:=aqc hn'
   have hj:j < (s.1.g (t + 1)).2.1.n:=h1.1
   have c':(0:Int)<=((j:Nat):Int):=by omega
   have hW:W ((t:Int) + 1)=((t + 1:Nat):Int):=dR (n:=s.1.n) (by omega) (by omega)
   have ih:=aKD hs hL m n (t + 1) j (by omega) (by omega) hj
   have ih':aaj n ((vw s rows).1,((W ((t:Int) + 1)),((j:Int),())))=some (fut (cB s) (aW rows) m (t + 1) j,()):=by rw [hW]; exact ih
   have hm0:0<=mT s t/\mT s t<=200:=hs.Xp t (Nat.lt_of_succ_lt ht1)
   have hm1:0<=mT s (t + 1)/\mT s (t + 1)<=200:=hs.Xp (t + 1) ht1
   have hm2:mT s t < mT s (t + 1):=hs.tm t ht1
   have h96:WG (dx s,((W ((t:Int) + 1)),()))=some (mT s (t + 1) - mT s t,()):=by rw [hW]; exact afH hs ht1
   refine (aq (decide_eq_true c')).trans ?_
   refine (aK ih').trans ?_
   refine (aK h96).trans ?_
   refine (aK (ang hs (aGJ hs hI (by omega) hj) (h:=mT s (t + 1) - mT s t) (by omega) (by omega))).trans ?_
   refine (aK (azl (Wc.2 aTX))).trans ?_
   rfl
theorem aFI (b c:B6):apv b c=(mn b.1 c.1,(mx b.2.1 c.2.1,(mn b.2.2.1 c.2.2.1,(mx b.2.2.2.1 c.2.2.2.1,(mn b.2.2.2.2.1 c.2.2.2.2.1,(mx b.2.2.2.2.2.1 c.2.2.2.2.2.1,())))))):=by
 unfold apv; simp only [LI,GU]
theorem aGL (b:B6):apv b b=b:=B6.ext (fun a _=>by rw [aFJ,Int.min_self]) fun a _=>by rw [aFK,Int.max_self]
def aKE (t i:Int) (b out:B6) (met:Bool):RO jN:=.next ((),((),((),((),((),((t,()),((i,()),(b,(out,((met,()),()))))))))))
theorem aQD (hs:(cB s).Ok) {rows:cT} (hL:aW rows∈links (cB s)) {t i:Nat} (ht:t < s.1.n) (hi':i < (s.1.g t).2.1.n) (b out:B6) (met:Bool) :
  PT ((),((),((),((),((),(((t:Int),()),(((i:Int),()),(b,(out,((met,()),())))))))))) (vw s rows)=aKE t i b (bif met then apv out (pos (cB s) (aW rows) t i) else pos (cB s) (aW rows) t i) true:=by
 have WM:=eF hs
 have hI:=(tX hs).1 hL
 have h6:=aKC hs hL 6 t i (by omega) ht hi'
 have h7:=aKD hs hL (s.1.n - 1 - t) 6 t i (by omega) (by omega) hi'
 have hp:=Wc.2 (aTY hs hI (t:=t) (i:=i) ht hi')
 unfold PT RW
 refine (aK h6).trans ?_
 refine (aK h7).trans ?_
 refine (aK (azl hp)).trans ?_
 cases met with
 | false =>
  refine (aq rfl).trans ?_
  have e:=aGL (pos (cB s) (aW rows) t i)
  rw [aFI] at e
  exact congrArg (fun q:B6=>aKE t i b q true) e
 | true =>
  refine (aR rfl).trans ?_
  have e:=aFI out (pos (cB s) (aW rows) t i)
  exact congrArg (fun q:B6=>aKE t i b q true) e.symm
theorem aFL (hs:(cB s).Ok) {t i:Nat} (ht:t < s.1.n) (hi':i < (s.1.g t).2.1.n) (b:B6):∀ (l:List fD.den) (out:B6),(∀ it∈l,Good s it/\toL it∈links (cB s)) ->
  NK ((),((),((),((),((),(((t:Int),()),(((i:Int),()),(b,(out,((true,()),())))))))))) l=aKE t i b (apg out (l.map fun it=>pos (cB s) (toL it) t i)) true
 | [],out,_=>rfl
 | it :: l,out,hg=>by
  obtain ⟨g1,g2⟩:=hg it (.head _)
  obtain ⟨rows,rfl,hr,hL⟩:=g1.rows
  rw [hL] at g2
  have st:=aQD hs g2 ht hi' b out true
  have ih:=aFL hs ht hi' b l (apv out (pos (cB s) (aW rows) t i)) fun x hx=>hg x (.tail _ hx)
  unfold NK at ih ⊢
  simp only [eW,st]
  refine ih.trans ?_
  rw [List.map_cons,hL]
  rfl
theorem aWz (hs:(cB s).Ok) (ha:Dg s=true) {t i:Nat} (ht:t < s.1.n) (hi':i < (s.1.g t).2.1.n):M80 (no_index (s,((t:Int),((i:Int),()))))=some (ach (cB s) t i,()):=by
 obtain ⟨z,h1,h2,h3⟩:=anh hs
 have hmem:∀ it∈z.list,Good s it/\toL it∈links (cB s):=fun it hit=>⟨h3 it hit,by rw [<- h2]; exact List.mem_map_of_mem hit⟩
 have hne:links (cB s)≠[]:=by
  obtain ⟨L,hL⟩:=Ki.1 ha
  exact List.ne_nil_of_mem hL
 have key:NK ((),((),((),((),((),(((t:Int),()),(((i:Int),()),(((0:Int),((0:Int),((0:Int),((0:Int),((0:Int),((0:Int),())))))),(((0:Int),((0:Int),((0:Int),((0:Int),((0:Int),((0:Int),())))))),((false,()),())))))))))) z.list=aKE t i ((0:Int),((0:Int),((0:Int),((0:Int),((0:Int),((0:Int),())))))) (ach (cB s) t i) true:=by
  unfold ach
  rw [<- h2] at hne ⊢
  revert hne hmem
  cases z.list with
  | nil=>intro _ hne; exact absurd rfl hne
  | cons it l =>
   intro hmem _
   obtain ⟨g1,g2⟩:=hmem it (.head _)
   obtain ⟨rows,rfl,hr,hL⟩:=g1.rows
   rw [hL] at g2
   have st:=aQD hs g2 ht hi' ((0:Int),((0:Int),((0:Int),((0:Int),((0:Int),((0:Int),())))))) ((0:Int),((0:Int),((0:Int),((0:Int),((0:Int),((0:Int),())))))) false
   have ih:=aFL hs ht hi' ((0:Int),((0:Int),((0:Int),((0:Int),((0:Int),((0:Int),())))))) l (pos (cB s) (aW rows) t i) fun x hx=>hmem x (.tail _ hx)
   unfold NK at ih ⊢
   simp only [eW,st]
   refine ih.trans ?_
   rw [List.map_cons,hL]
   have e:(l.map fun it=>pos (cB s) (toL it) t i)=(l.map toL).map fun L=>pos (cB s) L t i:=(List.map_map (f:=toL) (g:=fun L=>pos (cB s) L t i) (l:=l)).symm
   rw [e]
   rfl
 unfold M80 Q80
 refine (aK h1).trans ?_
 refine (congrArg (fun o=>oQ o _ (oR o _ _)) key).trans ?_
 rfl
def lowB (s:tS.den) (t i:Int):Bool:=oV t 0 (W (((s.1.n:Nat):Int) - 1)) && oV i 0 (W ((((s.1.g t.toNat).2.1.n:Nat):Int) - 1))
theorem auQ {n:Nat} (hn:n<=1000) {x:Int}:oV x 0 (W (((n:Nat):Int) - 1))=true↔0<=x/\x.toNat < n:=by
 rw [gQ ⟨by omega,by omega⟩]
 unfold oV
 rw [Bool.and_eq_true,decide_eq_true_eq,decide_eq_true_eq]
 omega
theorem aQE (hn:s.1.n<=1000) (t i:Int):M78 (no_index (s,(t,(i,()))))=some (lowB s t i,()):=by
 unfold M78 Q78 lowB
 refine (aK (zk _ _ _)).trans ?_
 cases h:oV t 0 (W (((s.1.n:Nat):Int) - 1)) with
 | false=>exact aR rfl
 | true =>
  have h1:=(auQ hn).1 h
  have a:(0:Int)<=t/\t < ((s.1.n:Nat):Int):=by omega
  refine (aq rfl).trans ?_
  refine (aq (decide_eq_true a)).trans ?_
  exact aK (zk _ _ _)
theorem lowB_nat (ho:Io s=true) {t i:Nat} (ht:t < s.1.n) (hi':i < (s.1.g t).2.1.n):lowB s t i=true:=by
 have hs:=qP ho
 have WM:=eF hs
 have hk:=dN hs ht
 unfold lowB
 rw [Bool.and_eq_true]
 exact ⟨(auQ (by omega)).2 ⟨by omega,by simpa using ht⟩,(auQ (by rw [Int.toNat_natCast]; omega)).2 ⟨by omega,by simpa using hi'⟩⟩
def b0:B6:=((0:Int),((0:Int),((0:Int),((0:Int),((0:Int),((0:Int),()))))))
theorem aKu (ho:Io s=true) (ha:Dg s=true) {t i:Nat} (ht:t < s.1.n) (hi':i < (s.1.g t).2.1.n):M36 (no_index (s,((t:Int),((i:Int),()))))=some (ach (cB s) t i,((0:Int),())):=by
 have hs:=qP ho
 have WM:=eF hs
 have h63:=auP (s:=s) (by omega) (fun t ht=>by have:=dN hs ht; omega) true
 have e0:Jc s true=0:=by unfold Jc; rw [ho,ha]; rfl
 rw [e0] at h63
 have h78:=aQE (s:=s) (by omega) (t:Int) (i:Int)
 rw [lowB_nat ho ht hi'] at h78
 unfold M36 Q36
 refine (aK h78).trans ?_
 refine (aK h63).trans ?_
 refine (aR rfl).trans ?_
 refine (aK (aWz hs ha ht hi')).trans ?_
 rfl
end Go.Dm
namespace Go.Dm
set_option maxRecDepth 100000
open Go.Low
variable {s:tS.den} {fr to:Int}
def ah9 (l h p:Int):Int:=l + (h - l) * p / 100
def aEc (fr to:Int) (b:B6):B6:=(ah9 b.1 b.2.1 fr,(ah9 b.1 b.2.1 to,(ah9 b.2.2.1 b.2.2.2.1 fr,(ah9 b.2.2.1 b.2.2.2.1 to,(ah9 b.2.2.2.2.1 b.2.2.2.2.2.1 fr,(ah9 b.2.2.2.2.1 b.2.2.2.2.2.1 to,()))))))
def e3:Sl Py.den:=⟨0,fun i=>((0:Int),((0:Int),((0:Int),((0:Int),((0:Int),((0:Int),()))))))⟩
def e4:Sl Tc.den:=⟨0,fun i=>((0:Int),((⟨0,fun i=>((0:Int),((0:Int),((0:Int),((0:Int),((0:Int),((0:Int),()))))))⟩:Sl _),()))⟩
def azf (fr to:Int) (r:Sl Py.den) (n:Nat):Sl Py.den:=tab e3 (fun i=>aEc fr to (r.g i)) n
def aTJ (fr to:Int) (s:tS.den) (n:Nat):Sl Tc.den:=tab e4 (fun t=>(mT s t,(azf fr to (s.1.g t).2.1 (s.1.g t).2.1.n,()))) n
def xS (fr to sp bn gn:Int) (s:tS.den) (n:Nat):tS.den:=(aTJ fr to s n,(sp,(zn s,(bn,(gn,())))))
structure XOk (s:tS.den) (fr to sp bn gn:Int):Prop where
 p0:0<=fr
 pq:fr<=to
 q1:to<=100
 s0:0<=sp
 s1:sp<=pN s
 b0:0<=bn
 b1:bn<=OC s
 g0:0<=gn
 g1:gn<=Sa s
end Go.Dm
namespace Go.Dm
set_option maxRecDepth 100000
open Go.Low
variable {s:tS.den} {fr to:Int}
theorem abi (hs:(cB s).Ok):s.1.n<=1000/\∀ t,t < s.1.n->(s.1.g t).2.1.n<=1000:=⟨by have:=eF hs; omega,fun t ht=>by have:=dN hs ht; omega⟩
theorem aWw (hn:s.1.n<=1000) (t i:Int):M35 (no_index (s,(t,(i,()))))=some (lowB s t i,()):=by
 unfold M35 Q35 lowB
 refine (aK (uW _ _ _)).trans ?_
 cases h:oV t 0 (W (((s.1.n:Nat):Int) - 1)) with
 | false=>exact aR rfl
 | true =>
  have h1:=(auQ hn).1 h
  have a:(0:Int)<=t/\t < ((s.1.n:Nat):Int):=by omega
  refine (aq rfl).trans ?_
  refine (aq (decide_eq_true a)).trans ?_
  exact aK (uW _ _ _)
theorem lowB_ex (hn:s.1.n<=1000) (hk:∀ t,t < s.1.n->(s.1.g t).2.1.n<=1000) {t i:Int} (h:lowB s t i=true):∃ t' i':Nat,t=(t':Int)/\i=(i':Int)/\t' < s.1.n/\i' < (s.1.g t').2.1.n:=by
 unfold lowB at h
 rw [Bool.and_eq_true] at h
 have h1:=(auQ hn).1 h.1
 have h2:=(auQ (hk _ h1.2)).1 h.2
 exact ⟨t.toNat,i.toNat,by omega,by omega,h1.2,h2.2⟩
section
variable {sp bn gn:Int} (hx:XOk s fr to sp bn gn) (ho:Io s=true) (ha:Dg (xS fr to sp bn gn s s.1.n)=true)
include hx ho
end
theorem tb {a b:Int} (h:a≠b):(!decide (a=b))=true:=by rw [decide_eq_false h]; rfl
end Go.Dm
namespace Go.Dm
set_option maxRecDepth 100000
open Go.Low
variable {s:tS.den} {A X Y D:cT}
def tvA (X Y D:cT) (t i a:Nat):Int:=match a with
 | 0=>ap X t i
 | 1=>ap Y t i
 | _=>ap D t i
theorem au6 (h:PC s A) {t i:Nat} (ht:t < s.1.n) (hi:i < (s.1.g t).2.1.n):qR (aW A) t i=ap A t i:=OO (by rw [h.n]; exact ht) (by rw [h.k t ht]; exact hi)
theorem ab8 (hs:(cB s).Ok) (h:Ov s A X Y D) (hf:atl s A X Y D=true):Tru (cB s) (aW A) (tvA X Y D):=by
 unfold atl at hf
 simp only [Bool.and_eq_true,decide_eq_true_eq] at hf
 obtain ⟨h1,h2,h3,h4⟩:=hf
 have hin:∀ t i,t < s.1.n->i < (s.1.g t).2.1.n->bx3 (tv X Y D t i) ((s.1.g t).2.1.g i)=true:=fun t i ht hi=>mQ (mQ h1 ht) hi
 refine ⟨(dI A).trans h.a.n,?_,fun t ht=>?_,h3,h4,fun t i ht hi a ha=>?_,fun t i ht hi h0 a ha=>?_⟩
 ·show (aW A).getD 0 []=_
  have hn:0 < s.1.n:=hs.n1
  rw [kH (by rw [h.a.n]; exact hn)]
  unfold first
  refine List.ext_getElem? fun i=>?_
  have hk:(A.g 0).1.n=(s.1.g 0).2.1.n:=h.a.k 0 hn
  rw [gR,List.getElem?_replicate,hk]
  show _=if i < (s.1.g 0).2.1.n then some (-1) else none
  by_cases hi:i < (s.1.g 0).2.1.n
  ·rw [if_pos hi,if_pos hi]
   have:=h.rng 0 i hn hi
   unfold VX oV at this
   rw [Bool.and_eq_true,decide_eq_true_eq,decide_eq_true_eq] at this
   have h5:(-1:Int)<=(show Int from ((A.g 0).1.g i).1)/\(show Int from ((A.g 0).1.g i).1)<=(((0:Nat):Int)) - 1:=this
   have h6:(show Int from ((A.g 0).1.g i).1) = -1:=by omega
   exact congrArg some h6
  ·rw [if_neg hi,if_neg hi]
 ·have ht':t + 1 < s.1.n:=ht
  rw [kH (by rw [h.a.n]; exact ht')]
  refine ⟨(iN _).trans (h.a.k _ ht'),fun i x hx=>?_⟩
  rw [gR,h.a.k _ ht'] at hx
  split at hx
  ·rename_i hi
   have hx:=Option.some.inj hx
   have hl:=h.link ht' hi
   rcases hl with q | ⟨q1,q2⟩
   ·exact .inl (hx.symm.trans q)
   ·have hx:ap A (t + 1) i=x:=hx
    rw [hx] at q1 q2
    refine .inr ⟨q1,q2,fun j hj hjx=>?_⟩
    have h5:=mQ h2 (j:=t) (by omega)
    rw [Bool.and_eq_true] at h5
    have h6:=mQ h5.2 (j:=i) (by rw [h.a.k _ ht']; exact hi)
    unfold ayW at h6
    have hx':(show Int from ((A.g (t + 1)).1.g i).1)=x:=hx
    rw [hx',decide_eq_true q1,Bool.not_true,Bool.false_or,Bool.not_eq_true'] at h6
    have h7:has ((aV (A.g (t + 1)).1).take i) x=true:=zN.2 ⟨j,by rw [List.getElem?_take,if_pos hj]; exact hjx⟩
    rw [h7] at h6
    cases h6
  ·cases hx
 ·have:=Yu.1 (hin t i ht hi)
  show lo ((s.1.g t).2.1.g i) a<=tvA X Y D t i a/\tvA X Y D t i a<=Low.hi ((s.1.g t).2.1.g i) a
  match a,ha with
  | 0,_=>exact this.1
  | 1,_=>exact this.2.1
  | 2,_=>exact this.2.2
 ·have ht':t + 1 < s.1.n:=ht
  have e:=au6 h.a ht' hi
  rw [e] at h0 ⊢
  have h5:=mQ h2 (j:=t) (by omega)
  rw [Bool.and_eq_true] at h5
  have h6:=mQ h5.1 hi
  unfold nrI at h6
  have h0':¬ (ap A (t + 1) i < 0):=by omega
  rw [decide_eq_false h0',Bool.false_or] at h6
  unfold Wv Kh at h6
  simp only [Bool.and_eq_true,decide_eq_true_eq] at h6
  obtain ⟨⟨a1,a2⟩,⟨b1,b2⟩,c1,c2⟩:=h6
  match a,ha with
  | 0,_=>exact ⟨a1,a2⟩
  | 1,_=>exact ⟨b1,b2⟩
  | 2,_=>exact ⟨c1,c2⟩
theorem afN (hs:(cB s).Ok) {X:Nat->Nat->Nat->Int} {L:LL} (h:Tru (cB s) L X):Dg s=true:=Ki.2 ⟨L,(tX hs).2 h.links⟩
theorem aio (x:Int) (b c:Int):M53 (no_index (x,((b,(c,())),())))=some (oV x b c,()):=by
 show (bif decide (b<=x) then some (decide (x<=c),()) else some (false,()))=_
 unfold oV
 cases decide (b<=x) <;> rfl
theorem aeb {x a b:Int} (h1:a<=x) (h2:x<=b):oV x a b=true:=by unfold oV; rw [decide_eq_true h1,decide_eq_true h2]; rfl
end Go.Dm

/- Truths: low.Fits, whole. -/
import Derived.Test.YtadkaccpacpklaaL15LP22
set_option linter.unusedVariables false
set_option linter.unusedSimpArgs false
namespace Go.Dm
set_option maxRecDepth 100000
open Go.Low
variable {s:tS.den} {A X Y D:cT}
theorem aSL (hs:(cB s).Ok) (h:Ov s A X Y D) {u:Nat} (hu:u + 1 < s.1.n) {c4 c6 c7:Int} {g0:Nat} (hg:g0<=100) (K:gN.den) :
  UF ((),((),((),(c4,(((u + 1:Nat):Int),(c6,(c7,((((s.1.g u).2.1.n:Nat):Int),(s,(trT A X Y D,K)))))))))) ((g0:Int),((0:Int),())) =
   .exit 14 (((g0 + eY (A.g u).1.n (aV (A.g (u + 1)).1):Nat):Int),()):=by
 have hk:=dN hs (t:=u) (by omega)
 have hk1:=dN hs hu
 have hA:=h.a.k u (by omega)
 have hA1:=h.a.k (u + 1) hu
 have nA:=h.a.n
 have hm:∀ j r,eY j r<=j:=fun j r=>by
  unfold eY
  exact Nat.le_trans (List.length_filter_le _ _) (by simp)
 rw [hA]
 unfold UF
 refine bQ (ps:=mN) (s.1.g u).2.1.n cz (fun j=>(((g0 + eY j (aV (A.g (u + 1)).1):Nat):Int),((j:Int),()))) (by unfold cz; omega) (fun j hj=>?_) ?_
 ·have hmj:=hm j (aV (A.g (u + 1)).1)
  have hsu:=Ck j (aV (A.g (u + 1)).1)
  have w1:W ((j:Int) + 1)=((j + 1:Nat):Int):=dR hj (by omega)
  unfold UE UD
  refine (aq (decide_eq_true (dW hj))).trans ?_
  refine (aq (decide_eq_true (aQ (n:=A.n) (by omega)))).trans ?_
  refine (aK (Wt (A.g (u + 1)).1 (by omega) (j:Int))).trans ?_
  cases hd:has (aV (A.g (u + 1)).1) (j:Int) with
  | true =>
   rw [hd,cond_true,Nat.add_zero] at hsu
   rw [hsu]
   refine (aR rfl).trans ?_
   exact congrArg (fun q:Int=>(RQ.next (show (aa mN).den from (((g0 + eY j (aV (A.g (u + 1)).1):Nat):Int),(q,()))):RQ mN Gi)) w1
  | false =>
   rw [hd,cond_false] at hsu
   refine (aq rfl).trans ?_
   have w2:W (((g0 + eY j (aV (A.g (u + 1)).1):Nat):Int) + 1)=((g0 + eY (j + 1) (aV (A.g (u + 1)).1):Nat):Int):=by rw [gQ ⟨by omega,by omega⟩,hsu]; omega
   exact (congrArg (fun q:Int=>(RQ.next (show (aa mN).den from (q,(W ((j:Int) + 1),()))):RQ mN Gi)) w2).trans (congrArg (fun q:Int=>(RQ.next (show (aa mN).den from (((g0 + eY (j + 1) (aV (A.g (u + 1)).1):Nat):Int),(q,()))):RQ mN Gi)) w1)
 ·unfold UE UD
  have:¬ ((((s.1.g u).2.1.n:Nat):Int) < (((s.1.g u).2.1.n:Nat):Int)):=by omega
  exact aR (decide_eq_false this)
theorem aSM (hs:(cB s).Ok) (h:Ov s A X Y D) :
  anp ((),((),((),(((s.1.n:Nat):Int),(s,(trT A X Y D,((s.1,(s.2.1,(s.2.2.1,(s.2.2.2.1,(s.2.2.2.2.1,(A,())))))),()))))))) ((0:Int),((0:Int),((0:Int),()))) =
   bif (List.range s.1.n).all (fun t=>(List.range (s.1.g t).2.1.n).all (okI s A X Y D t)) then .exit 6 (((eP (aW A):Nat):Int),(((fc (aW A):Nat):Int),())) else LQ.ret (wy:=IS) (show (aa IS.ret).den from (false,((0:Int),()))):=by
 have h4:=eF hs
 have nA:=h.a.n
 have hkA:∀ t,t < A.n->(A.g t).1.n<=3:=fun t ht=>by rw [h.a.k t (by omega)]; exact dN hs (by omega)
 have Xq:=BO hkA
 have hgl:=BP hkA
 have b0:eP ((aW A).take 0)=0:=rfl
 have g0:fc ((aW A).take 0)=0:=rfl
 have key:aH (acE ((),((),((),(((s.1.n:Nat):Int),(s,(trT A X Y D,((s.1,(s.2.1,(s.2.2.1,(s.2.2.2.1,(s.2.2.2.2.1,(A,())))))),())))))))) cz (((eP ((aW A).take 0):Nat):Int),(((fc ((aW A).take 0):Nat):Int),(((0:Nat):Int),()))) =
   bif (List.range s.1.n).all (fun t=>(List.range (s.1.g t).2.1.n).all (okI s A X Y D t)) then .exit 6 (((eP ((aW A).take s.1.n):Nat):Int),(((fc ((aW A).take s.1.n):Nat):Int),())) else LQ.ret (wy:=IS) (show (aa IS.ret).den from (false,((0:Int),()))):=by
  refine dX (ps:=zm) (n:=s.1.n) (f:=fun j=>(((eP ((aW A).take j):Nat):Int),(((fc ((aW A).take j):Nat):Int),((j:Int),())))) (by unfold cz; omega) (fun t ht hall=>?_) (fun _=>?_)
  ·have w1:W ((t:Int) + 1)=((t + 1:Nat):Int):=dR ht (by omega)
   have hA:=h.a.k t ht
   have hlen:=iN (A.g t).1
   have htk:(aV (A.g t).1).take (s.1.g t).2.1.n=aV (A.g t).1:=List.take_of_length_le (by omega)
   have hbt:eP ((aW A).take t)<=100:=by
    cases t with
    | zero=>rw [b0]; omega
    | succ u=>have:=Xq u (by omega); omega
   have hgt:fc ((aW A).take t)<=100:=by
    cases t with
    | zero=>rw [g0]; omega
    | succ u=>have:=hgl u (by omega); omega
   have hin:=aSJ hs h ht (fun u e j hj=>by
    subst e
    have:=mQ (hall u (by omega)) hj
    unfold okI at this
    rw [Bool.and_eq_true] at this
    exact this.1) (g0:=((fc ((aW A).take t):Nat):Int)) (N:=((s.1.n:Nat):Int)) hbt
   unfold acE ahA
   refine (aq (decide_eq_true (dW ht))).trans ?_
   refine (aq (decide_eq_true (aQ (n:=A.n) (by omega)))).trans ?_
   revert hin
   cases (List.range (s.1.g t).2.1.n).all (okI s A X Y D t) with
   | false=>intro hin; exact (congrArg (fun o=>aF o 8 _ (bS o _ _)) hin).trans rfl
   | true =>
    intro hin
    refine (bp hin).trans ?_
    cases t with
    | zero =>
     have e1:eP ((aW A).take (0 + 1))=0:=Nat.le_zero.1 (Xq 0 (by omega))
     have e2:fc ((aW A).take (0 + 1))=0:=Nat.le_zero.1 (hgl 0 (by omega))
     refine (aq (decide_eq_true (rfl:((0:Nat):Int)=0))).trans ?_
     rw [e1,e2]
     exact congrArg (fun q:Int=>(RQ.next (show (aa zm).den from ((0:Int),((0:Int),(q,())))):RQ zm IS)) w1
    | succ u =>
     have d0:¬ (((u + 1:Nat):Int)=0):=by omega
     have wp:=wo (n:=s.1.n) (by omega) ht
     have e1:eP ((aW A).take (u + 1 + 1))=eP ((aW A).take (u + 1)) + bcI A (u + 1) (s.1.g (u + 1)).2.1.n:=by
      rw [gu (by omega),qZ (by rw [wq (by omega)]; omega)]
      show _=_ + eO ((aV (A.g (u + 1)).1).take (s.1.g (u + 1)).2.1.n)
      rw [htk]
     have e2:=AG (o:=A) (j:=u) (by omega)
     have hd:=aSL hs h ht (c4:=((eP ((aW A).take (u + 1)) + bcI A (u + 1) (s.1.g (u + 1)).2.1.n:Nat):Int)) (c6:=((s.1.n:Nat):Int)) (c7:=((u + 1:Nat):Int)) hgt ((s.1,(s.2.1,(s.2.2.1,(s.2.2.2.1,(s.2.2.2.2.1,(A,())))))),())
     refine (aR (decide_eq_false d0)).trans ?_
     dsimp only
     rw [wp]
     refine (aq (decide_eq_true (aQ (n:=s.1.n) (by omega)))).trans ?_
     refine (bp hd).trans ?_
     rw [e1,e2]
     exact congrArg (fun q:Int=>(RQ.next (show (aa zm).den from (((eP ((aW A).take (u + 1)) + bcI A (u + 1) (s.1.g (u + 1)).2.1.n:Nat):Int),(((fc ((aW A).take (u + 1)) + eY (A.g u).1.n (aV (A.g (u + 1)).1):Nat):Int),(q,())))):RQ zm IS)) w1
  ·unfold acE ahA
   have:¬ (((s.1.n:Nat):Int) < ((s.1.n:Nat):Int)):=by omega
   exact aR (decide_eq_false this)
 have e:(aW A).take s.1.n=aW A:=List.take_of_length_le (by rw [dI]; omega)
 rw [e] at key
 exact key
def ati (s:tS.den) (A X Y D:cT):Bool:=(List.range s.1.n).all (fun t=>(List.range (s.1.g t).2.1.n).all (okI s A X Y D t)) && (decide (((eP (aW A):Nat):Int)<=OC s) && decide (((fc (aW A):Nat):Int)<=Sa s))
theorem aI6 {t K:Nat} (hK:K=bef s t) (hb:K<=1000) (hr:(A.g t).1.n<=1000) {c4:cT} {c5:Int} {T:ag6.den} :
  Ir ((),((),(((K:Nat):Int),(c4,(c5,((t:Int),((A.g t).1,((((A.g t).1.n:Nat):Int),(s,(T,())))))))))) ((0:Int),()) =
   bif (List.range (A.g t).1.n).all (VX s A t) then .exit 4 () else LQ.ret (wy:=Gb) (show (aa Gb.ret).den from (false,((2:Int),()))):=by
 have wk:W (((K:Nat):Int) - 1)=((K:Nat):Int) - 1:=gQ ⟨by omega,by omega⟩
 unfold Ir
 refine dX (ps:=sN) (n:=(A.g t).1.n) (f:=fun j=>((j:Int),())) (by unfold cz; omega) (fun j hj _=>?_) (fun _=>?_)
 ·have Ew:(RQ.next (show (aa sN).den from (W ((j:Int) + 1),())):RQ sN Gb) = .next (((j + 1:Nat):Int),()):=by rw [dR hj (by omega)]
  unfold Uy Ux
  refine (aq (decide_eq_true (dW hj))).trans ?_
  refine (aq (decide_eq_true (aQ hj))).trans ?_
  refine (aK (zk _ _ _)).trans ?_
  have e:oV (show Int from ((A.g t).1.g j).1) (-1) (W (((K:Nat):Int) - 1))=VX s A t j:=by rw [wk,hK]; rfl
  show (bif !(oV (show Int from ((A.g t).1.g j).1) (-1) (W (((K:Nat):Int) - 1))) then _ else _)=_
  rw [e]
  cases VX s A t j with
  | false=>rfl
  | true=>exact Ew
 ·unfold Uy Ux
  have:¬ ((((A.g t).1.n:Nat):Int) < (((A.g t).1.n:Nat):Int)):=by omega
  exact aR (decide_eq_false this)
theorem aSN (hn:A.n=s.1.n) (hA:vB A) (hk:∀ t,t < s.1.n->(s.1.g t).2.1.n<=1000) {T:ag6.den} :
  ahy ((),((),(A,(((A.n:Nat):Int),(s,(T,())))))) ((0:Int),())=bif Xe s A then .exit 2 () else LQ.ret (wy:=Ro) (show (aa Ro.ret).den from (false,((2:Int),()))):=by
 have hbn:=hA.n
 unfold ahy Xe
 refine dX (ps:=CX) (n:=A.n) (f:=fun j=>((j:Int),())) (by unfold cz; omega) (fun t ht _=>?_) (fun _=>?_)
 ·have Ew:(RQ.next (show (aa CX).den from (W ((t:Int) + 1),())):RQ CX Ro) = .next (((t + 1:Nat):Int),()):=by rw [dR ht (by omega)]
  have hbk:=hA.k t ht
  unfold ahx ahw
  refine (aq (decide_eq_true (dW ht))).trans ?_
  refine (aq (decide_eq_true (aQ ht))).trans ?_
  cases t with
  | zero =>
   refine (aR (decide_eq_false (by omega:¬ ((0:Int) < ((0:Nat):Int))))).trans ?_
   have hin:=aI6 (s:=s) (A:=A) (t:=0) (K:=0) rfl (by omega) (by omega) (c4:=A) (c5:=((A.n:Nat):Int)) (T:=T)
   revert hin
   cases (List.range (A.g 0).1.n).all (VX s A 0) with
   | true=>intro hin; exact (bp hin).trans Ew
   | false=>intro hin; exact (congrArg (fun o=>aF o 4 _ (bS o _ _)) hin).trans rfl
  | succ u =>
   have wp:=wo (n:=s.1.n) (by omega) (show u + 1 < s.1.n by omega)
   refine (aq (decide_eq_true (by omega:(0:Int) < ((u + 1:Nat):Int)))).trans ?_
   dsimp only
   rw [wp]
   refine (aq (decide_eq_true (aQ (n:=s.1.n) (by omega)))).trans ?_
   have hin:=aI6 (s:=s) (A:=A) (t:=u + 1) (K:=(s.1.g u).2.1.n) rfl (hk u (by omega)) (by omega) (c4:=A) (c5:=((A.n:Nat):Int)) (T:=T)
   revert hin
   cases (List.range (A.g (u + 1)).1.n).all (VX s A (u + 1)) with
   | true=>intro hin; exact (bp hin).trans Ew
   | false=>intro hin; exact (congrArg (fun o=>aF o 4 _ (bS o _ _)) hin).trans rfl
 ·unfold ahx ahw
  have:¬ ((A.n:Int) < (A.n:Int)):=by omega
  exact aR (decide_eq_false this)
theorem aSO (hA:vB A) (hX:vB X) (hY:vB Y) (hD:vB D) :
  aht ((),((),(trT A X Y D,(s,(trT A X Y D,()))))) ((0:Int),())=bif gM s A && (gM s X && (gM s Y && gM s D)) then .exit 0 () else LQ.ret (wy:=Rn) (show (aa Rn.ret).den from (false,((2:Int),()))):=by
 have hB:∀ j,j < 4->vB (List.getD [A,X,Y,D] (j * 1) A):=fun j hj=>match j,hj with
  | 0,_=>hA
  | 1,_=>hX
  | 2,_=>hY
  | 3,_=>hD
 have e:(List.range 4).all (fun j=>gM s (List.getD [A,X,Y,D] (j * 1) A))=(gM s A && (gM s X && (gM s Y && gM s D))):=by
  show (gM s A && (gM s X && (gM s Y && (gM s D && true))))=_
  rw [Bool.and_true]
 rw [<- e]
 unfold aht
 refine dX (ps:=CW) (n:=4) (f:=fun j=>((j:Int),())) (by unfold cz; omega) (fun j hj _=>?_) (fun _=>?_)
 ·have Ew:(RQ.next (show (aa CW).den from (W ((j:Int) + 1),())):RQ CW Rn) = .next (((j + 1:Nat):Int),()):=by rw [dR hj (by omega)]
  unfold ahs ahr
  refine (aq (decide_eq_true (by omega:(j:Int) < 4))).trans ?_
  refine (aq (decide_eq_true (by omega:(j:Int) < 4/\(0:Int)<=(j:Int)))).trans ?_
  refine (aq (decide_eq_true (by omega:j * 1 < 4))).trans ?_
  refine (aK (aI1 (s:=s) (hB j hj))).trans ?_
  cases gM s (List.getD [A,X,Y,D] (j * 1) A) with
  | false=>rfl
  | true=>exact Ew
 ·unfold ahs ahr
  exact aR (decide_eq_false (by omega:¬ (((4:Nat):Int) < 4)))
theorem VY (h:LS s A X Y D=true):Ov s A X Y D:=by
 unfold LS Rs at h
 simp only [Bool.and_eq_true] at h
 obtain ⟨⟨h1,h2⟩,h3,h4,h5⟩:=h
 have ha:=Kg h1
 refine ⟨ha,Kg h3,Kg h4,Kg h5,fun t i ht hi=>?_⟩
 have:=mQ h2 (j:=t) (by rw [ha.n]; exact ht)
 exact mQ this (by rw [ha.k t ht]; exact hi)
theorem aI7 (hn:s.1.n<=1000) (hk:∀ t,t < s.1.n->(s.1.g t).2.1.n<=1000) (hA:vB A) (hX:vB X) (hY:vB Y) (hD:vB D) :
  M52 (no_index (s,(trT A X Y D,())))=some (bif Io s && LS s A X Y D then (ati s A X Y D,((0:Int),())) else (false,((2:Int),()))):=by
 unfold M52 Q52
 refine (aK (Us hn hk)).trans ?_
 cases ho:Io s with
 | false=>exact aq rfl
 | true =>
  refine (aR rfl).trans ?_
  have hs:=qP ho
  have h0:=aSO (s:=s) hA hX hY hD
  unfold LS Rs
  cases hrw:(gM s A && (gM s X && (gM s Y && gM s D))) with
  | false =>
   rw [hrw] at h0
   have e:((gM s A && Xe s A) && (gM s X && (gM s Y && gM s D)))=false:=by
    revert hrw
    cases gM s A <;> cases Xe s A <;> cases gM s X <;> cases gM s Y <;> cases gM s D <;> simp
   rw [e]
   exact (congrArg (fun o=>aF o 0 _ (bS o _ _)) h0).trans rfl
  | true =>
   rw [hrw] at h0
   refine (bp h0).trans ?_
   have hra:gM s A=true:=by rw [Bool.and_eq_true] at hrw; exact hrw.1
   have e:((gM s A && Xe s A) && (gM s X && (gM s Y && gM s D)))=Xe s A:=by
    revert hrw
    cases gM s A <;> cases Xe s A <;> cases gM s X <;> cases gM s Y <;> cases gM s D <;> simp
   rw [e]
   have h1:=aSN (s:=s) (Kg hra).n hA hk (T:=trT A X Y D)
   cases hrg:Xe s A with
   | false =>
    rw [hrg] at h1
    exact (congrArg (fun o=>aF o 2 _ (bS o _ _)) h1).trans rfl
   | true =>
    rw [hrg] at h1
    refine (bp h1).trans ?_
    have ht:LS s A X Y D=true:=by unfold LS Rs; rw [e,hrg]
    have h2:=aSM hs (VY ht)
    unfold ati
    revert h2
    cases (List.range s.1.n).all (fun t=>(List.range (s.1.g t).2.1.n).all (okI s A X Y D t)) with
    | false=>intro h2; exact (congrArg (fun o=>aF o 6 _ (bS o _ _)) h2).trans rfl
    | true =>
     intro h2
     refine (bp h2).trans ?_
     by_cases c:((eP (aW A):Nat):Int)<=OC s
     ·refine (aq (decide_eq_true c)).trans ?_
      rw [decide_eq_true c]; rfl
     ·refine (aR (decide_eq_false c)).trans ?_
      rw [decide_eq_false c]; rfl
end Go.Dm

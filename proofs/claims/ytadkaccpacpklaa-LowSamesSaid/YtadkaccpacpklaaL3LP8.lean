/- The reference: each low can be the same as all that it was before. -/
import Derived.Test.YtadkaccpacpklaaL3LP7
set_option linter.unusedVariables false
set_option linter.unusedSimpArgs false
namespace Go.Dm
set_option maxRecDepth 100000
open Go.Low
variable {s:tS.den}
theorem asR {al ah bl bh w:Int} (h1:0<=al/\al<=99999) (h2:0<=ah/\ah<=99999) (h3:0<=bl/\bl<=99999) (h4:0<=bh/\bh<=99999) :
  Un (no_index ((al,(ah,())),((bl,(bh,())),(w,()))))=some (!(decide (al - bh<=w) && decide (bl - ah<=w)),()):=by
 show (bif decide (w < W (al - bh)) then some (true,()) else some (decide (w < W (bl - ah)),()))=_
 rw [gQ (n:=al - bh) ⟨by omega,by omega⟩,gQ (n:=bl - ah) ⟨by omega,by omega⟩]
 by_cases c1:w < al - bh
 ·have d1:¬ (al - bh<=w):=by omega
  rw [decide_eq_true c1,decide_eq_false d1]; rfl
 ·have d1:al - bh<=w:=by omega
  rw [decide_eq_false c1,decide_eq_true d1]
  by_cases c2:w < bl - ah
  ·have d2:¬ (bl - ah<=w):=by omega
   rw [decide_eq_true c2,decide_eq_false d2]; rfl
  ·have d2:bl - ah<=w:=by omega
   rw [decide_eq_false c2,decide_eq_true d2]; rfl
def ax (s:PS) (p q:Nat×Nat) (a:Nat):Bool:=decide (lo (s.box p.1 p.2) a - hi (s.box q.1 q.2) a<=dV s a * (s.tm p.1 - s.tm q.1)) && decide (lo (s.box q.1 q.2) a - hi (s.box p.1 p.2) a<=dV s a * (s.tm p.1 - s.tm q.1))
theorem anj (s:PS) (p q:Nat×Nat):Ba s p q=(ax s p q 0 && (ax s p q 1 && (ax s p q 2 && true))):=rfl
theorem asS (hs:(cB s).Ok) {t i u j:Nat} (ht:t < s.1.n) (hi':i < (s.1.g t).2.1.n) (hu:u<=t) (hj:j < (s.1.g u).2.1.n) :
  Wl (no_index (s,((t:Int),((i:Int),((u:Int),((j:Int),()))))))=some (Ba (cB s) (t,i) (u,j),()):=by
 unfold Wl am6
 have Pt:u < s.1.n:=by omega
 have q1:0<=pN s/\pN s<=50:=hs.sp
 have q2:0<=zn s/\zn s<=1000:=hs.dp
 have h1:0<=mT s t/\mT s t<=200:=hs.Xp t ht
 have h2:0<=mT s u/\mT s u<=200:=hs.Xp u Pt
 have h3:mT s u<=mT s t:=hs.afG hu ht
 have hm:mx (W (mT s t - mT s u)) (W (mT s u - mT s t))=mT s t - mT s u:=by
  rw [GU,gQ (n:=mT s t - mT s u) ⟨by omega,by omega⟩,gQ (n:=mT s u - mT s t) ⟨by omega,by omega⟩]; omega
 have hW0:W (pN s * mx (W (mT s t - mT s u)) (W (mT s u - mT s t)))=pN s * (mT s t - mT s u):=by rw [hm]; exact (MG ⟨q1.1,by omega⟩ ⟨by omega,by omega⟩).1
 have hW2:W (zn s * mx (W (mT s t - mT s u)) (W (mT s u - mT s t)))=zn s * (mT s t - mT s u):=by rw [hm]; exact (MG q2 ⟨by omega,by omega⟩).1
 have hp:=lE hs ht hi'
 have hq:=lE hs Pt hj
 have f:∀ (a:Nat) (w:Int),a < 3->w=dV (cB s) a * (mT s t - mT s u)->Un ((lo ((s.1.g t).2.1.g i) a,(hi ((s.1.g t).2.1.g i) a,())),((lo ((s.1.g u).2.1.g j) a,(hi ((s.1.g u).2.1.g j) a,())),(w,())))=some (!(ax (cB s) (t,i) (u,j) a),()):=fun a w ha hw=>by
  subst hw
  have p1:=hp a ha
  have p2:=hq a ha
  exact asR ⟨p1.1,p1.2.1⟩ p1.2.2 ⟨p2.1,p2.2.1⟩ p2.2.2
 rw [anj]
 refine (aq (decide_eq_true (aQ ht))).trans ?_
 refine (aq (decide_eq_true (aQ hi'))).trans ?_
 refine (aq (decide_eq_true (aQ Pt))).trans ?_
 refine (aq (decide_eq_true (aQ hj))).trans ?_
 refine (aq (decide_eq_true (aQ ht))).trans ?_
 refine (aq (decide_eq_true (aQ Pt))).trans ?_
 refine (aq (decide_eq_true (aQ Pt))).trans ?_
 refine (aq (decide_eq_true (aQ ht))).trans ?_
 refine (aK (f 0 _ (by omega) hW0)).trans ?_
 cases ax (cB s) (t,i) (u,j) 0 with
 | false=>rfl
 | true =>
  refine (aq rfl).trans ?_
  refine (aK (f 1 _ (by omega) hW0)).trans ?_
  cases ax (cB s) (t,i) (u,j) 1 with
  | false=>rfl
  | true =>
   refine (aq rfl).trans ?_
   refine (aK (f 2 _ (by omega) hW2)).trans ?_
   cases ax (cB s) (t,i) (u,j) 2 <;> rfl
structure Pre (s:tS.den) (L:LL):Prop where
 sh:Shape s L []
 first:L.getD 0 []=first (cB s)
theorem OO {o:cT} {t i:Nat} (ht:t < o.n) (hi':i < (o.g t).1.n):qR (aW o) t i=(show Int from ((o.g t).1.g i).1):=by
 unfold qR
 rw [kH ht,List.getD_eq_getElem?_getD,gR,if_pos hi']; rfl
theorem acC (hs:(cB s).Ok) {o:cT} (hP:Pre s (aW o)) {t i:Nat} (ht:t < o.n) (hi':i < (s.1.g t).2.1.n) :
  ∀ (u j n:Nat),u<=t->j < (s.1.g u).2.1.n->u < n->aH (qT (o,((),((t:Int),((i:Int),(s,())))))) n ((u:Int),((j:Int),()))=bif (uT (aW o) u j).tail.all (fun p=>Ba (cB s) (t,i) p) then .exit 2 () else LQ.ret (wy:=qX) (show (aa qX.ret).den from (false,())):=by
 have hon:o.n<=s.1.n:=by have:=hP.sh.le; rwa [dI] at this
 have WM:=eF hs
 have hlen:∀ t,t < o.n->(o.g t).1.n=(s.1.g t).2.1.n:=fun t ht=>by
  have:=hP.sh.len t (by rw [dI]; exact ht)
  rw [kH ht,iN] at this
  exact this
 intro u
 induction u with
 | zero =>
  intro j n hu hj hn
  obtain ⟨n,rfl⟩:∃ m,n=m + 1:=⟨n - 1,by omega⟩
  have hj':j < (o.g 0).1.n:=by rw [hlen 0 (by omega)]; exact hj
  have h0:(show Int from ((o.g 0).1.g j).1) = -1:=by
   rw [<- OO (by omega) hj']
   unfold qR
   rw [hP.first]
   simp only [first,List.getD_eq_getElem?_getD,List.getElem?_replicate]
   rw [if_pos (show j < (cB s).k 0 from hj)]; rfl
  have hneg:¬ ((0:Int)<=(show Int from ((o.g 0).1.g j).1)):=by rw [h0]; omega
  have:qT (o,((),((t:Int),((i:Int),(s,()))))) (((0:Nat):Int),((j:Int),())) = .out (.exit 2 ()):=by
   unfold qT Cf
   refine (aq (decide_eq_true (aQ (j:=0) (n:=o.n) (by omega)))).trans ?_
   refine (aq (decide_eq_true (aQ hj'))).trans ?_
   exact aR (decide_eq_false hneg)
  simp only [aH,this]
  rfl
 | succ u ih =>
  intro j n hu hj hn
  obtain ⟨n,rfl⟩:∃ m,n=m + 1:=⟨n - 1,by omega⟩
  have Qo:u + 1 < o.n:=by omega
  have hj':j < (o.g (u + 1)).1.n:=by rw [hlen (u + 1) Qo]; exact hj
  have hl:=OO Qo hj'
  simp only [uT,List.tail_cons]
  rw [hl]
  by_cases hneg:(0:Int)<=(show Int from ((o.g (u + 1)).1.g j).1)
  ·rw [if_pos hneg]
   obtain ⟨q,hq⟩:∃ q:Nat,(show Int from ((o.g (u + 1)).1.g j).1)=(q:Int):=⟨(show Int from ((o.g (u + 1)).1.g j).1).toNat,by omega⟩
   have hqk:q < (s.1.g u).2.1.n:=by
    have hv:=hP.sh.val u j (q:Int) (by rw [dI]; exact Qo) (by rw [kH Qo,gR,if_pos hj']; exact congrArg some hq)
    rcases hv with hv | hv
    ·omega
    ·simpa using hv.2
   rw [hq,show Int.toNat (q:Int)=q from rfl,aas (aW o) u q,List.all_cons]
   have w1:W (((u + 1:Nat):Int) - 1)=(u:Int):=wo (n:=u + 2) (by omega) (by omega)
   have hM:=asS hs (t:=t) (i:=i) (u:=u) (j:=q) (by omega) hi' (by omega) hqk
   have step:qT (o,((),((t:Int),((i:Int),(s,()))))) (((u + 1:Nat):Int),((j:Int),()))=bif Ba (cB s) (t,i) (u,q) then .next ((u:Int),((q:Int),())) else .out (LQ.ret (wy:=qX) (show (aa qX.ret).den from (false,()))):=by
    have hM':Wl (s,((t:Int),((i:Int),(W (((u + 1:Nat):Int) - 1),(o.g (u + 1)).1.g j))))=some (Ba (cB s) (t,i) (u,q),()):=by
     rw [w1]
     have:(o.g (u + 1)).1.g j=((q:Int),()):=Prod.ext hq rfl
     rw [this]; exact hM
    unfold qT Cf
    refine (aq (decide_eq_true (aQ Qo))).trans ?_
    refine (aq (decide_eq_true (aQ hj'))).trans ?_
    refine (aq (decide_eq_true hneg)).trans ?_
    refine (aq (decide_eq_true (aQ Qo))).trans ?_
    refine (aq (decide_eq_true (aQ hj'))).trans ?_
    refine (aK hM').trans ?_
    cases Ba (cB s) (t,i) (u,q) with
    | false=>rfl
    | true =>
     have:(o.g (u + 1)).1.g j=((q:Int),()):=Prod.ext hq rfl
     show RQ.next (show (aa mM).den from (W (((u + 1:Nat):Int) - 1),(o.g (u + 1)).1.g j))=_
     rw [this,w1]; rfl
   simp only [aH,step]
   cases Ba (cB s) (t,i) (u,q) with
   | false=>rfl
   | true =>
    have:=ih q n (by omega) hqk (by omega)
    rw [cond_true,Bool.true_and]
    exact this
  ·rw [if_neg hneg]
   have:qT (o,((),((t:Int),((i:Int),(s,()))))) (((u + 1:Nat):Int),((j:Int),())) = .out (.exit 2 ()):=by
    unfold qT Cf
    refine (aq (decide_eq_true (aQ Qo))).trans ?_
    refine (aq (decide_eq_true (aQ hj'))).trans ?_
    exact aR (decide_eq_false hneg)
   simp only [aH,this]
   rfl
theorem azZ (hs:(cB s).Ok) {o:cT} (hP:Pre s (aW o)):M71 (no_index (s,(o,())))=some (chB (cB s) (aW o),()):=by
 have hpos:0 < o.n:=by have:=hP.sh.pos; rwa [dI] at this
 have hon:o.n<=s.1.n:=by have:=hP.sh.le; rwa [dI] at this
 have WM:=eF hs
 obtain ⟨t,ht⟩:∃ t,o.n=t + 1:=⟨o.n - 1,by omega⟩
 have hto:t < o.n:=by omega
 have hlen:(o.g t).1.n=(s.1.g t).2.1.n:=by
  have:=hP.sh.len t (by rw [dI]; exact hto)
  rw [kH hto,iN] at this
  exact this
 have hk:=dN hs (t:=t) (by omega)
 have w1:W ((o.n:Int) - 1)=(t:Int):=by rw [gQ ⟨by omega,by omega⟩]; omega
 have key:RY (o,((),((t:Int),(s,())))) ((0:Int),())=bif (List.range (s.1.g t).2.1.n).all (fun i=>(uT (aW o) t i).tail.all fun p=>Ba (cB s) (t,i) p) then .exit 0 () else LQ.ret (wy:=zg) (show (aa zg.ret).den from (false,())):=by
  unfold RY
  refine dX (ps:=sj) (n:=(s.1.g t).2.1.n) (f:=fun j=>((j:Int),())) (c:=fun i=>(uT (aW o) t i).tail.all fun p=>Ba (cB s) (t,i) p) (by unfold cz; omega) (fun j hj _=>?_) (fun _=>?_)
  ·unfold Wo Wn
   have hj':j < (o.g t).1.n:=by rw [hlen]; exact hj
   refine (aq (decide_eq_true (aQ hto))).trans ?_
   refine (aq (decide_eq_true (dW hj'))).trans ?_
   have hc:=acC hs hP hto hj t j cz (Nat.le_refl _) hj (by unfold cz; omega)
   have hc:Ib (o,((),((t:Int),((j:Int),(s,()))))) ((t:Int),((j:Int),()))=_:=hc
   revert hc
   cases (uT (aW o) t j).tail.all (fun p=>Ba (cB s) (t,j) p) with
   | true =>
    intro hc
    refine (bp hc).trans ?_
    exact congrArg (fun q:Int=>(RQ.next (show (aa sj).den from (q,())):RQ sj zg)) (dR hj (by omega))
   | false =>
    intro hc
    refine (congrArg (fun o=>aF o 2 _ (bS o _ _)) hc).trans ?_
    rfl
  ·unfold Wo Wn
   refine (aq (decide_eq_true (aQ hto))).trans ?_
   have:¬ (((s.1.g t).2.1.n:Int) < ((o.g t).1.n:Int)):=by omega
   exact aR (decide_eq_false this)
 unfold M71 Q71
 have hch:chB (cB s) (aW o)=(List.range (s.1.g t).2.1.n).all (fun i=>(uT (aW o) t i).tail.all fun p=>Ba (cB s) (t,i) p):=by
  unfold chB
  rw [dI,ht,Nat.add_sub_cancel,kH hto,iN,hlen]
 have key':RY (o,((),(W ((o.n:Int) - 1),(s,())))) ((0:Int),())=bif (List.range (s.1.g t).2.1.n).all (fun i=>(uT (aW o) t i).tail.all fun p=>Ba (cB s) (t,i) p) then .exit 0 () else LQ.ret (wy:=zg) (show (aa zg.ret).den from (false,())):=by rw [w1]; exact key
 rw [hch]
 revert key'
 cases (List.range (s.1.g t).2.1.n).all (fun i=>(uT (aW o) t i).tail.all fun p=>Ba (cB s) (t,i) p) with
 | true=>intro h; exact bp h
 | false=>intro h; refine (congrArg (fun o=>aF o 0 _ (bS o _ _)) h).trans ?_; rfl
end Go.Dm

/- What LowBack makes of a suite. -/
import Derived.Test.YtadkaccpacpklaaL6LP28
import Derived.Test.YtadkaccpacpklaaL6LM8
set_option linter.unusedVariables false
set_option linter.unusedSimpArgs false
namespace Go.Dm
set_option maxRecDepth 100000
open Go.Low
variable {s:tS.den}
def afR (s:tS.den) (n:Nat):Sl Tc.den:=tab e4 (fun j=>((200:Int) - mT s (s.1.n - 1 - j),(s.1.g (s.1.n - 1 - j)).2)) n
def aef (s:tS.den) (n:Nat):tS.den:=(afR s n,(s.2.1,(s.2.2.1,(s.2.2.2.2.1,(s.2.2.2.1,())))))
def abc (s:tS.den):tS.den:=aef s s.1.n
theorem aBG (hs:(cB s).Ok):M34 (no_index (s,()))=some (abc s,()):=by
 have WM:=eF hs
 have key:aP9 ((),((),((),(s,(((⟨0,fun i=>((0:Int),((⟨0,fun i=>((0:Int),((0:Int),((0:Int),((0:Int),((0:Int),((0:Int),()))))))⟩:Sl _),()))⟩:Sl _),((0:Int),((0:Int),((0:Int),((0:Int),()))))),()))))) ((W (((s.1.n:Nat):Int) - (1:Int))),(aef s 0,())) = .exit 0 (abc s,()):=by
  have e0:W (((s.1.n:Nat):Int) - 1)=((s.1.n:Nat):Int) - 1 - ((0:Nat):Int):=by rw [gQ ⟨by omega,by omega⟩]; omega
  rw [e0]
  unfold aP9
  refine bQ (ps:=ah1) s.1.n cz (fun j=>(((s.1.n:Nat):Int) - 1 - (j:Int),(aef s j,()))) (by unfold cz; omega) (fun j hj=>?_) ?_
  ·have hi:((s.1.n:Nat):Int) - 1 - (j:Int)=((s.1.n - 1 - j:Nat):Int):=by omega
   have a0:(0:Int)<=((s.1.n - 1 - j:Nat):Int):=by omega
   have hn:(afR s j).n=j:=aoU rfl
   have h32:((afR s j).n + 1) * 32<=140737488355328:=by omega
   have ht:s.1.n - 1 - j < s.1.n:=by omega
   have hm:0<=mT s (s.1.n - 1 - j)/\mT s (s.1.n - 1 - j)<=200:=hs.Xp _ ht
   have w1:W ((200:Int) - mT s (s.1.n - 1 - j))=200 - mT s (s.1.n - 1 - j):=gQ ⟨by omega,by omega⟩
   have w2:W (((s.1.n - 1 - j:Nat):Int) - 1)=((s.1.n:Nat):Int) - 1 - ((j + 1:Nat):Int):=by rw [gQ ⟨by omega,by omega⟩]; omega
   have fin:∀ p q:Int,p=((s.1.n:Nat):Int) - 1 - ((j + 1:Nat):Int)->q=200 - mT s (s.1.n - 1 - j)->(RQ.next (show (aa ah1).den from (p,((cK (afR s j) (⟨1,fun i=>List.getD [(q,(s.1.g (s.1.n - 1 - j)).2)] i (q,(s.1.g (s.1.n - 1 - j)).2)⟩:Sl Tc.den),(aef s j).2),()))):RQ ah1 ayZ) = .next (((s.1.n:Nat):Int) - 1 - ((j + 1:Nat):Int),(aef s (j + 1),())):=fun p q hp hq=>by rw [hp,hq]; rfl
   rw [hi]
   unfold aJD aJC
   refine (aq (decide_eq_true a0)).trans ?_
   refine (aq (decide_eq_true (aQ ht))).trans ?_
   refine (aq (decide_eq_true (aQ ht))).trans ?_
   refine (aq (decide_eq_true h32)).trans ?_
   exact fin _ _ w2 w1
  ·have a0:¬ ((0:Int)<=((s.1.n:Nat):Int) - 1 - ((s.1.n:Nat):Int)):=by omega
   unfold aJD aJC
   exact aR (decide_eq_false a0)
 unfold M34 Q34
 exact (bp key).trans rfl
theorem ack:(abc s).1.n=s.1.n:=aoU rfl
theorem acm {j:Nat} (h:j < s.1.n):(abc s).1.g j=((200:Int) - mT s (s.1.n - 1 - j),(s.1.g (s.1.n - 1 - j)).2):=aze (s0:=e4) rfl h
theorem abq {t:Nat} (h:t < s.1.n):((abc s).1.g (s.1.n - 1 - t)).2.1=(s.1.g t).2.1:=by
 rw [acm (by omega)]
 have:s.1.n - 1 - (s.1.n - 1 - t)=t:=by omega
 dsimp only
 rw [this]
theorem aeh:Rev (cB s) (cB (abc s)):=by
 refine ⟨ack.symm,fun t ht=>?_,fun t ht=>?_,fun t i ht hi=>?_,fun a=>?_,rfl,rfl⟩
 ·show ((abc s).1.g (s.1.n - 1 - t)).2.1.n=_
  rw [abq ht]; rfl
 ·show ((abc s).1.g (s.1.n - 1 - t)).1=_
  have ht':t < s.1.n:=ht
  rw [acm (by omega)]
  have:s.1.n - 1 - (s.1.n - 1 - t)=t:=by omega
  dsimp only
  rw [this]; rfl
 ·show ((abc s).1.g (s.1.n - 1 - t)).2.1.g i=_
  rw [abq ht]; rfl
 ·unfold Go.Low.dV
  split <;> rfl
theorem afS (ho:Io s=true):Io (abc s)=true:=by
 obtain ⟨h1,h2,h3,h4,h5,h6⟩:=aGE ho
 have hs:=qP ho
 have hn:=ack (s:=s)
 refine aTL (fun t ht=>?_) (by rw [hn]; exact h2) h3 h4 h6 h5
 rw [hn] at ht
 have hm:∀ u,u < s.1.n->mT (abc s) u=200 - mT s (s.1.n - 1 - u):=fun u hu=>by
  show ((abc s).1.g u).1=_
  rw [acm hu]
 have h0:∀ u,u < s.1.n->0<=mT s u/\mT s u<=200:=fun u hu=>hs.Xp u hu
 have aNk:∀ u,u + 1 < s.1.n->mT s u < mT s (u + 1):=fun u hu=>hs.tm u hu
 obtain ⟨_,_,c,d⟩:=h1 (s.1.n - 1 - t) (by omega)
 rw [hm t ht,acm ht]
 have q:=h0 (s.1.n - 1 - t) (by omega)
 refine ⟨?_,by omega,c,d⟩
 cases t with
 | zero=>show (-1:Int) < _; omega
 | succ u =>
  show mT (abc s) u < _
  rw [hm u (by omega)]
  have:=aNk (s.1.n - 1 - (u + 1)) (by omega)
  have e:s.1.n - 1 - (u + 1) + 1=s.1.n - 1 - u:=by omega
  rw [e] at this
  omega
theorem apW {c c' n n':Nat} (h1:c=0↔c'=0) (h2:c=n↔c'=n'):wd c n=wd c' n':=by
 unfold wd
 have e1:decide (((c:Nat):Int)=(0:Int))=decide (((c':Nat):Int)=(0:Int)):=by
  rw [decide_eq_decide]; omega
 have e2:decide (((c:Nat):Int)=((n:Nat):Int))=decide (((c':Nat):Int)=((n':Nat):Int)):=by
  rw [decide_eq_decide]; omega
 rw [e1,e2]
theorem ab0 {q q':LL->Bool} {l l':List LL} (h1:∀ L∈l,∃ L'∈l',q' L'=q L) (h2:∀ L'∈l',∃ L∈l,q L=q' L'):(l.countP q=0↔l'.countP q'=0)/\(l.countP q=l.length↔l'.countP q'=l'.length):=by
 have A:∀ {q q':LL->Bool} {l l':List LL},(∀ L'∈l',∃ L∈l,q L=q' L')->(l.countP q=0->l'.countP q'=0)/\(l.countP q=l.length->l'.countP q'=l'.length):=by
  intro q q' l l' h
  constructor
  ·intro h0
   rw [List.countP_eq_zero] at h0 ⊢
   intro L' hL'
   obtain ⟨L,hL,e⟩:=h L' hL'
   rw [<- e]; exact h0 L hL
  ·intro h0
   rw [List.countP_eq_length] at h0 ⊢
   intro L' hL'
   obtain ⟨L,hL,e⟩:=h L' hL'
   rw [<- e]; exact h0 L hL
 exact ⟨⟨(A h2).1,(A h1).1⟩,⟨(A h2).2,(A h1).2⟩⟩
section
variable {x:tS.den} (R:Rev (cB s) (cB x)) (hs:(cB s).Ok) (hx:(cB x).Ok)
include R hs hx
theorem abn {L:LL} (h:L∈links (cB s)):rev (cB s) L∈links (cB x):=(tX hx).2 (R.links hs ((tX hs).1 h))
theorem acn:Dg s=Dg x:=by
 rw [Bool.eq_iff_iff,Ki,Ki]
 exact ⟨fun ⟨L,h⟩=>⟨_,abn R hs hx h⟩,fun ⟨L,h⟩=>⟨_,abn R.symm hx hs h⟩⟩
theorem aiY {t i j:Nat} (ht:t + 1 < s.1.n) (hi:i < (s.1.g (t + 1)).2.1.n) (hj:j < (s.1.g t).2.1.n):wd (cS s (t + 1) i (j:Int)) (nL s)=wd (cS x (s.1.n - 1 - t) j (i:Int)) (nL x):=by
 have hN:s.1.n=x.1.n:=R.N
 have hk1:=R.k (t + 1) ht
 have Ml:=R.k t (show t < s.1.n by omega)
 have e1:s.1.n - 1 - (t + 1) + 1=s.1.n - 1 - t:=by omega
 have e2:x.1.n - 1 - (s.1.n - 1 - (t + 1))=t + 1:=by omega
 have h:=ab0 (l:=links (cB s)) (l':=links (cB x)) (q:=fun L=>decide (qR L (t + 1) i=(j:Int))) (q':=fun L=>decide (qR L (s.1.n - 1 - t) j=(i:Int))) (fun L hL=>⟨_,abn R hs hx hL,by
  have h1:=abx (s:=cB s) (L:=L) (t:=t) (j:=j) ht hj
  have h2:=abj (j:=j) ((tX hs).1 hL) ht hi
  have h1:qR (rev (cB s) L) (s.1.n - 1 - t) j=nxI (cB s) L t j:=h1
  rw [h1,decide_eq_decide]; exact h2⟩) (fun L hL=>⟨_,abn R.symm hx hs hL,by
  have avb:i < (cB x).k (s.1.n - 1 - (t + 1)):=by
   have:(cB x).k (s.1.n - 1 - (t + 1))=(s.1.g (t + 1)).2.1.n:=hk1
   omega
  have aNl:j < (cB x).k (s.1.n - 1 - (t + 1) + 1):=by
   rw [e1]
   have:(cB x).k (s.1.n - 1 - t)=(s.1.g t).2.1.n:=Ml
   omega
  have hlt:s.1.n - 1 - (t + 1) + 1 < (cB x).N:=by show _ < x.1.n; omega
  have h1:=abx (s:=cB x) (L:=L) (t:=s.1.n - 1 - (t + 1)) (j:=i) hlt avb
  have h2:=abj (j:=i) ((tX hx).1 hL) hlt aNl
  have h1:qR (rev (cB x) L) (x.1.n - 1 - (s.1.n - 1 - (t + 1))) i=nxI (cB x) L (s.1.n - 1 - (t + 1)) i:=h1
  rw [e2] at h1
  rw [e1] at h2
  rw [h1,decide_eq_decide]; exact h2⟩)
 exact apW h.1 h.2
theorem ab1 {t i:Nat} (ht:t + 1 < s.1.n) (hi:i < (s.1.g (t + 1)).2.1.n):wd (cS s (t + 1) i (-1)) (nL s)=wd (cE x (s.1.n - 1 - (t + 1)) i) (nL x):=by
 have hN:s.1.n=x.1.n:=R.N
 have hk1:=R.k (t + 1) ht
 have Ml:=R.k t (show t < s.1.n by omega)
 have e1:s.1.n - 1 - (t + 1) + 1=s.1.n - 1 - t:=by omega
 have e2:x.1.n - 1 - (s.1.n - 1 - (t + 1))=t + 1:=by omega
 have h:=ab0 (l:=links (cB s)) (l':=links (cB x)) (q:=fun L=>decide (qR L (t + 1) i = -1)) (q':=fun L=>!has (L.getD (s.1.n - 1 - (t + 1) + 1) []) (i:Int)) (fun L hL=>⟨_,abn R hs hx hL,by
  have hI:=(tX hs).1 hL
  have h1:=abm (s:=cB s) (L:=L) (t:=t) ht
  have h1:(rev (cB s) L).getD (s.1.n - 1 - t) []=(List.range ((cB s).k t)).map (nxI (cB s) L t):=h1
  rw [e1,h1]
  have h2:=hI.afg ht hi
  rw [Bool.eq_iff_iff,Bool.not_eq_true',decide_eq_true_eq]
  constructor
  ·intro hh
   rcases h2 with h2 | ⟨h2,h3,_⟩
   ·exact h2
   ·have hv:nxI (cB s) L t (qR L (t + 1) i).toNat=(i:Int):=(abj hI ht hi).2 (by omega)
    have:has ((List.range ((cB s).k t)).map (nxI (cB s) L t)) (i:Int)=true:=zN.2 ⟨(qR L (t + 1) i).toNat,by rw [List.getElem?_map,List.getElem?_range h3]; exact congrArg some hv⟩
    rw [hh] at this; cases this
  ·intro hh
   cases hb:has ((List.range ((cB s).k t)).map (nxI (cB s) L t)) (i:Int) with
   | false=>rfl
   | true =>
    obtain ⟨j,hj⟩:=zN.1 hb
    rw [List.getElem?_map] at hj
    cases hr:(List.range ((cB s).k t))[j]? with
    | none=>rw [hr] at hj; cases hj
    | some j' =>
     rw [hr] at hj
     have:=(abj hI ht hi).1 (Option.some.inj hj)
     omega⟩) (fun L hL=>⟨_,abn R.symm hx hs hL,by
  have avb:i < (cB x).k (s.1.n - 1 - (t + 1)):=by
   have:(cB x).k (s.1.n - 1 - (t + 1))=(s.1.g (t + 1)).2.1.n:=hk1
   omega
  have hlt:s.1.n - 1 - (t + 1) + 1 < (cB x).N:=by show _ < x.1.n; omega
  have h1:=abx (s:=cB x) (L:=L) (t:=s.1.n - 1 - (t + 1)) (j:=i) hlt avb
  have h2:=ae9 (j:=i) ((tX hx).1 hL) hlt
  have h1:qR (rev (cB x) L) (x.1.n - 1 - (s.1.n - 1 - (t + 1))) i=nxI (cB x) L (s.1.n - 1 - (t + 1)) i:=h1
  rw [e2] at h1
  rw [h1,Bool.eq_iff_iff,Bool.not_eq_true',decide_eq_true_eq]
  exact h2⟩)
 exact apW h.1 h.2
end
theorem abU {C C':Nat} {w w':Nat->Int} (hC:C=C') (h:∀ j,j < C->w j=w' j):RH C w=RH C' w':=by
 subst hC
 exact aoX fun j hj=>by rw [h j hj]
theorem ao0 {x:tS.den} (R:Rev (cB s) (cB x)) (hd:zn x=zn s) (v:Int):Rev (cB (spS s v)) (cB (spS x v)):=
 ⟨R.N,R.k,R.tm,R.box,fun a=>by
  unfold Go.Low.dV
  split
  ·rfl
  ·rfl
  ·exact hd,R.born,R.gone⟩
end Go.Dm

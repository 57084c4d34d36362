/- LowSharp. -/
import Derived.Test.YtadkaccpacpklaaL10LP29
import Derived.Test.YtadkaccpacpklaaL10LP31
import Derived.Test.YtadkaccpacpklaaL10LM12
set_option linter.unusedVariables false
set_option linter.unusedSimpArgs false
namespace Go.Dm
set_option maxRecDepth 100000
open Go.Low
variable {s:tS.den}
def agV (s:tS.den) (t i:Nat) (b:B6):tS.den:=(⟨s.1.n,fun u=>bif Nat.beq u t then ((s.1.g u).1,(⟨(s.1.g u).2.1.n,fun j=>bif Nat.beq j i then b else (s.1.g u).2.1.g j⟩,())) else s.1.g u⟩,s.2)
theorem aoj (ho:Io s=true) {t i:Nat} (ht:t < s.1.n) (hi:i < (s.1.g t).2.1.n) (b:B6):M49 (no_index (s,((t:Int),((i:Int),(b,())))))=some (agV s t i b,()):=by
 have hs:=qP ho
 have h4:=eF hs
 have h3:=dN hs ht
 have e:azv (s,((t:Int),((i:Int),(b,()))))=true:=by
  show (decide ((0:Int)<=(t:Int)/\(t:Int) < ((s.1.n:Nat):Int)) && (decide (s.1.n<=4) && (decide ((0:Int)<=(i:Int)/\(i:Int) < (((s.1.g t).2.1.n:Nat):Int)) && decide ((s.1.g t).2.1.n<=3))))=true
  simp only [Bool.and_eq_true,decide_eq_true_eq]
  omega
 unfold M49
 exact (aq e).trans rfl
theorem azC (t i:Nat) (b:B6) (u:Nat):((agV s t i b).1.g u).1=(s.1.g u).1/\((agV s t i b).1.g u).2.1.n=(s.1.g u).2.1.n/\∀ j,((agV s t i b).1.g u).2.1.g j=if u=t/\j=i then b else (s.1.g u).2.1.g j:=by
 show ((bif Nat.beq u t then _ else s.1.g u):Tc.den).1=_/\((bif Nat.beq u t then _ else s.1.g u):Tc.den).2.1.n=_/\∀ j,((bif Nat.beq u t then _ else s.1.g u):Tc.den).2.1.g j=_
 by_cases h:u=t
 ·subst h
  rw [Nat.beq_refl]
  refine ⟨rfl,rfl,fun j=>?_⟩
  show (bif Nat.beq j i then b else (s.1.g u).2.1.g j)=_
  by_cases hj:j=i
  ·subst hj; rw [Nat.beq_refl,if_pos ⟨rfl,rfl⟩]; rfl
  ·rw [bC hj,if_neg fun q=>hj q.2]; rfl
 ·rw [bC h]
  exact ⟨rfl,rfl,fun j=>by rw [if_neg fun q=>h q.1]; rfl⟩
theorem aIa (t i:Nat) (b:B6):cB (agV s t i b)=an4 (cB s) t i b:=by
 have h:=azC (s:=s) t i b
 unfold cB an4 mT
 congr 1
 ·exact funext fun u=>(h u).1
 ·exact funext fun u=>(h u).2.1
 ·exact funext fun u=>funext fun j=>(h u).2.2 j
theorem aEo {b:B6} (hb:Is b=true) {a:Nat} (ha:a < 3) {x y:Int} (h1:lo b a<=x) (h2:x<=y) (h3:y<=Low.hi b a):Is (an9 b a x y)=true:=by
 obtain ⟨b1,b2,b3,b4,b5,b6,⟨⟩⟩:=b
 have hb:(OD b1 b2 100 && (OD b3 b4 100 && OD b5 b6 99999))=true:=hb
 unfold OD at hb
 simp only [Bool.and_eq_true,decide_eq_true_eq] at hb
 obtain rfl | rfl | rfl:a=0\/a=1\/a=2:=by omega
 ·have h1:b1<=x:=h1
  have h3:y<=b2:=h3
  show (OD x y 100 && (OD b3 b4 100 && OD b5 b6 99999))=true
  unfold OD
  simp only [Bool.and_eq_true,decide_eq_true_eq]
  omega
 ·have h1:b3<=x:=h1
  have h3:y<=b4:=h3
  show (OD b1 b2 100 && (OD x y 100 && OD b5 b6 99999))=true
  unfold OD
  simp only [Bool.and_eq_true,decide_eq_true_eq]
  omega
 ·have h1:b5<=x:=h1
  have h3:y<=b6:=h3
  show (OD b1 b2 100 && (OD b3 b4 100 && OD x y 99999))=true
  unfold OD
  simp only [Bool.and_eq_true,decide_eq_true_eq]
  omega
theorem aNp (ho:Io s=true) {t i:Nat} (ht:t < s.1.n) (hi:i < (s.1.g t).2.1.n) {b:B6} (hb:Is b=true):Io (agV s t i b)=true:=by
 obtain ⟨h1,h2,h3,h4,h5,h6⟩:=aGE ho
 have hm:=azC (s:=s) t i b
 refine aTL (fun u hu=>?_) h2 h3 h4 h5 h6
 obtain ⟨q1,q2,q3,q4⟩:=h1 u hu
 have e1:mT (agV s t i b) u=mT s u:=(hm u).1
 have e2:jI (agV s t i b) u=jI s u:=by cases u with
  | zero=>rfl
  | succ u=>exact (hm u).1
 rw [e1,e2,(hm u).2.1]
 refine ⟨q1,q2,q3,fun j hj=>?_⟩
 rw [(hm u).2.2 j]
 by_cases h:u=t/\j=i
 ·rw [if_pos h]; exact hb
 ·rw [if_neg h]; exact q4 j hj
theorem aqd (ho:Io s=true) {t i:Nat} (ht:t < s.1.n) (hi:i < (s.1.g t).2.1.n) {a:Nat} (ha:a < 3) {x y:Int} (h1:lo ((s.1.g t).2.1.g i) a<=x) (h2:x<=y) (h3:y<=Low.hi ((s.1.g t).2.1.g i) a) {c:Int}
  (hc:(bif !(links (an4 (cB s) t i (an9 ((s.1.g t).2.1.g i) a x y))).isEmpty then (5:Int) else 0)=c) :
  ∃ v:Int,Yl (no_index (agV s t i (an9 ((s.1.g t).2.1.g i) a x y),()))=some (v,(c,())):=by
 have ho':=aNp ho ht hi (aEo (((aGE ho).1 t ht).2.2.2 i hi) ha h1 h2 h3)
 have hs':=qP ho'
 obtain ⟨v,hv⟩:=aAf ho' (by have:=eF hs'; omega) (fun t ht=>by have:=dN hs' ht; omega)
 refine ⟨v,?_⟩
 rw [<- hc,<- aIa]
 exact hv
theorem apD (ho:Io s=true) (ha:Dg s=true) {t i:Nat} (ht:t < s.1.n) (hi':i < (s.1.g t).2.1.n) {a:Nat} (h3:a < 3) :
  lo ((s.1.g t).2.1.g i) a<=lo (ach (cB s) t i) a/\lo (ach (cB s) t i) a<=Low.hi (ach (cB s) t i) a/\Low.hi (ach (cB s) t i) a<=Low.hi ((s.1.g t).2.1.g i) a:=by
 have hs:=qP ho
 obtain ⟨L,hL⟩:=Ki.1 ha
 have hne:links (cB s)≠[]:=List.ne_nil_of_mem hL
 have h1:=(aAC (s:=cB s) (t:=t) (i:=i) (a:=a) hne).1 (Int.le_refl _) L hL
 have h2:=(aAD (s:=cB s) (t:=t) (i:=i) (a:=a) hne).1 (Int.le_refl _) L hL
 have h4:=aTY hs ((tX hs).1 hL) (t:=t) (i:=i) ht hi' a h3
 have h5:=(aAC (s:=cB s) (t:=t) (i:=i) (a:=a) (y:=lo ((s.1.g t).2.1.g i) a) hne).2 fun L _=>aTZ (s:=cB s)
 have h6:=(aAD (s:=cB s) (t:=t) (i:=i) (a:=a) (y:=Low.hi ((s.1.g t).2.1.g i) a) hne).2 fun L _=>aT0 (s:=cB s)
 omega
structure Ends (s:tS.den) (t i a:Nat) (l h:Int):Prop where
 e0:∃ v:Int,Yl (no_index (agV s t i (an9 ((s.1.g t).2.1.g i) a l l),()))=some (v,((5:Int),()))
 e1:∃ v:Int,Yl (no_index (agV s t i (an9 ((s.1.g t).2.1.g i) a h h),()))=some (v,((5:Int),()))
 e2:lo ((s.1.g t).2.1.g i) a<=l - 1->∃ v:Int,Yl (no_index (agV s t i (an9 ((s.1.g t).2.1.g i) a (lo ((s.1.g t).2.1.g i) a) (l - 1)),()))=some (v,((0:Int),()))
 e3:h + 1<=Low.hi ((s.1.g t).2.1.g i) a->∃ v:Int,Yl (no_index (agV s t i (an9 ((s.1.g t).2.1.g i) a (h + 1) (Low.hi ((s.1.g t).2.1.g i) a)),()))=some (v,((0:Int),()))
theorem auh (ho:Io s=true) (ha:Dg s=true) {t i:Nat} (ht:t < s.1.n) (hi':i < (s.1.g t).2.1.n) {a:Nat} (h3:a < 3):Ends s t i a (lo (ach (cB s) t i) a) (Low.hi (ach (cB s) t i) a):=by
 have hs:=qP ho
 obtain ⟨w1,w2,w3⟩:=apD ho ha ht hi' h3
 have hne:links (cB s)≠[]:=by
  obtain ⟨L,hL⟩:=Ki.1 ha
  exact List.ne_nil_of_mem hL
 have yes:∀ x,(x=lo (ach (cB s) t i) a\/x=Low.hi (ach (cB s) t i) a)->(bif !(links (an4 (cB s) t i (an9 ((s.1.g t).2.1.g i) a x x))).isEmpty then (5:Int) else 0)=5:=fun x hx=>by
  have h:=ax2 hs hne (t:=t) (i:=i) ht hi' h3 hx
  have h:links (an4 (cB s) t i (an9 ((s.1.g t).2.1.g i) a x x))≠[]:=h
  cases hl:links (an4 (cB s) t i (an9 ((s.1.g t).2.1.g i) a x x)) with
  | nil=>exact absurd hl h
  | cons _ _=>rfl
 have no:∀ x y,lo ((s.1.g t).2.1.g i) a<=x->x<=y->y<=Low.hi ((s.1.g t).2.1.g i) a->(y < lo (ach (cB s) t i) a\/Low.hi (ach (cB s) t i) a < x) ->
   (bif !(links (an4 (cB s) t i (an9 ((s.1.g t).2.1.g i) a x y))).isEmpty then (5:Int) else 0)=0:=fun x y q1 q2 q3 q4=>by
  have hb:=fun c hc=>hs.box t i ht hi' c hc
  have h:=azz hs (t:=t) (i:=i) ht hi' (b:=an9 ((s.1.g t).2.1.g i) a x y) (a:=a) (fun c hc=>by
   rw [at7 h3 hc,at9 h3 hc]
   have hb:=hb c hc
   by_cases e:c=a
   ·subst e; rw [if_pos rfl,if_pos rfl]; exact ⟨q1,q2,q3⟩
   ·rw [if_neg e,if_neg e]; exact ⟨Int.le_refl _,hb.2.1,Int.le_refl _⟩) h3 (by
   rw [at7 h3 h3,at9 h3 h3,if_pos rfl,if_pos rfl]; exact q4)
  rw [h]; rfl
 exact ⟨aqd ho ht hi' h3 w1 (Int.le_refl _) (by omega) (yes _ (.inl rfl)),aqd ho ht hi' h3 (by omega) (Int.le_refl _) w3 (yes _ (.inr rfl)),
  fun h=>aqd ho ht hi' h3 (Int.le_refl _) h (by omega) (no _ _ (Int.le_refl _) h (by omega) (by omega)),fun h=>aqd ho ht hi' h3 (by omega) h (Int.le_refl _) (no _ _ (by omega) h (Int.le_refl _) (by omega))⟩
theorem aIr {j:Nat} (hj:j < 4):W ((j:Int) + 1)=((j + 1:Nat):Int):=dR hj (by omega)
theorem aYL (ho:Io s=true) {t i:Nat} (ht:t < s.1.n) (hi:i < (s.1.g t).2.1.n) {l h:Int} (he:Ends s t i 0 l h) {j:Nat} (hj:j < 4) :
  an5 ((t:Int),((i:Int),((0:Int),((),((),((),(s,(((s.1.g t).2.1.g i),((l,(l,(h,(h,(((s.1.g t).2.1.g i).1,(l - 1,(h + 1,(((s.1.g t).2.1.g i).2.1,())))))))),()))))))))) ((j:Int),()) = .next (((j + 1:Nat):Int),()):=by
 obtain ⟨⟨v0,e0⟩,⟨v1,e1⟩,e2,e3⟩:=he
 have nx:=aIr hj
 obtain rfl | rfl | rfl | rfl:j=0\/j=1\/j=2\/j=3:=by omega
 ·unfold an5 aoe
  refine (aq rfl).trans ((aq rfl).trans ((aq rfl).trans ((aq rfl).trans ((aq rfl).trans ((aR (decide_eq_false (show ¬ (l < l) by omega))).trans ((aq rfl).trans ((aq rfl).trans ((aq rfl).trans ?_))))))))
  refine (aK (aoj ho ht hi (an9 ((s.1.g t).2.1.g i) 0 l l))).trans ?_
  exact (aK e0).trans (congrArg (fun q:Int=>(RQ.next (show (aa ajB).den from (q,())):RQ ajB amO)) nx)
 ·unfold an5 aoe
  refine (aq rfl).trans ((aq rfl).trans ((aq rfl).trans ((aq rfl).trans ((aq rfl).trans ((aR (decide_eq_false (show ¬ (h < h) by omega))).trans ((aq rfl).trans ((aq rfl).trans ((aq rfl).trans ?_))))))))
  refine (aK (aoj ho ht hi (an9 ((s.1.g t).2.1.g i) 0 h h))).trans ?_
  exact (aK e1).trans (congrArg (fun q:Int=>(RQ.next (show (aa ajB).den from (q,())):RQ ajB amO)) nx)
 ·unfold an5 aoe
  by_cases hc:lo ((s.1.g t).2.1.g i) 0<=l - 1
  ·obtain ⟨v2,e2⟩:=e2 hc
   refine (aq rfl).trans ((aq rfl).trans ((aq rfl).trans ((aq rfl).trans ((aq rfl).trans ((aR (decide_eq_false (show ¬ (l - 1 < lo ((s.1.g t).2.1.g i) 0) by omega))).trans ((aq rfl).trans ((aq rfl).trans ((aq rfl).trans ?_))))))))
   refine (aK (aoj ho ht hi (an9 ((s.1.g t).2.1.g i) 0 (lo ((s.1.g t).2.1.g i) 0) (l - 1)))).trans ?_
   exact (aK e2).trans (congrArg (fun q:Int=>(RQ.next (show (aa ajB).den from (q,())):RQ ajB amO)) nx)
  ·refine (aq rfl).trans ((aq rfl).trans ((aq rfl).trans ((aq rfl).trans ((aq rfl).trans ((aq (decide_eq_true (show l - 1 < lo ((s.1.g t).2.1.g i) 0 by omega))).trans ?_)))))
   exact congrArg (fun q:Int=>(RQ.next (show (aa ajB).den from (q,())):RQ ajB amO)) nx
 ·unfold an5 aoe
  by_cases hc:h + 1<=Low.hi ((s.1.g t).2.1.g i) 0
  ·obtain ⟨v3,e3⟩:=e3 hc
   refine (aq rfl).trans ((aq rfl).trans ((aq rfl).trans ((aq rfl).trans ((aq rfl).trans ((aR (decide_eq_false (show ¬ (Low.hi ((s.1.g t).2.1.g i) 0 < h + 1) by omega))).trans ((aq rfl).trans ((aq rfl).trans ((aq rfl).trans ?_))))))))
   refine (aK (aoj ho ht hi (an9 ((s.1.g t).2.1.g i) 0 (h + 1) (Low.hi ((s.1.g t).2.1.g i) 0)))).trans ?_
   exact (aK e3).trans (congrArg (fun q:Int=>(RQ.next (show (aa ajB).den from (q,())):RQ ajB amO)) nx)
  ·refine (aq rfl).trans ((aq rfl).trans ((aq rfl).trans ((aq rfl).trans ((aq rfl).trans ((aq (decide_eq_true (show Low.hi ((s.1.g t).2.1.g i) 0 < h + 1 by omega))).trans ?_)))))
   exact congrArg (fun q:Int=>(RQ.next (show (aa ajB).den from (q,())):RQ ajB amO)) nx
theorem aYM (ho:Io s=true) {t i:Nat} (ht:t < s.1.n) (hi:i < (s.1.g t).2.1.n) {l h:Int} (he:Ends s t i 1 l h) {j:Nat} (hj:j < 4) :
  an5 ((t:Int),((i:Int),((1:Int),((),((),((),(s,(((s.1.g t).2.1.g i),((l,(l,(h,(h,(((s.1.g t).2.1.g i).2.2.1,(l - 1,(h + 1,(((s.1.g t).2.1.g i).2.2.2.1,())))))))),()))))))))) ((j:Int),()) = .next (((j + 1:Nat):Int),()):=by
 obtain ⟨⟨v0,e0⟩,⟨v1,e1⟩,e2,e3⟩:=he
 have nx:=aIr hj
 obtain rfl | rfl | rfl | rfl:j=0\/j=1\/j=2\/j=3:=by omega
 ·unfold an5 aoe
  refine (aq rfl).trans ((aq rfl).trans ((aq rfl).trans ((aq rfl).trans ((aq rfl).trans ((aR (decide_eq_false (show ¬ (l < l) by omega))).trans ((aR rfl).trans ((aq rfl).trans ((aq rfl).trans ((aq rfl).trans ?_)))))))))
  refine (aK (aoj ho ht hi (an9 ((s.1.g t).2.1.g i) 1 l l))).trans ?_
  exact (aK e0).trans (congrArg (fun q:Int=>(RQ.next (show (aa ajB).den from (q,())):RQ ajB amO)) nx)
 ·unfold an5 aoe
  refine (aq rfl).trans ((aq rfl).trans ((aq rfl).trans ((aq rfl).trans ((aq rfl).trans ((aR (decide_eq_false (show ¬ (h < h) by omega))).trans ((aR rfl).trans ((aq rfl).trans ((aq rfl).trans ((aq rfl).trans ?_)))))))))
  refine (aK (aoj ho ht hi (an9 ((s.1.g t).2.1.g i) 1 h h))).trans ?_
  exact (aK e1).trans (congrArg (fun q:Int=>(RQ.next (show (aa ajB).den from (q,())):RQ ajB amO)) nx)
 ·unfold an5 aoe
  by_cases hc:lo ((s.1.g t).2.1.g i) 1<=l - 1
  ·obtain ⟨v2,e2⟩:=e2 hc
   refine (aq rfl).trans ((aq rfl).trans ((aq rfl).trans ((aq rfl).trans ((aq rfl).trans ((aR (decide_eq_false (show ¬ (l - 1 < lo ((s.1.g t).2.1.g i) 1) by omega))).trans ((aR rfl).trans ((aq rfl).trans ((aq rfl).trans ((aq rfl).trans ?_)))))))))
   refine (aK (aoj ho ht hi (an9 ((s.1.g t).2.1.g i) 1 (lo ((s.1.g t).2.1.g i) 1) (l - 1)))).trans ?_
   exact (aK e2).trans (congrArg (fun q:Int=>(RQ.next (show (aa ajB).den from (q,())):RQ ajB amO)) nx)
  ·refine (aq rfl).trans ((aq rfl).trans ((aq rfl).trans ((aq rfl).trans ((aq rfl).trans ((aq (decide_eq_true (show l - 1 < lo ((s.1.g t).2.1.g i) 1 by omega))).trans ?_)))))
   exact congrArg (fun q:Int=>(RQ.next (show (aa ajB).den from (q,())):RQ ajB amO)) nx
 ·unfold an5 aoe
  by_cases hc:h + 1<=Low.hi ((s.1.g t).2.1.g i) 1
  ·obtain ⟨v3,e3⟩:=e3 hc
   refine (aq rfl).trans ((aq rfl).trans ((aq rfl).trans ((aq rfl).trans ((aq rfl).trans ((aR (decide_eq_false (show ¬ (Low.hi ((s.1.g t).2.1.g i) 1 < h + 1) by omega))).trans ((aR rfl).trans ((aq rfl).trans ((aq rfl).trans ((aq rfl).trans ?_)))))))))
   refine (aK (aoj ho ht hi (an9 ((s.1.g t).2.1.g i) 1 (h + 1) (Low.hi ((s.1.g t).2.1.g i) 1)))).trans ?_
   exact (aK e3).trans (congrArg (fun q:Int=>(RQ.next (show (aa ajB).den from (q,())):RQ ajB amO)) nx)
  ·refine (aq rfl).trans ((aq rfl).trans ((aq rfl).trans ((aq rfl).trans ((aq rfl).trans ((aq (decide_eq_true (show Low.hi ((s.1.g t).2.1.g i) 1 < h + 1 by omega))).trans ?_)))))
   exact congrArg (fun q:Int=>(RQ.next (show (aa ajB).den from (q,())):RQ ajB amO)) nx
theorem aYO (ho:Io s=true) {t i:Nat} (ht:t < s.1.n) (hi:i < (s.1.g t).2.1.n) {l h:Int} (he:Ends s t i 2 l h) {j:Nat} (hj:j < 4) :
  an5 ((t:Int),((i:Int),((2:Int),((),((),((),(s,(((s.1.g t).2.1.g i),((l,(l,(h,(h,(((s.1.g t).2.1.g i).2.2.2.2.1,(l - 1,(h + 1,(((s.1.g t).2.1.g i).2.2.2.2.2.1,())))))))),()))))))))) ((j:Int),()) = .next (((j + 1:Nat):Int),()):=by
 obtain ⟨⟨v0,e0⟩,⟨v1,e1⟩,e2,e3⟩:=he
 have nx:=aIr hj
 obtain rfl | rfl | rfl | rfl:j=0\/j=1\/j=2\/j=3:=by omega
 ·unfold an5 aoe
  refine (aq rfl).trans ((aq rfl).trans ((aq rfl).trans ((aq rfl).trans ((aq rfl).trans ((aR (decide_eq_false (show ¬ (l < l) by omega))).trans ((aR rfl).trans ((aR rfl).trans ((aq rfl).trans ((aq rfl).trans ?_)))))))))
  refine (aK (aoj ho ht hi (an9 ((s.1.g t).2.1.g i) 2 l l))).trans ?_
  exact (aK e0).trans (congrArg (fun q:Int=>(RQ.next (show (aa ajB).den from (q,())):RQ ajB amO)) nx)
 ·unfold an5 aoe
  refine (aq rfl).trans ((aq rfl).trans ((aq rfl).trans ((aq rfl).trans ((aq rfl).trans ((aR (decide_eq_false (show ¬ (h < h) by omega))).trans ((aR rfl).trans ((aR rfl).trans ((aq rfl).trans ((aq rfl).trans ?_)))))))))
  refine (aK (aoj ho ht hi (an9 ((s.1.g t).2.1.g i) 2 h h))).trans ?_
  exact (aK e1).trans (congrArg (fun q:Int=>(RQ.next (show (aa ajB).den from (q,())):RQ ajB amO)) nx)
 ·unfold an5 aoe
  by_cases hc:lo ((s.1.g t).2.1.g i) 2<=l - 1
  ·obtain ⟨v2,e2⟩:=e2 hc
   refine (aq rfl).trans ((aq rfl).trans ((aq rfl).trans ((aq rfl).trans ((aq rfl).trans ((aR (decide_eq_false (show ¬ (l - 1 < lo ((s.1.g t).2.1.g i) 2) by omega))).trans ((aR rfl).trans ((aR rfl).trans ((aq rfl).trans ((aq rfl).trans ?_)))))))))
   refine (aK (aoj ho ht hi (an9 ((s.1.g t).2.1.g i) 2 (lo ((s.1.g t).2.1.g i) 2) (l - 1)))).trans ?_
   exact (aK e2).trans (congrArg (fun q:Int=>(RQ.next (show (aa ajB).den from (q,())):RQ ajB amO)) nx)
  ·refine (aq rfl).trans ((aq rfl).trans ((aq rfl).trans ((aq rfl).trans ((aq rfl).trans ((aq (decide_eq_true (show l - 1 < lo ((s.1.g t).2.1.g i) 2 by omega))).trans ?_)))))
   exact congrArg (fun q:Int=>(RQ.next (show (aa ajB).den from (q,())):RQ ajB amO)) nx
 ·unfold an5 aoe
  by_cases hc:h + 1<=Low.hi ((s.1.g t).2.1.g i) 2
  ·obtain ⟨v3,e3⟩:=e3 hc
   refine (aq rfl).trans ((aq rfl).trans ((aq rfl).trans ((aq rfl).trans ((aq rfl).trans ((aR (decide_eq_false (show ¬ (Low.hi ((s.1.g t).2.1.g i) 2 < h + 1) by omega))).trans ((aR rfl).trans ((aR rfl).trans ((aq rfl).trans ((aq rfl).trans ?_)))))))))
   refine (aK (aoj ho ht hi (an9 ((s.1.g t).2.1.g i) 2 (h + 1) (Low.hi ((s.1.g t).2.1.g i) 2)))).trans ?_
   exact (aK e3).trans (congrArg (fun q:Int=>(RQ.next (show (aa ajB).den from (q,())):RQ ajB amO)) nx)
  ·refine (aq rfl).trans ((aq rfl).trans ((aq rfl).trans ((aq rfl).trans ((aq rfl).trans ((aq (decide_eq_true (show Low.hi ((s.1.g t).2.1.g i) 2 < h + 1 by omega))).trans ?_)))))
   exact congrArg (fun q:Int=>(RQ.next (show (aa ajB).den from (q,())):RQ ajB amO)) nx
theorem aum {c:(aa aon).den} (h:∀ j:Nat,j < 4->an5 c ((j:Int),()) = .next (((j + 1:Nat):Int),())):auB c ((0:Int),()) = .exit 0 ():=by
 unfold auB
 refine bQ (ps:=ajB) 4 cz (fun j=>((j:Int),())) (by unfold cz; omega) h ?_
 unfold an5 aoe
 exact aR rfl
theorem ax4 (s:tS.den) (at' one which:Int):M10 (s,(at',(one,(which,()))))=some (true,()):=by
 unfold M10 Q10
 obtain ⟨b,h1,h2⟩:=aau (s:=s)
 refine (aK h1).trans ?_
 cases b with
 | false=>exact (aq rfl).trans (aK eZ)
 | true =>
 refine (aR rfl).trans ?_
 obtain ⟨hn,hk⟩:=h2 rfl
 have hn':s.1.n<=1000:=by omega
 have hk':∀ t,t < s.1.n->(s.1.g t).2.1.n<=1000:=fun t ht=>by have:=hk t ht; omega
 refine (aK (JM hn' hk')).trans ?_
 cases ho:Io s with
 | false=>exact (aq rfl).trans (aK eZ)
 | true =>
 refine (aR rfl).trans ?_
 refine (aK (aWw hn' at' one)).trans ?_
 cases hl:lowB s at' one with
 | false=>exact (aq rfl).trans (aK eZ)
 | true =>
 refine (aR rfl).trans ?_
 by_cases c1:which < 0
 ·exact (aq (decide_eq_true c1)).trans (aK eZ)
 refine (aR (decide_eq_false c1)).trans ?_
 by_cases c2:2 < which
 ·exact (aq (decide_eq_true c2)).trans (aK eZ)
 refine (aR (decide_eq_false c2)).trans ?_
 obtain ⟨t,i,rfl,rfl,ht,hi⟩:=lowB_ex hn' hk' hl
 have hs:=qP ho
 cases ha:Dg s with
 | false =>
  have e:Jc s (lowB s (t:Int) (i:Int))=7:=by unfold Jc; rw [ho,hl,ha]; rfl
  have h36:=aFD hn' hk' (t:Int) (i:Int) (by rw [e]; omega)
  rw [e] at h36
  exact (aK h36).trans ((aq rfl).trans ((aq rfl).trans (aK eZ)))
 | true =>
 refine (aK (aKu ho ha ht hi)).trans ?_
 refine (aR rfl).trans ?_
 have a1:(0:Int)<=(t:Int)/\(t:Int) < ((s.1.n:Nat):Int):=by omega
 have a2:(0:Int)<=(i:Int)/\(i:Int) < (((s.1.g t).2.1.n:Nat):Int):=by omega
 refine (aq (decide_eq_true a1)).trans ?_
 refine (aq (decide_eq_true a2)).trans ?_
 obtain rfl | rfl | rfl:which=0\/which=1\/which=2:=by omega
 ·have he:=auh ho ha ht hi (a:=0) (by omega)
  have w:=apD ho ha ht hi (a:=0) (by omega)
  have x:=lE hs ht hi 0 (by omega)
  have w1:W (lo (ach (cB s) t i) 0 - 1)=lo (ach (cB s) t i) 0 - 1:=gQ ⟨by omega,by omega⟩
  have w2:W (Low.hi (ach (cB s) t i) 0 + 1)=Low.hi (ach (cB s) t i) 0 + 1:=gQ ⟨by omega,by omega⟩
  refine (aq rfl).trans ((aq rfl).trans ((aq rfl).trans ((aq rfl).trans ?_)))
  refine (aR (decide_eq_false (show ¬ (lo (ach (cB s) t i) 0 < lo ((s.1.g t).2.1.g i) 0) by omega))).trans ?_
  refine (aR (decide_eq_false (show ¬ (Low.hi (ach (cB s) t i) 0 < lo (ach (cB s) t i) 0) by omega))).trans ?_
  refine (aR (decide_eq_false (show ¬ (Low.hi ((s.1.g t).2.1.g i) 0 < Low.hi (ach (cB s) t i) 0) by omega))).trans ?_
  refine (aK (baW _ _)).trans ((aK (baW _ _)).trans ((aK (baW _ _)).trans ((aK (baW _ _)).trans ?_)))
  have hL:=aum fun j hj=>aYL ho ht hi he hj
  rw [<- w1,<- w2] at hL
  exact (bp hL).trans (aK eZ)
 ·have he:=auh ho ha ht hi (a:=1) (by omega)
  have w:=apD ho ha ht hi (a:=1) (by omega)
  have x:=lE hs ht hi 1 (by omega)
  have w1:W (lo (ach (cB s) t i) 1 - 1)=lo (ach (cB s) t i) 1 - 1:=gQ ⟨by omega,by omega⟩
  have w2:W (Low.hi (ach (cB s) t i) 1 + 1)=Low.hi (ach (cB s) t i) 1 + 1:=gQ ⟨by omega,by omega⟩
  refine (aq rfl).trans ((aq rfl).trans ((aq rfl).trans ((aq rfl).trans ?_)))
  refine (aR (decide_eq_false (show ¬ (lo (ach (cB s) t i) 1 < lo ((s.1.g t).2.1.g i) 1) by omega))).trans ?_
  refine (aR (decide_eq_false (show ¬ (Low.hi (ach (cB s) t i) 1 < lo (ach (cB s) t i) 1) by omega))).trans ?_
  refine (aR (decide_eq_false (show ¬ (Low.hi ((s.1.g t).2.1.g i) 1 < Low.hi (ach (cB s) t i) 1) by omega))).trans ?_
  refine (aK (baW _ _)).trans ((aK (baW _ _)).trans ((aK (baW _ _)).trans ((aK (baW _ _)).trans ?_)))
  have hL:=aum fun j hj=>aYM ho ht hi he hj
  rw [<- w1,<- w2] at hL
  exact (bp hL).trans (aK eZ)
 ·have he:=auh ho ha ht hi (a:=2) (by omega)
  have w:=apD ho ha ht hi (a:=2) (by omega)
  have x:=lE hs ht hi 2 (by omega)
  have w1:W (lo (ach (cB s) t i) 2 - 1)=lo (ach (cB s) t i) 2 - 1:=gQ ⟨by omega,by omega⟩
  have w2:W (Low.hi (ach (cB s) t i) 2 + 1)=Low.hi (ach (cB s) t i) 2 + 1:=gQ ⟨by omega,by omega⟩
  refine (aq rfl).trans ((aq rfl).trans ((aq rfl).trans ((aq rfl).trans ?_)))
  refine (aR (decide_eq_false (show ¬ (lo (ach (cB s) t i) 2 < lo ((s.1.g t).2.1.g i) 2) by omega))).trans ?_
  refine (aR (decide_eq_false (show ¬ (Low.hi (ach (cB s) t i) 2 < lo (ach (cB s) t i) 2) by omega))).trans ?_
  refine (aR (decide_eq_false (show ¬ (Low.hi ((s.1.g t).2.1.g i) 2 < Low.hi (ach (cB s) t i) 2) by omega))).trans ?_
  refine (aK (baW _ _)).trans ((aK (baW _ _)).trans ((aK (baW _ _)).trans ((aK (baW _ _)).trans ?_)))
  have hL:=aum fun j hj=>aYO ho ht hi he hj
  rw [<- w1,<- w2] at hL
  exact (bp hL).trans (aK eZ)
theorem bbX (x:(a10).den):M10 x=some (true,()):=by
 obtain ⟨s,at',one,which,⟨⟩⟩:=x
 exact ax4 s at' one which
end Go.Dm

/- Stations, by the reference; and that what agrees leaves an index. -/
import Derived.Test.YtgkaoimndglnoaaGreatL4TP3
set_option linter.unusedVariables false
set_option linter.unusedSimpArgs false
namespace Go.Dm
set_option maxRecDepth 100000
theorem acA (x lo hi:Int):DE (no_index (x,(lo,(hi,()))))=some (iQ x lo hi,()):=by
 unfold DE Q45 iQ
 by_cases h1:lo<=x <;> simp [h1]
theorem acB (l h a b:Int):M18 (no_index ((l,(h,())),(a,(b,()))))=some (Pb l h a b,()):=by
 unfold M18 Q18 Pb
 by_cases h1:a<=l <;> by_cases h2:l<=h <;> simp [h1,h2]
theorem ale (x:Int):M12 (no_index (x,()))=some (iQ x 0 400,()):=by
 unfold M12 Q12
 simp only [acA,bU]
theorem atk (s:ju) (h:(cq s).n<=140737488355328):abG (no_index ((),(s,()))) (no_index ((0:Int),()))=bif (List.range (cq s).n).all (fun j=>ckC ((cq s).g j)) then .exit 0 () else .ret (false,()):=by
 unfold abG
 refine eA (ps:=wQ) (f:=fun j=>((j:Int),())) (ep h) (fun j hj _=>?_) fun _=>?_
 ·unfold abF abE
  refine (cn (decide_eq_true (dW hj))).trans ?_
  refine (cn (decide_eq_true (bO hj))).trans ?_
  refine (cI (ale ((cq s).g j).1)).trans ?_
  unfold ckC
  cases iQ ((cq s).g j).1 0 400 with
  | false=>rfl
  | true =>
  refine (cn (decide_eq_true (bO hj))).trans ?_
  refine (cI (acB ((cq s).g j).2.1 ((cq s).g j).2.2.1 (-2000) 2000)).trans ?_
  rw [ec hj h]
  cases Pb ((cq s).g j).2.1 ((cq s).g j).2.2.1 (-2000) 2000 <;> rfl
 ·unfold abF abE
  exact cR (decide_eq_false (by show ¬ ((((cq s).n:Nat):Int) < (((cq s).n:Nat):Int)); omega))
theorem aUY (s:ju) (h:(cq s).n<=16):M8 (no_index (s,()))=some (stB s,()):=by
 unfold M8 Q8 stB stR
 have e:=atk s (by omega)
 unfold cq at *
 simp only [e,acA,acB,bU]
 cases (List.range s.2.2.2.2.2.2.2.2.1.n).all (fun j=>ckC (s.2.2.2.2.2.2.2.2.1.g j)) with
 | false=>rfl
 | true =>
 cases Pb s.1 s.2.1 0 3000 with
 | false=>rfl
 | true =>
 cases Pb s.2.2.1 s.2.2.2.1 (-3000) 3000 with
 | false=>rfl
 | true =>
 cases iQ s.2.2.2.2.1 0 100 with
 | false=>rfl
 | true =>
 cases iQ s.2.2.2.2.2.1 0 200 with
 | false=>rfl
 | true =>
 cases iQ s.2.2.2.2.2.2.1 (-720) 720 with
 | false=>rfl
 | true =>
 cases iQ s.2.2.2.2.2.2.2.1 0 60 <;> rfl
theorem atl {s:ju} (h:vi s) {i k:Nat} (hi:i < (cq s).n) (hk:k < (cq s).n):OM (no_index (s,((i:Int),((k:Int),()))))=some (iK s i k,()):=by
 have a1:=h.day i hi
 have a2:=h.day k hk
 have a3:=h.idx i hi
 have a4:=h.idx k hk
 obtain ⟨b1,b2,b3⟩:=Se h.KW (HW a1 a2)
 unfold OM ahB
 refine (cn (decide_eq_true (bO hi))).trans ?_
 refine (cn (decide_eq_true (bO hk))).trans ?_
 refine (cI (x:=(AF ((cq s).g i).1 ((cq s).g k).1,())) ?_).trans ?_
 ·unfold Kx ahz AF
  show some (mx (W (((cq s).g i).1 - ((cq s).g k).1)) (W (((cq s).g k).1 - ((cq s).g i).1)),())=_
  rw [eU (n:=((cq s).g i).1 - ((cq s).g k).1) ⟨by omega,by omega⟩,eU (n:=((cq s).g k).1 - ((cq s).g i).1) ⟨by omega,by omega⟩,Pa]
 ·have e1:W (s.2.2.2.2.1 * AF ((cq s).g i).1 ((cq s).g k).1)=KD s ((cq s).g i).1 ((cq s).g k).1:=b3
  show some (decide (W (s.2.2.2.2.1 * AF ((cq s).g i).1 ((cq s).g k).1) < mx (W (((cq s).g i).2.1 - ((cq s).g k).2.2.1)) (W (((cq s).g k).2.1 - ((cq s).g i).2.2.1))),())=_
  rw [e1,eU (n:=((cq s).g i).2.1 - ((cq s).g k).2.2.1) ⟨by omega,by omega⟩,eU (n:=((cq s).g k).2.1 - ((cq s).g i).2.2.1) ⟨by omega,by omega⟩,Pa]
  unfold iK
  have:decide (KD s ((cq s).g i).1 ((cq s).g k).1 < max (((cq s).g i).2.1 - ((cq s).g k).2.2.1) (((cq s).g k).2.1 - ((cq s).g i).2.2.1))=(decide (((cq s).g k).2.2.1 < ((cq s).g i).2.1 - KD s ((cq s).g i).1 ((cq s).g k).1) || decide (((cq s).g i).2.2.1 < ((cq s).g k).2.1 - KD s ((cq s).g i).1 ((cq s).g k).1)):=by
   rw [Bool.eq_iff_iff,Bool.or_eq_true,decide_eq_true_eq,decide_eq_true_eq,decide_eq_true_eq]
   omega
  rw [this]
theorem aUZ {s:ju} (h:vi s):∃ b,M9 (no_index (s,()))=some (b,())/\(b=true->AgB s):=by
  have hn:=h.n
  have inner:∀ i,i < (cq s).n->(sU (no_index ((),((i:Int),(s,())))) (no_index (W ((i:Int) + 1),())) = .exit 2 ()/\∀ k,i < k->k < (cq s).n->iK s i k=false) \/
      ∃ k:Nat,sU (no_index ((),((i:Int),(s,())))) (no_index (W ((i:Int) + 1),())) = .ret ((i:Int),((k:Int),(true,()))):=by
    intro i hi
    rw [ec hi (by omega)]
    have key:=qj (ps:=iJ) (wy:=rT) (N:=dw) (step:=pZ ((),((i:Int),(s,()))))
      (P:=fun j v=>v=(((i + 1 + j:Nat):Int),())/\∀ k,i < k->k < i + 1 + j->iK s i k=false)
      (Q:=fun q=>(q = .exit 2 ()/\∀ k,i < k->k < (cq s).n->iK s i k=false)\/∃ k:Nat,q = .ret ((i:Int),((k:Int),(true,()))))
      ((cq s).n - (i + 1)) (by unfold dw; omega)
      (fun j v hj hp=>by
        obtain ⟨rfl,hp⟩:=hp
        have hk:i + 1 + j < (cq s).n:=by omega
        have st:pZ ((),((i:Int),(s,()))) (((i + 1 + j:Nat):Int),())=bif iK s i (i + 1 + j) then .out (.ret ((i:Int),(((i + 1 + j:Nat):Int),(true,())))) else .next (((i + 1 + (j + 1):Nat):Int),()):=by
          unfold pZ wT
          refine (cn (decide_eq_true (dW hk))).trans ?_
          refine (cI (atl h hi hk)).trans ?_
          rw [ec hk (by omega)]
          cases iK s i (i + 1 + j) <;> rfl
        cases hc:iK s i (i + 1 + j) with
        | true=>rw [hc] at st; exact .inr ⟨_,st,.inr ⟨_,rfl⟩⟩
        | false =>
          rw [hc] at st
          refine .inl ⟨_,st,rfl,fun k h1 h2=>?_⟩
          by_cases e:k=i + 1 + j
          · subst e; exact hc
          · exact hp k h1 (by omega))
      (fun v hp=>by
        obtain ⟨rfl,hp⟩:=hp
        refine ⟨_,?_,.inl ⟨rfl,fun k h1 h2=>hp k h1 (by omega)⟩⟩
        unfold pZ wT
        exact cR (decide_eq_false (by show ¬ (((i + 1 + ((cq s).n - (i + 1)):Nat):Int) < (((cq s).n:Nat):Int)); omega)))
      (((i + 1:Nat):Int),()) ⟨rfl,fun k h1 h2=>by omega⟩
    exact key
  have outer:=qj (ps:=qa) (wy:=CO) (N:=dw) (step:=tA ((),(s,())))
    (P:=fun j v=>v=((j:Int),())/\∀ i k,i < j->i < k->k < (cq s).n->iK s i k=false)
    (Q:=fun q=>(q = .exit 0 ()/\AgB s)\/∃ i k:Int,q = .ret (i,(k,(true,()))))
    (cq s).n (by unfold dw; omega)
    (fun j v hj hp=>by
      obtain ⟨rfl,hp⟩:=hp
      rcases inner j hj with ⟨e,h1⟩ | ⟨k,e⟩
      · have st:tA ((),(s,())) ((j:Int),()) = .next (((j + 1:Nat):Int),()):=by
          unfold tA Eu
          refine (cn (decide_eq_true (dW hj))).trans ?_
          refine (gV e).trans ?_
          rw [ec hj (by omega)]
        refine .inl ⟨_,st,rfl,fun i k a1 a2 a3=>?_⟩
        by_cases e:i=j
        · subst e; exact h1 k a2 a3
        · exact hp i k (by omega) a2 a3
      · have st:tA ((),(s,())) ((j:Int),()) = .out (.ret ((j:Int),((k:Int),(true,())))):=by
          unfold tA Eu
          refine (cn (decide_eq_true (dW hj))).trans ?_
          exact (sV e).trans (xe e)
        exact .inr ⟨_,st,.inr ⟨_,_,rfl⟩⟩)
    (fun v hp=>by
      obtain ⟨rfl,hp⟩:=hp
      refine ⟨_,?_,.inl ⟨rfl,fun i k a1 a2=>hp i k (by omega) a1 a2⟩⟩
      unfold tA Eu
      exact cR (decide_eq_false (by show ¬ ((((cq s).n:Nat):Int) < (((cq s).n:Nat):Int)); omega)))
    ((0:Int),()) ⟨rfl,fun i k a1=>by omega⟩
  have oL:RF ((),(s,())) ((0:Int),())=bB (tA ((),(s,()))) dw ((0:Int),()):=rfl
  rw [<- oL] at outer
  unfold M9 Q9
  rcases outer with ⟨e,ha⟩ | ⟨i,k,e⟩
  · refine ⟨true,(cI (x:=((0:Int),((0:Int),(false,())))) ?_).trans rfl,fun _=>ha⟩
    unfold M46 Q46
    exact gV e
  · refine ⟨false,(cI (x:=(i,(k,(true,())))) ?_).trans rfl,fun h=>by cases h⟩
    unfold M46 Q46
    exact (sV e).trans (xe e)
theorem Pe {s:ju} (h:vi s) (a b:Int):0<=KD s a b:=Int.mul_nonneg h.KW.1 (by unfold AF; omega)
theorem Sf {s:ju} (h:vi s) (a b c:Int):KD s a b<=KD s c a + KD s c b:=by
 unfold KD
 rw [<- Int.mul_add]
 exact Int.mul_le_mul_of_nonneg_left (ah2 a b c) h.KW.1
theorem aCv {s:ju} (h:vi s) (ha:AgB s) (d:Int) {i k:Nat} (hi:i < (cq s).n) (hk:k < (cq s).n):bl s d i<=bh s d k:=by
 have a3:=h.idx i hi
 have a4:=h.idx k hk
 unfold bl bh
 have g1:=Pe h d ((cq s).g i).1
 have g2:=Pe h d ((cq s).g k).1
 by_cases e:i=k
 ·subst e; omega
 ·rcases Nat.lt_or_gt_of_ne e with q | q
  ·have:=ha i k q hk
   unfold iK at this
   rw [Bool.or_eq_false_iff] at this
   have h1:=of_decide_eq_false this.1
   have g3:=Sf h ((cq s).g i).1 ((cq s).g k).1 d
   omega
  ·have:=ha k i q hi
   unfold iK at this
   rw [Bool.or_eq_false_iff] at this
   have h1:=of_decide_eq_false this.2
   have g3:=Sf h ((cq s).g k).1 ((cq s).g i).1 d
   omega
theorem acC {s:ju} {d X:Int} (h0:-2000<=X):∀ {n:Nat},(∀ i,i < n->bl s d i<=X)->Vb s d n<=X
 | 0,_=>h0
 | n + 1,h=>by
  have h1:=acC h0 (n:=n) fun i hi=>h i (by omega)
  have h2:=h n (by omega)
  simp only [Vb]; omega
theorem acD {s:ju} {d X:Int} (h0:X<=2000):∀ {n:Nat},(∀ i,i < n->X<=bh s d i)->X<=Vc s d n
 | 0,_=>h0
 | n + 1,h=>by
  have h1:=acD h0 (n:=n) fun i hi=>h i (by omega)
  have h2:=h n (by omega)
  simp only [Vc]; omega
theorem ah3 {s:ju} (h:vi s) (ha:AgB s) {d:Int} (hd:0<=d/\d<=400):-2000<=(idx s d).1/\(idx s d).1<=(idx s d).2.1/\(idx s d).2.1<=2000:=by
 have hb:=Pd h hd (cq s).n (Nat.le_refl _)
 refine ⟨hb.1,?_,hb.2.2.2⟩
 show Vb s d (cq s).n<=Vc s d (cq s).n
 refine acC hb.2.2.1 fun i hi=>?_
 refine acD ?_ fun k hk=>aCv h ha d hi hk
 have:=h.idx i hi
 have g1:=Pe h d ((cq s).g i).1
 unfold bl
 omega
end Go.Dm

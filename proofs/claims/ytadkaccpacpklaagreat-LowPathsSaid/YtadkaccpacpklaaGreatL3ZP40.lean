/-
 Of the plain law.
-/
import Derived.Test.YtadkaccpacpklaaGreatL3ZP31
set_option linter.unusedVariables false
set_option linter.unusedSimpArgs false
namespace Go.Dm
set_option maxRecDepth 100000
open Go.Low
variable {s:tS.den}
theorem Wt (x:Int):XA (no_index (x,()))=some (false,()):=by
 show some ((!(decide (x=x))),())=_
 rw [decide_eq_true rfl]; rfl
theorem ao8 (x y:Int):M70 (no_index (x,(y,())))=some ((if x < y then -1 else if y < x then 1 else 0),()):=by
 unfold M70 Q70
 refine (aK (Wt x)).trans ?_
 refine (aK (Wt y)).trans ?_
 refine (aR rfl).trans ?_
 refine (aR rfl).trans ?_
 by_cases h1:x < y
 ·rw [if_pos h1]; exact aq (decide_eq_true h1)
 ·rw [if_neg h1]
  refine (aR (decide_eq_false h1)).trans ?_
  by_cases h2:y < x
  ·rw [if_pos h2]; exact aq (decide_eq_true h2)
  ·rw [if_neg h2]; exact aR (decide_eq_false h2)
theorem aic {r:Sl sR.den} {j:Nat} (h:j < r.n):(aV r).drop j=(show Int from (r.g j).1) :: (aV r).drop (j + 1):=by
 have h1:(aV r)[j]? = some (r.g j).1:=by rw [gR,if_pos h]
 have h2:=(List.getElem?_eq_some_iff.1 h1)
 obtain ⟨h3,h4⟩:=h2
 rw [List.drop_eq_getElem_cons h3,h4]
theorem ajy {r:Sl sR.den} {j:Nat} (h:r.n<=j):(aV r).drop j=[]:=List.drop_eq_nil_of_le (by rw [iN]; exact h)
theorem aRL {a b:Sl sR.den} (ha:a.n<=1000) (hb:b.n<=1000):∀ (k j n:Nat),j + k=a.n->k < n->j<=b.n ->
  (∃ v:Int,aH (aAv (a,(b,(a,(((a.n:Nat):Int),()))))) n ((j:Int),())=LQ.ret (wy:=ak6) (show (aa ak6.ret).den from (v,()))/\v=aeA ((aV a).drop j) ((aV b).drop j)) \/
   (aH (aAv (a,(b,(a,(((a.n:Nat):Int),()))))) n ((j:Int),()) = .exit 0 ()/\aeA ((aV a).drop j) ((aV b).drop j)=if a.n < b.n then -1 else 0)
 | 0,j,n,hj,hn,hjb=>by
  obtain ⟨n,rfl⟩:∃ m,n=m + 1:=⟨n - 1,by omega⟩
  obtain rfl:j=a.n:=by omega
  have st:aAv (a,(b,(a,(((a.n:Nat):Int),())))) (((a.n:Nat):Int),()) = .out (.exit 0 ()):=by
   unfold aAv aAu
   exact aR (decide_eq_false (by omega:¬ (((a.n:Nat):Int) < ((a.n:Nat):Int))))
  refine .inr ⟨by simp only [aH,st],?_⟩
  rw [ajy (Nat.le_refl _)]
  by_cases h:a.n < b.n
  ·rw [if_pos h,aic h]; rfl
  ·rw [if_neg h,ajy (by omega)]; rfl
 | k + 1,j,n,hj,hn,hjb=>by
  obtain ⟨n,rfl⟩:∃ m,n=m + 1:=⟨n - 1,by omega⟩
  have hja:j < a.n:=by omega
  rw [aic hja]
  by_cases Sw:b.n<=j
  ·have st:aAv (a,(b,(a,(((a.n:Nat):Int),())))) ((j:Int),()) = .out (LQ.ret (show (aa ak6.ret).den from ((1:Int),()))):=by
    unfold aAv aAu
    refine (aq (decide_eq_true (dW hja))).trans ?_
    refine (aq (decide_eq_true (aQ hja))).trans ?_
    exact aq (decide_eq_true (by omega:((b.n:Nat):Int)<=(j:Int)))
   refine .inl ⟨1,by simp only [aH,st],?_⟩
   rw [ajy Sw]; rfl
  ·have hjb':j < b.n:=by omega
   rw [aic hjb']
   have h70:=ao8 (show Int from (a.g j).1) (show Int from (b.g j).1)
   have st:aAv (a,(b,(a,(((a.n:Nat):Int),())))) ((j:Int),())=bif (!(decide ((if (show Int from (a.g j).1) < (show Int from (b.g j).1) then (-1:Int) else if (show Int from (b.g j).1) < (show Int from (a.g j).1) then 1 else 0)=0))) then .out (LQ.ret (show (aa ak6.ret).den from ((if (show Int from (a.g j).1) < (show Int from (b.g j).1) then (-1:Int) else if (show Int from (b.g j).1) < (show Int from (a.g j).1) then 1 else 0),()))) else .next ((W ((j:Int) + 1)),()):=by
    unfold aAv aAu
    refine (aq (decide_eq_true (dW hja))).trans ?_
    refine (aq (decide_eq_true (aQ hja))).trans ?_
    refine (aR (decide_eq_false (by omega:¬ (((b.n:Nat):Int)<=(j:Int))))).trans ?_
    refine (aq (decide_eq_true (aQ hjb'))).trans ?_
    exact aK h70
   unfold aeA
   by_cases p1:(show Int from (a.g j).1) < (show Int from (b.g j).1)
   ·rw [if_pos p1] at st ⊢
    exact .inl ⟨-1,by simp only [aH,st]; rfl,rfl⟩
   ·rw [if_neg p1] at st ⊢
    by_cases p2:(show Int from (b.g j).1) < (show Int from (a.g j).1)
    ·rw [if_pos p2] at st ⊢
     exact .inl ⟨1,by simp only [aH,st]; rfl,rfl⟩
    ·rw [if_neg p2] at st ⊢
     have ih:=aRL ha hb k (j + 1) n (by omega) (by omega) (by omega)
     have w:=dR hja (by omega)
     have st:aAv (a,(b,(a,(((a.n:Nat):Int),())))) ((j:Int),()) = .next (((j + 1:Nat):Int),()):=by rw [st,w]; rfl
     simp only [aH,st]
     exact ih
theorem aWy {a b:Sl sR.den} (ha:a.n<=1000) (hb:b.n<=1000):M33 (no_index (a,(b,())))=some (aeA (aV a) (aV b),()):=by
 have h:=aRL ha hb a.n 0 cz (by omega) (by unfold cz; omega) (Nat.zero_le _)
 rw [List.drop_zero,List.drop_zero] at h
 unfold M33 Q33
 rcases h with ⟨v,h1,h2⟩ | ⟨h1,h2⟩
 ·rw [<- h2]
  exact (congrArg (fun o=>aF o 0 _ (bS o _ _)) h1).trans rfl
 ·refine (bp h1).trans ?_
  rw [h2]
  by_cases c:a.n < b.n
  ·rw [if_pos c]; exact aq (decide_eq_true (by omega:((a.n:Nat):Int) < ((b.n:Nat):Int)))
  ·rw [if_neg c]; exact aR (decide_eq_false (by omega:¬ (((a.n:Nat):Int) < ((b.n:Nat):Int))))
theorem aWw {a b:Sl sR.den} (ha:a.n<=1000):M35 (no_index (a,(b,())))=some (decide (aV a=aV b),()):=by
 unfold M35 Q35
 by_cases hn:((a.n:Nat):Int)=((b.n:Nat):Int)
 ·refine (aR (show (!decide (((a.n:Nat):Int)=((b.n:Nat):Int)))=false by rw [decide_eq_true hn]; rfl)).trans ?_
  have key:aGB (a,(b,(((a.n:Nat):Int),()))) ((0:Int),())=bif (List.range a.n).all (fun j=>decide ((show Int from (a.g j).1)=(show Int from (b.g j).1))) then .exit 0 () else LQ.ret (wy:=ayu) (show (aa ayu.ret).den from (false,())):=by
   unfold aGB
   refine dX (ps:=apS) (n:=a.n) (f:=fun j=>((j:Int),())) (by unfold cz; omega) (fun j hj _=>?_) (fun _=>?_)
   ·unfold aGu aGt
    refine (aq (decide_eq_true (dW hj))).trans ?_
    refine (aq (decide_eq_true (aQ hj))).trans ?_
    refine (aq (decide_eq_true (aQ (n:=b.n) (by omega)))).trans ?_
    cases hd:decide ((show Int from (a.g j).1)=(show Int from (b.g j).1)) with
    | true =>
     refine (aR (show (!decide ((show Int from (a.g j).1)=(show Int from (b.g j).1)))=false by rw [hd]; rfl)).trans ?_
     exact congrArg (fun q:Int=>(RQ.next (show (aa apS).den from (q,())):RQ apS ayu)) (dR hj (by omega))
    | false=>exact aq (show (!decide ((show Int from (a.g j).1)=(show Int from (b.g j).1)))=true by rw [hd]; rfl)
   ·unfold aGu aGt
    exact aR (decide_eq_false (by omega:¬ (((a.n:Nat):Int) < ((a.n:Nat):Int))))
  have e:(List.range a.n).all (fun j=>decide ((show Int from (a.g j).1)=(show Int from (b.g j).1)))=decide (aV a=aV b):=by
   rw [Bool.eq_iff_iff,decide_eq_true_eq]
   constructor
   ·intro h
    refine List.ext_getElem? fun j=>?_
    rw [gR,gR]
    by_cases hj:j < a.n
    ·rw [if_pos hj,if_pos (by omega)]
     exact congrArg some (of_decide_eq_true (mQ h hj))
    ·rw [if_neg hj,if_neg (by omega)]
   ·intro h
    refine JL fun j hj=>decide_eq_true ?_
    have:(aV a)[j]? = (aV b)[j]? := by rw [h]
    rw [gR,gR,if_pos hj,if_pos (by omega)] at this
    exact Option.some.inj this
  rw [e] at key
  revert key
  cases decide (aV a=aV b) with
  | true=>intro key; exact (bp key).trans rfl
  | false=>intro key; exact (congrArg (fun o=>aF o 0 _ (bS o _ _)) key).trans rfl
 ·refine (aq (show (!decide (((a.n:Nat):Int)=((b.n:Nat):Int)))=true by rw [decide_eq_false hn]; rfl)).trans ?_
  have:¬ (aV a=aV b):=fun e=>hn (by
   have:=congrArg List.length e
   rw [iN,iN] at this
   omega)
  rw [decide_eq_false this]
theorem aRM (hs:(cB s).Ok) {rows:cT} (hL:aW rows∈links (cB s)):∀ (m t i n:Nat) (out:Sl sR.den),t + m + 1=s.1.n->i < (s.1.g t).2.1.n->m + 1 < n->out.n + m<=1000 ->
  ∃ r:Sl sR.den,aH (aAq ((),((vw s rows).1,()))) n ((t:Int),((i:Int),(out,()))) = .exit 0 (r,())/\aV r=aV out ++ acT (cB s) (aW rows) m t i
 | m,t,i,n,out,ht,hi,hn,ho=>by
  obtain ⟨n,rfl⟩:∃ q,n=q + 1 + 1:=⟨n - 2,by omega⟩
  have hr:=aia hs hL
  have WM:=eF hs
  have h8:(out.n + 1) * 8<=140737488355328:=by omega
  have i0:(0:Int)<=(i:Int):=by omega
  have wt:W ((t:Int) + 1)=((t + 1:Nat):Int):=dR (n:=s.1.n) (by omega) (by omega)
  cases m with
  | zero =>
   have st:aAq ((),((vw s rows).1,())) ((t:Int),((i:Int),(out,()))) = .next (((t + 1:Nat):Int),((-1:Int),(snoc out ((i:Int),()),()))):=by
    unfold aAq aAp
    refine (aq (decide_eq_true i0)).trans ?_
    refine (aq (decide_eq_true h8)).trans ?_
    refine (aK (aHa (by omega) (by omega))).trans ?_
    exact congrArg (fun q:Int=>(RQ.next (show (aa aaY).den from (q,((-1:Int),(snoc out ((i:Int),()),())))):RQ aaY atu)) wt
   have st2:aAq ((),((vw s rows).1,())) (((t + 1:Nat):Int),((-1:Int),(snoc out ((i:Int),()),()))) = .out (.exit 0 (snoc out ((i:Int),()),())):=by
    unfold aAq aAp
    exact aR (decide_eq_false (by omega:¬ ((0:Int) ≤ -1)))
   refine ⟨snoc out ((i:Int),()),by simp only [aH,st,st2],?_⟩
   rw [Et]; rfl
  | succ m =>
   have ht1:t + 1 < s.1.n:=by omega
   have hk1:=dN hs ht1
   have h67:=aRI (i:=i) hr.n (by omega) ht1 (by rw [hr.k _ ht1]; omega)
   rw [aPH hs hr ht1] at h67
   have hp:acT (cB s) (aW rows) (m + 1) t i=(i:Int) :: match nx (cB s) (aW rows) t i with | some j=>acT (cB s) (aW rows) m (t + 1) j | none=>[]:=by
    unfold acT
    simp only [des,List.map_cons]
    cases nx (cB s) (aW rows) t i <;> rfl
   rw [hp]
   cases hn':nx (cB s) (aW rows) t i with
   | none =>
    rw [hn'] at h67
    have st:aAq ((),((vw s rows).1,())) ((t:Int),((i:Int),(out,()))) = .next (((t + 1:Nat):Int),((-1:Int),(snoc out ((i:Int),()),()))):=by
     unfold aAq aAp
     refine (aq (decide_eq_true i0)).trans ?_
     refine (aq (decide_eq_true h8)).trans ?_
     refine (aK h67).trans ?_
     exact congrArg (fun q:Int=>(RQ.next (show (aa aaY).den from (q,((-1:Int),(snoc out ((i:Int),()),())))):RQ aaY atu)) wt
    have st2:aAq ((),((vw s rows).1,())) (((t + 1:Nat):Int),((-1:Int),(snoc out ((i:Int),()),()))) = .out (.exit 0 (snoc out ((i:Int),()),())):=by
     unfold aAq aAp
     exact aR (decide_eq_false (by omega:¬ ((0:Int) ≤ -1)))
    refine ⟨snoc out ((i:Int),()),by simp only [aH,st,st2],?_⟩
    rw [Et]
   | some j =>
    rw [hn'] at h67
    have h1:=aqc hn'
    have st:aAq ((),((vw s rows).1,())) ((t:Int),((i:Int),(out,()))) = .next (((t + 1:Nat):Int),((j:Int),(snoc out ((i:Int),()),()))):=by
     unfold aAq aAp
     refine (aq (decide_eq_true i0)).trans ?_
     refine (aq (decide_eq_true h8)).trans ?_
     refine (aK h67).trans ?_
     exact congrArg (fun q:Int=>(RQ.next (show (aa aaY).den from (q,((j:Int),(snoc out ((i:Int),()),())))):RQ aaY atu)) wt
    obtain ⟨r,q1,q2⟩:=aRM hs hL m (t + 1) j (n + 1) (snoc out ((i:Int),())) (by omega) h1.1 (by omega) (by rw [IP]; omega)
    refine ⟨r,?_,?_⟩
    ·refine Eq.trans ?_ q1
     rw [aH,st]
    ·rw [q2,Et,List.append_assoc]; rfl
theorem aKv (hs:(cB s).Ok) {rows:cT} (hL:aW rows∈links (cB s)) {t i:Nat} (ht:t < s.1.n) (hi:i < (s.1.g t).2.1.n):∃ r:Sl sR.den,M31 (no_index ((vw s rows).1,((t:Int),((i:Int),()))))=some (r,())/\aV r=acT (cB s) (aW rows) (s.1.n - 1 - t) t i:=by
 have WM:=eF hs
 obtain ⟨r,h1,h2⟩:=aRM hs hL (s.1.n - 1 - t) t i cz (⟨0,fun i=>((0:Int),())⟩:Sl sR.den) (by omega) hi (by unfold cz; omega) (by show 0 + (s.1.n - 1 - t)<=1000; omega)
 refine ⟨r,?_,h2⟩
 unfold M31 Q31
 exact (bp h1).trans rfl
end Go.Dm
namespace Go.Dm
set_option maxRecDepth 100000
open Go.Low
variable {s:tS.den}
theorem amB {α:Type} {p q:α->Bool}:∀ {l:List α},(∀ x∈l,p x=true->q x=true)->(∃ a∈l,q a=true/\p a=false)->l.countP p < l.countP q
 | [],_,⟨a,ha,_⟩=>by cases ha
 | b :: l,h,⟨a,ha,h1,h2⟩=>by
  rw [List.countP_cons,List.countP_cons]
  have hm:l.countP p<=l.countP q:=List.countP_mono_left fun x hx=>h x (.tail _ hx)
  rcases List.mem_cons.1 ha with e | ha
  ·subst e
   rw [h1,h2]
   simp only [if_true,Bool.false_eq_true,if_false]
   omega
  ·have ih:=amB (l:=l) (fun x hx=>h x (.tail _ hx)) ⟨a,ha,h1,h2⟩
   have hb:=h b (.head _)
   cases hp:p b with
   | false=>simp only [Bool.false_eq_true,if_false]; omega
   | true=>rw [hb hp]; simp only [if_true]; omega
structure Small (X:cT):Prop where
 pos:0 < X.n
 n:X.n<=1000000
 k:∀ i,i < X.n->(X.g i).1.n<=1000
def abI (X:cT) (i:Nat):List Int:=aV (X.g i).1
section
variable {X:cT} (hX:Small X)
include hX
theorem baU {i j:Nat} (hi:i < X.n) (hj:j < X.n):v33 ((X.g i).1,((X.g j).1,()))=(aeA (abI X i) (abI X j),()):=by
 show (M33 ((X.g i).1,((X.g j).1,()))).getD _=_
 rw [aWy (hX.k i hi) (hX.k j hj)]; rfl
theorem baV {i j:Nat} (hi:i < X.n) (hj:j < X.n):p33 ((X.g i).1,((X.g j).1,()))=true:=by
 show (M33 ((X.g i).1,((X.g j).1,()))).isSome=true
 rw [aWy (hX.k i hi) (hX.k j hj)]; rfl
theorem alT {i j:Nat} (hi:i < X.n) (hj:j < X.n):vZ v33 X i j=decide (aeA (abI X i) (abI X j) = -1):=by
 unfold vZ
 rw [baU hX hi hj,decide_eq_decide]
 have:=alS (abI X i) (abI X j)
 show aeA (abI X i) (abI X j) < 0↔_
 omega
theorem atk {i j:Nat} (hi:i < X.n) (hj:j < X.n) (h:llt (abI X i) (abI X j)):rk1 X.n (vZ v33 X) i < rk1 X.n (vZ v33 X) j:=by
 unfold rk1
 refine amB (fun k hk hp=>?_) ⟨i,by simpa using hi,?_,?_⟩
 ·have hk:=List.mem_range.1 hk
  rw [alT hX hk hi,decide_eq_true_eq] at hp
  rw [alT hX hk hj,decide_eq_true_eq]
  exact aip hp h
 ·rw [alT hX hi hj,decide_eq_true_eq]; exact h
 ·rw [alT hX hi hi,decide_eq_false_iff_not]; exact fun h=>ajd h
theorem aLN {i j:Nat} (hi:i < X.n) (hj:j < X.n) (h:abI X i=abI X j):rk1 X.n (vZ v33 X) i=rk1 X.n (vZ v33 X) j:=by
 unfold rk1
 refine List.countP_congr fun k hk=>?_
 have hk:=List.mem_range.1 hk
 rw [alT hX hk hi,alT hX hk hj,h]
theorem awV {i j:Nat} (hi:i < X.n) (hj:j < X.n) (h:rk1 X.n (vZ v33 X) i<=rk1 X.n (vZ v33 X) j):¬ llt (abI X j) (abI X i):=fun q=>by
 have:=atk hX hj hi q
 omega
theorem atW {i j:Nat} (hi:i < X.n) (hj:j < X.n) (h:rk1 X.n (vZ v33 X) i=rk1 X.n (vZ v33 X) j):abI X i=abI X j:=
 asZ (awV hX hj hi (by omega)) (awV hX hi hj (by omega))
theorem aVe {i:Nat} (hi:i < X.n):rk1 X.n (vZ v33 X) i < X.n:=by
 have h:=amB (p:=fun k=>vZ v33 X k i) (q:=fun _=>true) (l:=List.range X.n) (fun _ _ _=>rfl) ⟨i,by simpa using hi,rfl,by rw [alT hX hi hi,decide_eq_false_iff_not]; exact fun h=>ajd h⟩
 rw [List.countP_true,List.length_range] at h
 exact h
theorem az8:∃ i,i < X.n/\rk1 X.n (vZ v33 X) i=0:=by
 have A:∀ r i,i < X.n->rk1 X.n (vZ v33 X) i=r->∃ i,i < X.n/\rk1 X.n (vZ v33 X) i=0:=by
  intro r
  induction r using Nat.strongRecOn with
  | _ r ih =>
   intro i hi hr
   by_cases h0:r=0
   ·exact ⟨i,hi,by omega⟩
   ·have hpos:0 < (List.range X.n).countP fun k=>vZ v33 X k i:=by
     show 0 < rk1 X.n (vZ v33 X) i
     omega
    obtain ⟨k,hk,hlt⟩:=List.countP_pos_iff.1 hpos
    have hk:=List.mem_range.1 hk
    rw [alT hX hk hi,decide_eq_true_eq] at hlt
    have:=atk hX hk hi hlt
    exact ih _ (by omega) k hk rfl
 exact A _ 0 hX.pos rfl
theorem aAa:Jz p33 v33 X=true:=by
 have h1:=hX.pos
 have h2:=hX.n
 unfold Jz
 simp only [Bool.and_eq_true,Nat.blt_eq,List.all_eq_true,List.mem_range]
 refine ⟨⟨⟨h1,by omega⟩,fun i hi j hj=>baV hX hi hj⟩,QZ.2 ⟨fun i j hi hj=>?_,fun i j hi hj _ hr=>?_⟩⟩
 ·rw [ajM hi,ajM hj,alT hX hi hj,decide_eq_true_eq]
  constructor
  ·exact atk hX hi hj
  ·intro h
   rcases alS (abI X i) (abI X j) with q | q | q
   ·exact q
   ·have:=aLN hX hi hj (am2 q); omega
   ·have:=atk hX hj hi (show aeA (abI X j) (abI X i) = -1 by rw [aik,q]); omega
 ·rw [ajM hi,ajM hj] at hr
  have e:=atW hX hi hj hr
  have hn:(X.g i).1.n=(X.g j).1.n:=by
   have:=congrArg List.length e
   unfold abI at this
   rwa [iN,iN] at this
  show ((Nat.beq (X.g i).1.n (X.g j).1.n && ((List.range (X.g i).1.n).all fun k=>(decide ((show Int from ((X.g i).1.g k).1)=(show Int from ((X.g j).1.g k).1)) && true))) && true)=true
  rw [hn,Nat.beq_refl,Bool.true_and,Bool.and_true]
  refine JL fun k hk=>?_
  have:(abI X i)[k]? = (abI X j)[k]? := by rw [e]
  unfold abI at this
  rw [gR,gR,if_pos (by omega),if_pos hk] at this
  rw [decide_eq_true (Option.some.inj this)]; rfl
def sIx (X:cT) (k:Nat):Nat:=JA (cP X.n (vZ v33 X)) (uJ (cP X.n (vZ v33 X)) k X.n) X.n
theorem an6 (k:Nat):sIx X k < X.n/\rk1 X.n (vZ v33 X) (sIx X k)=uJ (cP X.n (vZ v33 X)) k X.n:=by
 have hex:∃ i,i < X.n/\lg (cP X.n (vZ v33 X)) i=uJ (cP X.n (vZ v33 X)) k X.n:=by
  rcases Ta (l:=cP X.n (vZ v33 X)) (k:=k) X.n with h | h
  ·obtain ⟨i,h1,h2⟩:=az8 hX
   exact ⟨i,h1,by rw [ajM h1,h2,h]⟩
  ·exact h
 obtain ⟨h1,h2⟩:=FJ hex
 refine ⟨h1,?_⟩
 rw [ajM h1] at h2
 exact h2
theorem awW {k k':Nat} (h:k<=k'):¬ llt (abI X (sIx X k')) (abI X (sIx X k)):=by
 obtain ⟨h1,h2⟩:=an6 hX k
 obtain ⟨h3,h4⟩:=an6 hX k'
 refine awV hX h1 h3 ?_
 have h5:=SZ (l:=cP X.n (vZ v33 X)) (k:=k) X.n
 have h6:=Lf (l:=cP X.n (vZ v33 X)) (k:=k') h1 (by rw [ajM h1]; omega)
 rw [ajM h1] at h6
 omega
theorem aAd {i:Nat} (hi:i < X.n):∃ k,k < X.n/\abI X (sIx X k)=abI X i:=by
 have hr:=aVe hX hi
 obtain ⟨h1,h2⟩:=an6 hX (rk1 X.n (vZ v33 X) i)
 refine ⟨_,hr,atW hX h1 hi ?_⟩
 have h5:=SZ (l:=cP X.n (vZ v33 X)) (k:=rk1 X.n (vZ v33 X) i) X.n
 have h6:=Lf (l:=cP X.n (vZ v33 X)) (k:=rk1 X.n (vZ v33 X) i) hi (by rw [ajM hi]; exact Nat.le_refl _)
 rw [ajM hi] at h6
 omega
theorem aAe:aoi p35 (JB v33 X)=true/\(aW (amF v35 (JB v33 X))).Pairwise llt/\∀ x,x∈aW (amF v35 (JB v33 X))↔∃ i,i < X.n/\x=abI X i:=by
 have h1:=hX.pos
 have h2:=hX.n
 have hYn:(JB v33 X).n=X.n:=rfl
 have hYg:∀ k,(JB v33 X).g k=X.g (sIx X k):=fun k=>rfl
 have hk:∀ k,((JB v33 X).g k).1.n<=1000:=fun k=>by rw [hYg]; exact hX.k _ (an6 hX k).1
 have al:∀ i j,alike v35 (JB v33 X) i j=decide (abI X (sIx X i)=abI X (sIx X j)):=fun i j=>by
  unfold alike
  have:v35 (((JB v33 X).g i).1,(((JB v33 X).g j).1,()))=(decide (abI X (sIx X i)=abI X (sIx X j)),()):=by
   show (M35 (((JB v33 X).g i).1,(((JB v33 X).g j).1,()))).getD _=_
   rw [aWw (hk i)]; rfl
  rw [this]
 have hst:ac2 v35 (JB v33 X)=ae1 (fun k=>abI X (sIx X k)) X.n:=by
  unfold ac2 ae1
  exact List.filter_congr fun j _=>by rw [al]
 obtain ⟨q1,q2,q3⟩:=as0 (y:=fun k=>abI X (sIx X k)) (n:=X.n) fun i j hij _=>awW hX hij
 have hrows:aW (amF v35 (JB v33 X))=(ae1 (fun k=>abI X (sIx X k)) X.n).map fun k=>abI X (sIx X k):=by
  refine List.ext_getElem? fun k=>?_
  rw [List.getElem?_map]
  have hn:(amF v35 (JB v33 X)).n=(ae1 (fun k=>abI X (sIx X k)) X.n).length:=by rw [<- hst]; rfl
  by_cases hk:k < (ae1 (fun k=>abI X (sIx X k)) X.n).length
  ·rw [tW (by omega),List.getElem?_eq_getElem hk]
   show some (aV (X.g (sIx X (lg (ac2 v35 (JB v33 X)) k))).1)=some (abI X (sIx X _))
   rw [hst]
   unfold lg
   rw [List.getD_eq_getElem?_getD,List.getElem?_eq_getElem hk]; rfl
  ·rw [List.getElem?_eq_none (by rw [dI]; omega),List.getElem?_eq_none (by omega)]; rfl
 refine ⟨?_,by rw [hrows]; exact q1,fun x=>?_⟩
 ·unfold aoi
  simp only [Bool.and_eq_true,Nat.blt_eq,List.all_eq_true,List.mem_range]
  refine ⟨⟨by rw [hYn]; exact h1,by rw [hYn]; omega⟩,fun i _ j _=>?_⟩
  show (M35 (((JB v33 X).g i).1,(((JB v33 X).g j).1,()))).isSome=true
  rw [aWw (hk i)]; rfl
 ·rw [hrows]
  constructor
  ·intro hx
   obtain ⟨j,hj,e⟩:=q3 x hx
   exact ⟨sIx X j,(an6 hX j).1,e⟩
  ·rintro ⟨i,hi,e⟩
   obtain ⟨k,hk,e2⟩:=aAd hX hi
   rw [e,<- e2]
   exact q2 k hk
end
def st7 (t i:Int) (X:cT):(aa av2).den:=((),((),((),((t,()),((i,()),((X,()),()))))))
theorem aNo (hs:(cB s).Ok) {t i:Nat} (ht:t < s.1.n) (hi:i < (s.1.g t).2.1.n):∀ (l:List fD.den) (X:cT),(∀ it∈l,Good s it/\toL it∈links (cB s))->X.n + l.length<=1000000->(∀ k,k < X.n->(X.g k).1.n<=1000) ->
  ∃ X':cT,aMK (st7 t i X) l = .next (st7 t i X')/\X'.n=X.n + l.length/\(∀ k,k < X'.n->(X'.g k).1.n<=1000)/\aW X'=aW X ++ l.map fun it=>acT (cB s) (toL it) (s.1.n - 1 - t) t i
 | [],X,_,_,hk=>⟨X,rfl,rfl,hk,by simp⟩
 | it :: l,X,hg,hn,hk=>by
  obtain ⟨g1,g2⟩:=hg it (.head _)
  obtain ⟨rows,rfl,hr,hL⟩:=g1.rows
  rw [hL] at g2
  rw [List.length_cons] at hn
  have WM:=eF hs
  obtain ⟨r,h1,h2⟩:=aKv hs g2 ht hi
  have aDq:(X.n + 1) * 24<=140737488355328:=by omega
  have st:aMJ (st7 t i X) (vw s rows) = .next (st7 t i (snoc X (r,()))):=by
   unfold aMJ aOq
   refine (aK h1).trans ?_
   exact aq (decide_eq_true aDq)
  have RI:r.n<=1000:=by
   rw [<- iN,h2]
   unfold acT
   rw [List.length_map]
   have:∀ (m t i:Nat),(des (cB s) (aW rows) m t i).length<=m + 1:=by
    intro m
    induction m with
    | zero=>intro t i; simp [des]
    | succ m ih =>
     intro t i
     simp only [des,List.length_cons]
     cases nx (cB s) (aW rows) t i with
     | none=>simp
     | some j=>have:=ih (t + 1) j; dsimp only; omega
   have:=this (s.1.n - 1 - t) t i
   omega
  obtain ⟨X',q1,q2,q3,q4⟩:=aNo hs ht hi l (snoc X (r,())) (fun x hx=>hg x (.tail _ hx)) (by rw [IP]; omega) fun k hk'=>by
   rw [IP] at hk'
   by_cases e:k < X.n
   ·rw [Ik e]; exact hk k e
   ·obtain rfl:k=X.n:=by omega
    rw [Il]; exact RI
  refine ⟨X',?_,by rw [q2,IP,List.length_cons]; omega,q3,?_⟩
  ·unfold aMK at q1 ⊢
   simp only [eW,st]
   exact q1
  ·rw [q4,FY,List.map_cons,hL,h2,List.append_assoc]; rfl
theorem bgz (ho:Io s=true) (ha:Dg s=true) {t i:Nat} (ht:t < s.1.n) (hi:i < (s.1.g t).2.1.n):∃ P:cT,M7 (no_index (s,((t:Int),((i:Int),()))))=some (P,((0:Int),()))/\(aW P).Pairwise llt /\
  ∀ x,x∈aW P↔∃ L∈links (cB s),x=acT (cB s) L (s.1.n - 1 - t) t i:=by
 have hs:=qP ho
 have WM:=eF hs
 have h28:=auJ (s:=s) (by omega) (fun t ht=>by have:=dN hs ht; omega) true
 have e0:Jc s true=0:=by unfold Jc; rw [ho,ha]; rfl
 rw [e0] at h28
 have h29:=aJh (s:=s) (by omega) (t:Int) (i:Int)
 rw [lowB_nat ho ht hi] at h29
 obtain ⟨z,h1,h2,h3⟩:=aWq hs
 have hmem:∀ it∈z.list,Good s it/\toL it∈links (cB s):=fun it hit=>⟨h3 it hit,by rw [<- h2]; exact List.mem_map_of_mem hit⟩
 have hlen:z.list.length=(links (cB s)).length:=by rw [<- h2,List.length_map]
 have hsm:=abS hs
 have e2n:(e2:cT).n=0:=rfl
 obtain ⟨X,q1,q2,q3,q4⟩:=aNo hs ht hi z.list e2 hmem (by rw [e2n]; omega) fun k hk=>absurd hk (Nat.not_lt_zero _)
 have hpos:0 < (links (cB s)).length:=by
  obtain ⟨L,hL⟩:=Ki.1 ha
  exact List.length_pos_of_mem hL
 rw [e2n] at q2
 have hX:Small X:=⟨by omega,by omega,q3⟩
 have hr0:aW (e2:cT)=[]:=rfl
 rw [hr0,List.nil_append] at q4
 obtain ⟨c1,c2,c3⟩:=aAe hX
 refine ⟨amF v35 (JB v33 X),?_,c2,fun x=>(c3 x).trans ?_⟩
 ·unfold M7 Q7
  refine (aK h29).trans ?_
  refine (aK h28).trans ?_
  refine (aR rfl).trans ?_
  refine (aK h1).trans ?_
  refine (congrArg (fun o=>oQ o _ (oR o _ _)) q1).trans ?_
  refine (aq (aAa hX)).trans ?_
  exact aq c1
 ·constructor
  ·rintro ⟨k,hk,rfl⟩
   have hg:(aW X)[k]? = some (abI X k):=tW hk
   rw [q4,List.getElem?_map] at hg
   cases hz:z.list[k]? with
   | none=>rw [hz] at hg; cases hg
   | some it =>
    rw [hz] at hg
    exact ⟨toL it,(hmem it (List.mem_of_getElem? hz)).2,(Option.some.inj hg).symm⟩
  ·rintro ⟨L,hL,rfl⟩
   rw [<- h2] at hL
   obtain ⟨it,hit,rfl⟩:=List.mem_map.1 hL
   obtain ⟨k,hk,e⟩:=List.getElem_of_mem hit
   refine ⟨k,by omega,?_⟩
   have hg:(aW X)[k]? = some (abI X k):=tW (by omega)
   rw [q4,List.getElem?_map,List.getElem?_eq_getElem hk,e] at hg
   exact Option.some.inj hg
theorem aWR (hn:s.1.n<=1000) (hk:∀ t,t < s.1.n->(s.1.g t).2.1.n<=1000) (t i:Int) (h:Jc s (lowB s t i)≠0):M7 (no_index (s,(t,(i,()))))=some (e2,(Jc s (lowB s t i),())):=by
 unfold M7 Q7
 refine (aK (aJh hn _ _)).trans ?_
 refine (aK (auJ hn hk _)).trans ?_
 have:(!decide (Jc s (lowB s t i)=0))=true:=by rw [decide_eq_false h]; rfl
 exact aq this
end Go.Dm
namespace Go.Dm
set_option maxRecDepth 100000
open Go.Low
variable {s:tS.den}
theorem aKn {a b:Sl sR.den} (ha:a.n<=1000):M45 (no_index (a,(b,())))=some (decide (aV a=aV b),()):=by
 unfold M45 Q45
 by_cases hn:((a.n:Nat):Int)=((b.n:Nat):Int)
 ·refine (aR (show (!decide (((a.n:Nat):Int)=((b.n:Nat):Int)))=false by rw [decide_eq_true hn]; rfl)).trans ?_
  have key:aGl (a,(b,())) ((0:Int),())=bif (List.range a.n).all (fun j=>decide ((show Int from (a.g j).1)=(show Int from (b.g j).1))) then .exit 0 () else LQ.ret (wy:=ayl) (show (aa ayl.ret).den from (false,())):=by
   unfold aGl
   refine dX (ps:=apF) (n:=a.n) (f:=fun j=>((j:Int),())) (by unfold cz; omega) (fun j hj _=>?_) (fun _=>?_)
   ·unfold aGk aGe
    refine (aq (decide_eq_true (dW hj))).trans ?_
    refine (aq (decide_eq_true (aQ hj))).trans ?_
    refine (aq (decide_eq_true (aQ (n:=b.n) (by omega)))).trans ?_
    cases hd:decide ((show Int from (a.g j).1)=(show Int from (b.g j).1)) with
    | true =>
     refine (aR (show (!decide ((show Int from (a.g j).1)=(show Int from (b.g j).1)))=false by rw [hd]; rfl)).trans ?_
     exact congrArg (fun q:Int=>(RQ.next (show (aa apF).den from (q,())):RQ apF ayl)) (dR hj (by omega))
    | false=>exact aq (show (!decide ((show Int from (a.g j).1)=(show Int from (b.g j).1)))=true by rw [hd]; rfl)
   ·unfold aGk aGe
    exact aR (decide_eq_false (by omega:¬ (((a.n:Nat):Int) < ((a.n:Nat):Int))))
  have e:(List.range a.n).all (fun j=>decide ((show Int from (a.g j).1)=(show Int from (b.g j).1)))=decide (aV a=aV b):=by
   rw [Bool.eq_iff_iff,decide_eq_true_eq]
   constructor
   ·intro h
    refine List.ext_getElem? fun j=>?_
    rw [gR,gR]
    by_cases hj:j < a.n
    ·rw [if_pos hj,if_pos (by omega)]
     exact congrArg some (of_decide_eq_true (mQ h hj))
    ·rw [if_neg hj,if_neg (by omega)]
   ·intro h
    refine JL fun j hj=>decide_eq_true ?_
    have:(aV a)[j]? = (aV b)[j]? := by rw [h]
    rw [gR,gR,if_pos hj,if_pos (by omega)] at this
    exact Option.some.inj this
  rw [e] at key
  revert key
  cases decide (aV a=aV b) with
  | true=>intro key; exact (bp key).trans rfl
  | false=>intro key; exact (congrArg (fun o=>aF o 0 _ (bS o _ _)) key).trans rfl
 ·refine (aq (show (!decide (((a.n:Nat):Int)=((b.n:Nat):Int)))=true by rw [decide_eq_false hn]; rfl)).trans ?_
  have:¬ (aV a=aV b):=fun e=>hn (by
   have:=congrArg List.length e
   rw [iN,iN] at this
   omega)
  rw [decide_eq_false this]
theorem aRP {a b:cT} (hn:a.n<=1000000) (hk:∀ i,i < a.n->(a.g i).1.n<=1000) (h:aW a=aW b):M12 (no_index (a,(b,())))=some (true,()):=by
 have hab:a.n=b.n:=by
  have:=congrArg List.length h
  rwa [dI,dI] at this
 unfold M12 Q12
 refine (aR (show (!decide (((a.n:Nat):Int)=((b.n:Nat):Int)))=false by rw [hab,decide_eq_true rfl]; rfl)).trans ?_
 have key:aGs (a,(b,())) ((0:Int),()) = .exit 0 ():=by
  unfold aGs
  refine bQ (ps:=apH) a.n cz (fun j=>((j:Int),())) (by unfold cz; omega) (fun j hj=>?_) ?_
  ·have e:aV (a.g j).1=aV (b.g j).1:=by
    have:(aW a)[j]? = (aW b)[j]? := by rw [h]
    rw [tW hj,tW (by omega)] at this
    exact Option.some.inj this
   have h45:=aKn (a:=(a.g j).1) (b:=(b.g j).1) (hk j hj)
   rw [decide_eq_true e] at h45
   unfold aGr aGq
   refine (aq (decide_eq_true (dW hj))).trans ?_
   refine (aq (decide_eq_true (aQ hj))).trans ?_
   refine (aq (decide_eq_true (aQ (n:=b.n) (by omega)))).trans ?_
   refine (aK h45).trans ?_
   refine (aR rfl).trans ?_
   exact congrArg (fun q:Int=>(RQ.next (show (aa apH).den from (q,())):RQ apH aEz)) (dR hj (by omega))
  ·unfold aGr aGq
   exact aR (decide_eq_false (by omega:¬ (((a.n:Nat):Int) < ((a.n:Nat):Int))))
 exact (bp key).trans rfl
theorem aFX (hs:(cB s).Ok) {rows:cT} (hL:aW rows∈links (cB s)) {t:Nat} (ht:t + 1 < s.1.n) (i:Nat):has (aV (rows.g (t + 1)).1) (i:Int)=(nx (cB s) (aW rows) t i).isSome:=by
 have hr:=aia hs hL
 have hI:=(tX hs).1 hL
 have e:=kH (o:=rows) (t:=t + 1) (by rw [hr.n]; exact ht)
 rw [<- e,Bool.eq_iff_iff]
 constructor
 ·intro h
  obtain ⟨j,hj,e⟩:=(aFH hI ht (i:Int) (by omega)).1 h
  cases hn:nx (cB s) (aW rows) t i with
  | some k=>rfl
  | none=>exact absurd e (aXi hn hj)
 ·intro h
  cases hn:nx (cB s) (aW rows) t i with
  | none=>rw [hn] at h; cases h
  | some k=>exact (aFH hI ht (i:Int) (by omega)).2 ⟨k,aqc hn⟩
theorem aWS (hs:(cB s).Ok) {rows:cT} (hL:aW rows∈links (cB s)) {t i:Nat} (ht:t + 1 < s.1.n) {out:Sl sR.den} (ho:out.n<=1000) (h0:0 < out.n) (hl:(show Int from (out.g (out.n - 1)).1)=(i:Int)) :
    ax4 (rows,(((t + 1:Nat):Int),(out,()))) ((0:Int),())=match nx (cB s) (aW rows) t i with | some k=>.exit 2 (snoc out ((k:Int),()),()) | none=>.exit 2 (out,()):=by
  have hr:=aia hs hL
  have RI:=hr.n
  have hk:=dN hs ht
  have hkr:=hr.k _ ht
  rw [<- aPH hs hr ht]
  have at1:(0:Int)<=((t + 1:Nat):Int)/\((t + 1:Nat):Int) < ((rows.n:Nat):Int):=by omega
  have w:W (((out.n:Nat):Int) - 1)=((out.n - 1:Nat):Int):=by rw [gQ ⟨by omega,by omega⟩]; omega
  have h8:(out.n + 1) * 8<=140737488355328:=by omega
  unfold ax4
  have key:=kG (step:=ax2 (rows,(((t + 1:Nat):Int),(out,())))) (N:=cz) (ps:=nY) (wy:=aum) (n:=(rows.g (t + 1)).1.n) (f:=fun j=>((j:Int),())) (c:=fun j=>decide ((i:Int)=((rows.g (t + 1)).1.g j).1))
    (qe:=.exit 2 (out,())) (qr:=fun k=>.exit 2 (snoc out ((k:Int),()),())) (by unfold cz; omega) (fun j hj _=>by
      have abO:(0:Int)<=(j:Int)/\(j:Int) < ((((rows.g (t + 1)).1.n:Nat)):Int):=by omega
      have kk:∀ z:Int,z=((out.n - 1:Nat):Int)->∀ (p q r1:RQ nY aum),(bif (decide ((0:Int)<=z/\z < ((out.n:Nat):Int))) then bif (decide (((rows.g (t + 1)).1.g j).1=(out.g (Int.toNat z)).1)) then p else q else r1)=bif decide ((i:Int)=((rows.g (t + 1)).1.g j).1) then p else q:=fun z hz p q r1=>by
        subst hz
        refine (aq (decide_eq_true (aQ (n:=out.n) (by omega)))).trans ?_
        have e:decide ((show Int from ((rows.g (t + 1)).1.g j).1)=(show Int from (out.g (Int.toNat ((out.n - 1:Nat):Int))).1))=decide ((i:Int)=(show Int from ((rows.g (t + 1)).1.g j).1)):=by
          have e2:(show Int from (out.g (Int.toNat ((out.n - 1:Nat):Int))).1)=(i:Int):=hl
          rw [e2,decide_eq_decide]
          exact eq_comm
        exact congrArg (fun b:Bool=>bif b then p else q) e
      unfold ax2 aBr
      refine (aq (decide_eq_true at1)).trans ?_
      refine (aq (decide_eq_true abO.2)).trans ?_
      refine (aq (decide_eq_true at1)).trans ?_
      refine (aq (decide_eq_true abO)).trans ?_
      refine (kk _ w _ _ _).trans ?_
      cases decide ((i:Int)=((rows.g (t + 1)).1.g j).1) with
      | true=>exact aq (decide_eq_true h8)
      | false=>exact congrArg (fun q:Int=>(RQ.next (show (aa nY).den from (q,())):RQ nY aum)) (dR hj (by omega))) (fun _=>by
      unfold ax2 aBr
      refine (aq (decide_eq_true at1)).trans ?_
      exact aR (decide_eq_false (by omega:¬ ((((rows.g (t + 1)).1.n:Nat):Int) < (((rows.g (t + 1)).1.n:Nat):Int)))))
  exact key
theorem aRR (hs:(cB s).Ok) {rows:cT} (hL:aW rows∈links (cB s)):∀ (m t i n:Nat) (out:Sl sR.den),t + m + 1=s.1.n->m < n->out.n + m<=1000->0 < out.n->(show Int from (out.g (out.n - 1)).1)=(i:Int) ->
  ∃ r:Sl sR.den,aH (aDn (rows,())) n ((t:Int),(out,())) = .exit 0 (r,())/\aV r=aV out ++ (acT (cB s) (aW rows) m t i).tail
 | m,t,i,n,out,ht,hn,ho,h0,hl=>by
  obtain ⟨n,rfl⟩:∃ q,n=q + 1:=⟨n - 1,by omega⟩
  have hr:=aia hs hL
  have RI:=hr.n
  have WM:=eF hs
  have w1:W ((t:Int) + 1)=((t + 1:Nat):Int):=dR (n:=s.1.n) (by omega) (by omega)
  cases m with
  | zero =>
   have st:aDn (rows,()) ((t:Int),(out,())) = .out (.exit 0 (out,())):=by
    unfold aDn aG3
    have:¬ (W ((t:Int) + 1) < ((rows.n:Nat):Int)):=by rw [w1]; omega
    exact aR (decide_eq_false this)
   exact ⟨out,by rw [aH,st],by simp [acT,des]⟩
  | succ m =>
   have ht1:t + 1 < s.1.n:=by omega
   have hk1:=dN hs ht1
   have hp:(acT (cB s) (aW rows) (m + 1) t i).tail=match nx (cB s) (aW rows) t i with | some j=>acT (cB s) (aW rows) m (t + 1) j | none=>[]:=by
    unfold acT
    simp only [des,List.map_cons,List.tail_cons]
    cases nx (cB s) (aW rows) t i <;> rfl
   have w2:W (((out.n:Nat):Int) - 1)=((out.n - 1:Nat):Int):=by rw [gQ ⟨by omega,by omega⟩]; omega
   have hin:=aWS hs hL (i:=i) ht1 (out:=out) (by omega) h0 hl
   have h76:=apc (rows.g (t + 1)).1 (by rw [hr.k _ ht1]; omega) (i:Int)
   rw [aFX hs hL ht1] at h76
   have he:(out.g (out.n - 1))=((i:Int),()):=Prod.ext hl rfl
   have st:aDn (rows,()) ((t:Int),(out,()))=match nx (cB s) (aW rows) t i with | some k=>.next (((t + 1:Nat):Int),(snoc out ((k:Int),()),())) | none=>.out (.exit 0 (out,())):=by
    have kk:∀ z y:Int,z=((t + 1:Nat):Int)->y=((out.n - 1:Nat):Int)->(bif (decide (z < ((rows.n:Nat):Int))) then bif (decide (((0:Int)<=z)/\(z < ((rows.n:Nat):Int)))) then bif (decide (((0:Int)<=y)/\(y < ((out.n:Nat):Int)))) then cl (r76).dflt (M76 ((rows.g (Int.toNat z)).1,(out.g (Int.toNat y)))) (fun u0=>bif u0.1 then aF (ax4 (rows,(z,(out,()))) ((0:Int),())) 2 (fun u1=>(RQ.next (show (aa auz).den from (z,u1)):RQ auz aED)) .bad else .out (.exit 0 (out,()))) .bad else .bad else .bad else .out (.exit 0 (out,())))=match nx (cB s) (aW rows) t i with | some k=>.next (((t + 1:Nat):Int),(snoc out ((k:Int),()),())) | none=>.out (.exit 0 (out,())):=by
     intro z y hz hy
     subst hz hy
     have a1:(0:Int)<=((t + 1:Nat):Int)/\((t + 1:Nat):Int) < ((rows.n:Nat):Int):=by omega
     refine (aq (decide_eq_true a1.2)).trans ?_
     refine (aq (decide_eq_true a1)).trans ?_
     refine (aq (decide_eq_true (aQ (n:=out.n) (by omega)))).trans ?_
     have bgB:M76 ((rows.g (Int.toNat ((t + 1:Nat):Int))).1,(out.g (Int.toNat ((out.n - 1:Nat):Int))))=some ((nx (cB s) (aW rows) t i).isSome,()):=by
      show M76 ((rows.g (t + 1)).1,(out.g (out.n - 1)))=_
      rw [he]; exact h76
     refine (aK bgB).trans ?_
     cases hnx:nx (cB s) (aW rows) t i with
     | none=>rfl
     | some k =>
      rw [hnx] at hin
      refine (aq rfl).trans ?_
      exact bp hin
    unfold aDn aG3
    exact kk _ _ w1 w2
   rw [hp]
   cases hnx:nx (cB s) (aW rows) t i with
   | none =>
    rw [hnx] at st
    exact ⟨out,by rw [aH,st],by simp⟩
   | some k =>
    rw [hnx] at st
    obtain ⟨r,q1,q2⟩:=aRR hs hL m (t + 1) k n (snoc out ((k:Int),())) (by omega) (by omega) (by rw [IP]; omega) (by rw [IP]; omega) (by
     have:(snoc out ((k:Int),())).n - 1=out.n:=by rw [IP]; omega
     rw [this,Il])
    refine ⟨r,?_,?_⟩
    ·refine Eq.trans ?_ q1
     rw [aH,st]
    ·rw [q2,Et,List.append_assoc]
     congr 1
     cases m <;> simp [acT,des]
theorem auH (hs:(cB s).Ok) {rows:cT} (hL:aW rows∈links (cB s)) {t i:Nat} (ht:t < s.1.n):∃ r:Sl sR.den,Yl (no_index (rows,((t:Int),((i:Int),()))))=some (r,())/\aV r=acT (cB s) (aW rows) (s.1.n - 1 - t) t i:=by
 have WM:=eF hs
 obtain ⟨r,h1,h2⟩:=aRR hs hL (s.1.n - 1 - t) t i cz (⟨1,fun j=>List.getD [((i:Int),())] j ((i:Int),())⟩:Sl sR.den) (by omega) (by unfold cz; omega) (by show 1 + (s.1.n - 1 - t)<=1000; omega) (by show 0 < 1; omega) rfl
 refine ⟨r,?_,?_⟩
 ·unfold Yl Q46
  exact (bp h1).trans rfl
 ·rw [h2]
  show [(i:Int)] ++ _=_
  generalize s.1.n - 1 - t=m
  cases m <;> simp [acT,des]
end Go.Dm
namespace Go.Dm
set_option maxRecDepth 100000
open Go.Low
variable {s:tS.den}
theorem aAP (hs:(cB s).Ok):(links (cB s)).length<=1000000:=Nat.le_trans (abS hs) (by omega)
theorem asl {P:cT} {n:Nat} (hn:P.n<=n) (h:∀ x∈aW P,x.length<=1000):∀ i,i < P.n->(P.g i).1.n<=1000:=fun i hi=>by
 have:=h _ (List.mem_of_getElem? (tW hi))
 rwa [iN] at this
theorem at3 (p:PS) (L:LL):∀ (m t i:Nat),(des p L m t i).length<=m + 1
 | 0,t,i=>by simp [des]
 | m + 1,t,i=>by
  simp only [des,List.length_cons]
  cases nx p L t i with
  | none=>simp
  | some j=>have:=at3 p L m (t + 1) j; dsimp only; omega
theorem an8:∀ {l m:LL},l.Pairwise llt->(∀ x∈l,x∈m)->l.length<=m.length
 | [],m,_,_=>Nat.zero_le _
 | a :: l,m,h,hm=>by
  rw [List.pairwise_cons] at h
  have ha:=hm a (.head _)
  have ih:=an8 (l:=l) (m:=m.erase a) h.2 fun x hx=>by
   have hne:x≠a:=fun e=>by subst e; exact ajd (h.1 _ hx)
   exact (List.mem_erase_of_ne hne).2 (hm x (.tail _ hx))
  have:=List.length_erase_of_mem ha
  have hpos:=List.length_pos_of_mem ha
  rw [List.length_cons]
  omega
theorem amX (hs:(cB s).Ok) {P:cT} {m t i:Nat} (hm:m<=10) (p1:(aW P).Pairwise llt) (p2:∀ x,x∈aW P↔∃ L∈links (cB s),x=acT (cB s) L m t i):P.n<=1000000/\∀ j,j < P.n->(P.g j).1.n<=1000:=by
 have hPn:P.n<=1000000:=by
  have hm:=an8 p1 (m:=(links (cB s)).map fun L=>acT (cB s) L m t i) fun x hx=>by
   obtain ⟨L,hL,e⟩:=(p2 x).1 hx
   rw [e]; exact List.mem_map_of_mem hL
  rw [List.length_map,dI] at hm
  exact Nat.le_trans hm (aAP hs)
 refine ⟨hPn,asl hPn fun x hx=>?_⟩
 obtain ⟨L,hL,e⟩:=(p2 x).1 hx
 rw [e]
 unfold acT
 rw [List.length_map]
 have:=at3 (cB s) L m t i
 omega
end Go.Dm

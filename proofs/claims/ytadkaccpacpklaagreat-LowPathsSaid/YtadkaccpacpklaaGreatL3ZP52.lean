/-
 Of the plain law.
-/
import Derived.Test.YtadkaccpacpklaaGreatL3ZP40
set_option linter.unusedVariables false
set_option linter.unusedSimpArgs false
namespace Go.Dm
set_option maxRecDepth 100000
open Go.Low
variable {s:tS.den}
theorem aRS {a b:Sl sR.den} (ha:a.n<=1000):∀ (k j n:Nat),j + k=a.n->k < n->j<=b.n ->
  (∃ v:Bool,aH (ag4 (a,(b,()))) n ((j:Int),())=LQ.ret (wy:=LH) (show (aa LH.ret).den from (v,()))/\v=decide (aeA ((aV a).drop j) ((aV b).drop j) = -1)) \/
   (aH (ag4 (a,(b,()))) n ((j:Int),()) = .exit 0 ()/\decide (aeA ((aV a).drop j) ((aV b).drop j) = -1)=decide (a.n < b.n))
 | 0,j,n,hj,hn,hjb=>by
  obtain ⟨n,rfl⟩:∃ m,n=m + 1:=⟨n - 1,by omega⟩
  obtain rfl:j=a.n:=by omega
  have st:ag4 (a,(b,())) (((a.n:Nat):Int),()) = .out (.exit 0 ()):=by
   unfold ag4 ag3
   exact aR (decide_eq_false (by omega:¬ (((a.n:Nat):Int) < ((a.n:Nat):Int))))
  refine .inr ⟨by simp only [aH,st],?_⟩
  rw [ajy (Nat.le_refl _)]
  by_cases h:a.n < b.n
  ·rw [aic h,decide_eq_true h]; rfl
  ·rw [ajy (by omega),decide_eq_false h]; rfl
 | k + 1,j,n,hj,hn,hjb=>by
  obtain ⟨n,rfl⟩:∃ m,n=m + 1:=⟨n - 1,by omega⟩
  have hja:j < a.n:=by omega
  rw [aic hja]
  by_cases Sw:b.n<=j
  ·have st:ag4 (a,(b,())) ((j:Int),()) = .out (.exit 0 ()):=by
    unfold ag4 ag3
    refine (aq (decide_eq_true (dW hja))).trans ?_
    exact aR (decide_eq_false (by omega:¬ ((j:Int) < ((b.n:Nat):Int))))
   refine .inr ⟨by simp only [aH,st],?_⟩
   rw [ajy Sw,decide_eq_false (by omega:¬ (a.n < b.n))]; rfl
  ·have hjb':j < b.n:=by omega
   rw [aic hjb']
   have st:ag4 (a,(b,())) ((j:Int),())=bif (!(decide ((show Int from (a.g j).1)=(show Int from (b.g j).1)))) then .out (LQ.ret (show (aa LH.ret).den from (decide ((show Int from (a.g j).1) < (show Int from (b.g j).1)),()))) else .next ((W ((j:Int) + 1)),()):=by
    unfold ag4 ag3
    refine (aq (decide_eq_true (dW hja))).trans ?_
    refine (aq (decide_eq_true (dW hjb'))).trans ?_
    refine (aq (decide_eq_true (aQ hja))).trans ?_
    refine (aq (decide_eq_true (aQ hjb'))).trans ?_
    by_cases c:(show Int from (a.g j).1)=(show Int from (b.g j).1)
    ·exact (aR (nb c)).trans (aR (nb c)).symm
    ·have c':(!decide ((show Int from (a.g j).1)=(show Int from (b.g j).1)))=true:=by rw [decide_eq_false c]; rfl
     refine (aq c').trans ?_
     refine (aq (decide_eq_true (aQ hja))).trans ?_
     refine (aq (decide_eq_true (aQ hjb'))).trans ?_
     exact (aq c').symm
   unfold aeA
   by_cases c:(show Int from (a.g j).1)=(show Int from (b.g j).1)
   ·have ih:=aRS (a:=a) (b:=b) ha k (j + 1) n (by omega) (by omega) (by omega)
    have w:=dR hja (by omega)
    have st:ag4 (a,(b,())) ((j:Int),()) = .next (((j + 1:Nat):Int),()):=by rw [st,nb c,w]; rfl
    rw [if_neg (by omega:¬ ((show Int from (a.g j).1) < (show Int from (b.g j).1))),if_neg (by omega:¬ ((show Int from (b.g j).1) < (show Int from (a.g j).1)))]
    simp only [aH,st]
    exact ih
   ·have c':(!decide ((show Int from (a.g j).1)=(show Int from (b.g j).1)))=true:=by rw [decide_eq_false c]; rfl
    rw [c'] at st
    refine .inl ⟨decide ((show Int from (a.g j).1) < (show Int from (b.g j).1)),by simp only [aH,st]; rfl,?_⟩
    by_cases p1:(show Int from (a.g j).1) < (show Int from (b.g j).1)
    ·rw [if_pos p1,decide_eq_true p1]; rfl
    ·rw [if_neg p1,if_pos (by omega:(show Int from (b.g j).1) < (show Int from (a.g j).1)),decide_eq_false p1]; rfl
theorem aE5 {a b:Sl sR.den} (ha:a.n<=1000):M47 (no_index (a,(b,())))=some (decide (aeA (aV a) (aV b) = -1),()):=by
 have h:=aRS (b:=b) ha a.n 0 cz (by omega) (by unfold cz; omega) (Nat.zero_le _)
 rw [List.drop_zero,List.drop_zero] at h
 unfold M47 Q47
 rcases h with ⟨v,h1,h2⟩ | ⟨h1,h2⟩
 ·rw [<- h2]
  exact (congrArg (fun o=>aF o 0 _ (bS o _ _)) h1).trans rfl
 ·refine (bp h1).trans ?_
  rw [h2]
  by_cases c:a.n < b.n
  ·rw [decide_eq_true c]; exact congrArg (fun b=>some (b,())) (decide_eq_true (by omega:((a.n:Nat):Int) < ((b.n:Nat):Int)))
  ·rw [decide_eq_false c]; exact congrArg (fun b=>some (b,())) (decide_eq_false (by omega:¬ (((a.n:Nat):Int) < ((b.n:Nat):Int))))
theorem aJ1 (p:List Int):∀ l:LL,kOf p l<=l.length
 | []=>Nat.le_refl _
 | x :: l=>by
  rw [awR,List.length_cons]
  have:=aJ1 p l
  cases decide (aeA x p = -1) with
  | true=>exact Nat.succ_le_succ this
  | false=>exact Nat.zero_le _
theorem aNp {p:List Int}:∀ {l:LL} {j:Nat},j < kOf p l->∀ x,l[j]? = some x->aeA x p = -1
 | [],j,h,x,hx=>by cases hx
 | y :: l,j,h,x,hx=>by
  rw [awR] at h
  by_cases c:aeA y p = -1
  ·rw [decide_eq_true c] at h
   cases j with
   | zero=>obtain rfl:=Option.some.inj hx; exact c
   | succ j=>exact aNp (l:=l) (j:=j) (Nat.lt_of_succ_lt_succ h) x hx
  ·rw [decide_eq_false c] at h; exact absurd h (Nat.not_lt_zero _)
theorem aNq {p:List Int}:∀ {l:LL} (x:List Int),l[kOf p l]? = some x->¬ aeA x p = -1
 | [],x,hx=>by cases hx
 | y :: l,x,hx=>by
  rw [awR] at hx
  by_cases c:aeA y p = -1
  ·rw [decide_eq_true c] at hx
   exact aNq (l:=l) x hx
  ·rw [decide_eq_false c] at hx
   obtain rfl:=Option.some.inj hx
   exact c
theorem aL1 (a b:cT):aW (cK a b)=aW a ++ aW b:=by
 refine List.ext_getElem? fun i=>?_
 by_cases h:i < a.n
 ·rw [List.getElem?_append_left (by rw [dI]; exact h),tW h,tW (o:=cK a b) (show i < a.n + b.n by omega)]
  have:Nat.blt i a.n=true:=by rw [Nat.blt_eq]; exact h
  show some (aV (bif Nat.blt i a.n then a.g i else b.g (i - a.n)).1)=_
  rw [this]; rfl
 ·rw [List.getElem?_append_right (by rw [dI]; omega),dI]
  by_cases h2:i < a.n + b.n
  ·rw [tW (o:=cK a b) h2,tW (by omega)]
   have:Nat.blt i a.n=false:=by
    cases h3:Nat.blt i a.n with
    | false=>rfl
    | true=>rw [Nat.blt_eq] at h3; omega
   show some (aV (bif Nat.blt i a.n then a.g i else b.g (i - a.n)).1)=_
   rw [this]; rfl
  ·rw [List.getElem?_eq_none (by rw [dI]; show a.n + b.n<=i; omega),List.getElem?_eq_none (by rw [dI]; omega)]
theorem aL2 {X:cT} {k:Nat} (h:k<=X.n):aW (⟨k,fun i=>X.g (i + 0)⟩:cT)=(aW X).take k:=by
 refine List.ext_getElem? fun i=>?_
 rw [List.getElem?_take]
 by_cases hi:i < k
 ·rw [if_pos hi,tW (o:=(⟨k,fun i=>X.g (i + 0)⟩:cT)) hi,tW (by omega)]; rfl
 ·rw [if_neg hi,List.getElem?_eq_none (by rw [dI]; show k<=i; omega)]
theorem aL3 {X:cT} {k m:Nat} (h:k + m=X.n):aW (⟨m,fun i=>X.g (i + k)⟩:cT)=(aW X).drop k:=by
 refine List.ext_getElem? fun i=>?_
 rw [List.getElem?_drop]
 by_cases hi:i < m
 ·rw [tW (o:=(⟨m,fun i=>X.g (i + k)⟩:cT)) hi,tW (by omega),Nat.add_comm k i]
 ·rw [List.getElem?_eq_none (by rw [dI]; show m<=i; omega),List.getElem?_eq_none (by rw [dI]; omega)]
theorem aKG {X:cT} {r:Sl sR.den} (hX:X.n<=1000000) (hk:∀ i,i < X.n->(X.g i).1.n<=1000) {c0:zR} {c1 c2 c4:Int} :
  aBO (c0,(c1,(c2,(X,(c4,(r,())))))) ((0:Int),()) = .exit 2 (((kOf (aV r) (aW X):Nat):Int),()):=by
 have hle:=aJ1 (aV r) (aW X)
 rw [dI] at hle
 unfold aBO
 refine bQ (ps:=vl) (kOf (aV r) (aW X)) cz (fun j=>((j:Int),())) (by unfold cz; omega) (fun j hj=>?_) ?_
 ·have hj':j < X.n:=by omega
  have c:=aNp hj _ (tW hj')
  unfold aBN aBM
  refine (aq (decide_eq_true (dW hj'))).trans ?_
  refine (aq (decide_eq_true (aQ hj'))).trans ?_
  refine (aK (aE5 (hk j hj'))).trans ?_
  refine (aq (decide_eq_true c)).trans ?_
  exact congrArg (fun w:Int=>(RQ.next (show (aa vl).den from (w,())):RQ vl axq)) (dR hj' (by omega))
 ·unfold aBN aBM
  by_cases hj':kOf (aV r) (aW X) < X.n
  ·have c:=aNq _ (tW hj')
   refine (aq (decide_eq_true (dW hj'))).trans ?_
   refine (aq (decide_eq_true (aQ hj'))).trans ?_
   refine (aK (aE5 (hk _ hj'))).trans ?_
   exact aR (decide_eq_false c)
  ·exact aR (decide_eq_false (by omega:¬ (((kOf (aV r) (aW X):Nat):Int) < ((X.n:Nat):Int))))
def aKH (X:cT) (k:Nat) (r:Sl sR.den):cT:=cK (snoc (⟨k,fun i=>X.g (i + 0)⟩:cT) (r,())) (⟨X.n - k,fun i=>X.g (i + k)⟩:cT)
theorem aNr {X:cT} {k:Nat} (h:k<=X.n) (r:Sl sR.den):(aKH X k r).n=X.n + 1:=by
 show k + 1 + (X.n - k)=X.n + 1
 omega
theorem aNs {X:cT} {k:Nat} (h:k<=X.n) (r:Sl sR.den):aW (aKH X k r)=(aW X).take k ++ aV r :: (aW X).drop k:=by
 unfold aKH
 rw [aL1,FY,aL2 h,aL3 (by omega),List.append_assoc]; rfl
theorem aLx {X:cT} {k j:Nat} {r:Sl sR.den} (hk:k<=X.n) (hX:X.n<=1000000) (hj:j<=1000000) :
    ∀ (p q:Nat),p=k->q=X.n - k->∀ a b d e f:RQ wk axt,
      (bif decide ((0:Int)<=0/\(0:Int)<=(k:Int)/\(k:Int)<=((X.n:Nat):Int)) then bif decide (p * 24<=140737488355328) then bif decide ((p + 1) * 24<=140737488355328) then bif decide ((0:Int)<=(k:Int)/\(k:Int)<=((X.n:Nat):Int)/\((X.n:Nat):Int)<=((X.n:Nat):Int)) then
        bif decide (((cK (⟨p,fun i=>X.g (i + 0)⟩:cT) (⟨1,fun i=>List.getD [(r,())] i (r,())⟩:cT)).n + q) * 24<=140737488355328) then
          (RQ.next (show (aa wk).den from (cK (cK (⟨p,fun i=>X.g (i + 0)⟩:cT) (⟨1,fun i=>List.getD [(r,())] i (r,())⟩:cT)) (⟨q,fun i=>X.g (i + k)⟩:cT),(W ((j:Int) + 1),()))):RQ wk axt) else a else b else d else e else f) =
      .next (show (aa wk).den from (aKH X k r,(((j + 1:Nat):Int),()))):=fun p q hp hq a b d e f=>by
  subst hp
  subst hq
  refine (aq (decide_eq_true (by omega))).trans ?_
  refine (aq (decide_eq_true (by omega))).trans ?_
  refine (aq (decide_eq_true (by omega))).trans ?_
  refine (aq (decide_eq_true (by omega))).trans ?_
  refine (aq (decide_eq_true (show (p + 1 + (X.n - p)) * 24<=140737488355328 by omega))).trans ?_
  exact congrArg (fun w:Int=>(RQ.next (show (aa wk).den from (aKH X p r,(w,()))):RQ wk axt)) (dR (n:=j + 1) (by omega) (by omega))
theorem aLy (hs:(cB s).Ok) {all:zR} (hall:fU all=links (cB s)) {t i:Nat} (ht:t < s.1.n):∀ (m j n:Nat) (X:cT),j + m=all.n->m < n->X.n<=j->(∀ x∈aW X,x.length<=1000) ->
  ∃ Y:cT,aH (axv (all,((t:Int),((i:Int),())))) n (X,((j:Int),())) = .exit 0 (Y,())/\aW Y=(((links (cB s)).drop j).map fun L=>acT (cB s) L (s.1.n - 1 - t) t i).foldl aod (aW X)
 | 0,j,n,X,hj,hn,hX,hx=>by
  obtain ⟨n,rfl⟩:∃ m,n=m + 1:=⟨n - 1,by omega⟩
  have st:axv (all,((t:Int),((i:Int),()))) (X,((j:Int),())) = .out (.exit 0 (X,())):=by
   unfold axv aEF
   exact aR (decide_eq_false (by omega:¬ ((j:Int) < ((all.n:Nat):Int))))
  refine ⟨X,by simp only [aH,st],?_⟩
  rw [List.drop_eq_nil_of_le (by rw [<- hall,jA]; omega)]; rfl
 | m + 1,j,n,X,hj,hn,hX,hx=>by
  obtain ⟨n,rfl⟩:∃ m,n=m + 1:=⟨n - 1,by omega⟩
  have hja:j < all.n:=by omega
  have han:all.n<=1000000:=by have:=aAP hs; rw [<- hall,jA] at this; exact this
  have aq1:(links (cB s))[j]? = some (aW (all.g j).1):=by rw [<- hall]; exact IQ hja
  have hL:aW (all.g j).1∈links (cB s):=List.mem_of_getElem? aq1
  obtain ⟨r,h46,e46⟩:=auH hs hL (t:=t) (i:=i) ht
  have baZ:(links (cB s)).drop j=aW (all.g j).1 :: (links (cB s)).drop (j + 1):=by
   obtain ⟨h3,h4⟩:=List.getElem?_eq_some_iff.1 aq1
   rw [List.drop_eq_getElem_cons h3,h4]
  have hkX:∀ i,i < X.n->(X.g i).1.n<=1000:=fun i hi=>by
   have:=hx _ (List.mem_of_getElem? (tW hi))
   rwa [iN] at this
  have hle:=aJ1 (aV r) (aW X)
  rw [dI] at hle
  have hrl:(aV r).length<=1000:=by
   rw [e46]; unfold acT; rw [List.length_map]
   have:=at3 (cB s) (aW (all.g j).1) (s.1.n - 1 - t) t i
   have:=eF hs
   omega
  have e1:Int.toNat (((kOf (aV r) (aW X):Nat):Int) - 0)=kOf (aV r) (aW X):=by omega
  have e2:Int.toNat (((X.n:Nat):Int) - ((kOf (aV r) (aW X):Nat):Int))=X.n - kOf (aV r) (aW X):=by omega
  have bqO:aW X≠aW X\/True:=.inr trivial
  have fin:∀ X':cT,axv (all,((t:Int),((i:Int),()))) (X,((j:Int),())) = .next (show (aa wk).den from (X',(((j + 1:Nat):Int),())))->X'.n<=j + 1->aW X'=aod (aW X) (aV r) ->
    ∃ Y:cT,aH (axv (all,((t:Int),((i:Int),())))) (n + 1) (X,((j:Int),())) = .exit 0 (Y,())/\aW Y=(((links (cB s)).drop j).map fun L=>acT (cB s) L (s.1.n - 1 - t) t i).foldl aod (aW X):=fun X' st hn' e=>by
   obtain ⟨Y,y1,y2⟩:=aLy hs hall (i:=i) ht m (j + 1) n X' (by omega) (by omega) hn' fun x hx'=>by
    rw [e] at hx'
    rcases am5.1 hx' with q | q
    ·rw [q]; exact hrl
    ·exact hx x q
   refine ⟨Y,by simp only [aH,st]; exact y1,?_⟩
   rw [y2,baZ,List.map_cons,List.foldl_cons,e,e46]
  by_cases hK:kOf (aV r) (aW X) < X.n
  ·by_cases c:aV (X.g (kOf (aV r) (aW X))).1=aV r
   ·refine fin X ?_ (by omega) ?_
    ·unfold axv aEF
     refine (aq (decide_eq_true (dW hja))).trans ?_
     refine (aq (decide_eq_true (aQ hja))).trans ?_
     refine (aK h46).trans ?_
     refine (bp (aKG (by omega) hkX)).trans ?_
     refine (aq (decide_eq_true (dW hK))).trans ?_
     refine (aq (decide_eq_true (aQ hK))).trans ?_
     refine (aK (aKn (hkX _ hK))).trans ?_
     refine (aq (decide_eq_true c)).trans ?_
     exact congrArg (fun w:Int=>(RQ.next (show (aa wk).den from (X,(w,()))):RQ wk axt)) (dR hja (by omega))
    ·unfold aod
     rw [tW hK,c,decide_eq_true rfl]; rfl
   ·refine fin (aKH X (kOf (aV r) (aW X)) r) ?_ (by rw [aNr hle]; omega) ?_
    ·unfold axv aEF
     refine (aq (decide_eq_true (dW hja))).trans ?_
     refine (aq (decide_eq_true (aQ hja))).trans ?_
     refine (aK h46).trans ?_
     refine (bp (aKG (by omega) hkX)).trans ?_
     refine (aq (decide_eq_true (dW hK))).trans ?_
     refine (aq (decide_eq_true (aQ hK))).trans ?_
     refine (aK (aKn (hkX _ hK))).trans ?_
     refine (aR (decide_eq_false c)).trans ?_
     exact aLx hle (by omega) (by omega) _ _ e1 e2 _ _ _ _ _
    ·rw [aNs hle]
     unfold aod
     rw [tW hK,decide_eq_false (fun e=>c (Option.some.inj e))]; rfl
  ·refine fin (aKH X (kOf (aV r) (aW X)) r) ?_ (by rw [aNr hle]; omega) ?_
   ·unfold axv aEF
    refine (aq (decide_eq_true (dW hja))).trans ?_
    refine (aq (decide_eq_true (aQ hja))).trans ?_
    refine (aK h46).trans ?_
    refine (bp (aKG (by omega) hkX)).trans ?_
    refine (aR (decide_eq_false (by omega:¬ (((kOf (aV r) (aW X):Nat):Int) < ((X.n:Nat):Int))))).trans ?_
    exact aLx hle (by omega) (by omega) _ _ e1 e2 _ _ _ _ _
   ·rw [aNs hle]
    unfold aod
    rw [List.getElem?_eq_none (by rw [dI]; omega),decide_eq_false (fun e=>by cases e)]; rfl
theorem ba1 (hs:(cB s).Ok) {all:zR} (hall:fU all=links (cB s)) {t i:Nat} (ht:t < s.1.n):∃ Y:cT,M13 (no_index (all,((t:Int),((i:Int),()))))=some (Y,())/\aW Y=aLT ((links (cB s)).map fun L=>acT (cB s) L (s.1.n - 1 - t) t i):=by
 have han:all.n<=1000000:=by have:=aAP hs; rw [<- hall,jA] at this; exact this
 obtain ⟨Y,h1,h2⟩:=aLy hs hall (i:=i) ht all.n 0 cz e2 (by omega) (by unfold cz; omega) (Nat.le_refl _) (fun x hx=>by cases hx)
 refine ⟨Y,?_,?_⟩
 ·unfold M13 Q13
  exact (bp h1).trans rfl
 ·rw [h2,List.drop_zero]; rfl
end Go.Dm
namespace Go.Dm
set_option maxRecDepth 100000
open Go.Low
variable {s:tS.den}
theorem aio (x y:Int×Int×Unit) (w:Int):M53 (no_index ((show T12.den from x),((show T12.den from y),(w,()))))=some ((mx x.1 (W (y.1 - w)),(mn x.2.1 (W (y.2.1 + w)),())),()):=rfl
theorem aNt (x y:Int×Int×Unit):M49 (no_index ((show T12.den from x),((show T12.den from y),())))=some ((mn x.1 y.1,(mx x.2.1 y.2.1,())),()):=rfl
theorem aWU (hs:(cB s).Ok) {t u:Nat} (ht:t < s.1.n) (hu:u < s.1.n):mx (W (mT s t - mT s u)) (W (mT s u - mT s t))=dt (cB s) t u/\0<=dt (cB s) t u/\dt (cB s) t u<=200:=by
 have h1:0<=mT s t/\mT s t<=200:=hs.Xp t ht
 have h2:0<=mT s u/\mT s u<=200:=hs.Xp u hu
 rw [acf ⟨by omega,by omega⟩ ⟨by omega,by omega⟩,acf ⟨by omega,by omega⟩ ⟨by omega,by omega⟩,GU]
 by_cases c:u<=t
 ·have h3:mT s u<=mT s t:=hs.afG c ht
  have e:dt (cB s) t u=mT s t - mT s u:=aFM c
  rw [e]; omega
 ·have h3:mT s t<=mT s u:=hs.afG (by omega) hu
  have e:dt (cB s) t u=mT s u - mT s t:=aQF (by omega)
  rw [e]; omega
theorem aQE (hs:(cB s).Ok) {t u i:Nat} (ht:t < s.1.n) (hu:u < s.1.n) (hi:i < (s.1.g u).2.1.n) (p:B6):M78 (no_index (s,(p,((t:Int),((u:Int),((i:Int),()))))))=some (nar (cB s) t p (u,i),()):=by
 unfold M78 Q78
 refine (aq (decide_eq_true (aQ hu))).trans ?_
 refine (aq (decide_eq_true (aQ hi))).trans ?_
 refine (aq (decide_eq_true (aQ ht))).trans ?_
 refine (aq (decide_eq_true (aQ hu))).trans ?_
 refine (aq (decide_eq_true (aQ hu))).trans ?_
 refine (aq (decide_eq_true (aQ ht))).trans ?_
 refine (aK (aio _ _ _)).trans ?_
 refine (aK (aio _ _ _)).trans ?_
 refine (aK (aio _ _ _)).trans ?_
 obtain ⟨e,d0,d1⟩:=aWU hs ht hu
 have q1:0<=pN s/\pN s<=50:=hs.sp
 have q2:0<=zn s/\zn s<=1000:=hs.dp
 obtain ⟨a0,a1,a2⟩:=MG (p:=pN s) (h:=dt (cB s) t u) ⟨q1.1,by omega⟩ ⟨d0,d1⟩
 obtain ⟨b0,b1,b2⟩:=MG (p:=zn s) (h:=dt (cB s) t u) q2 ⟨d0,d1⟩
 have hb:=lE hs hu hi
 have i0:=hb 0 (by omega)
 have i1:=hb 1 (by omega)
 have i2:=hb 2 (by omega)
 obtain ⟨p1,p2,p3,p4,p5,p6,⟨⟩⟩:=p
 show some ((mx p1 (W (lo ((s.1.g u).2.1.g i) 0 - W (pN s * mx (W (mT s t - mT s u)) (W (mT s u - mT s t))))),(mn p2 (W (Low.hi ((s.1.g u).2.1.g i) 0 + W (pN s * mx (W (mT s t - mT s u)) (W (mT s u - mT s t))))),(mx p3 (W (lo ((s.1.g u).2.1.g i) 1 - W (pN s * mx (W (mT s t - mT s u)) (W (mT s u - mT s t))))),(mn p4 (W (Low.hi ((s.1.g u).2.1.g i) 1 + W (pN s * mx (W (mT s t - mT s u)) (W (mT s u - mT s t))))),(mx p5 (W (lo ((s.1.g u).2.1.g i) 2 - W (zn s * mx (W (mT s t - mT s u)) (W (mT s u - mT s t))))),(mn p6 (W (Low.hi ((s.1.g u).2.1.g i) 2 + W (zn s * mx (W (mT s t - mT s u)) (W (mT s u - mT s t))))),())))))),())=_
 rw [e,a0,b0,acf ⟨i0.1,i0.2.1⟩ ⟨a1,a2⟩,akd i0.2.2 ⟨a1,a2⟩,acf ⟨i1.1,i1.2.1⟩ ⟨a1,a2⟩,akd i1.2.2 ⟨a1,a2⟩,acf ⟨i2.1,i2.2.1⟩ ⟨b1,b2⟩,akd i2.2.2 ⟨b1,b2⟩]
 simp only [GU,LI]
 rfl
theorem aHc (hs:(cB s).Ok) {rows:cT} (hL:aW rows∈links (cB s)) {t:Nat} (ht:t < s.1.n) {c3:Int} {c8:B6}:∀ (u k n:Nat) (p:B6),u<=t->k < (s.1.g u).2.1.n->u < n ->
  aH (ax8 (rows,((t:Int),(c3,((),((),((),(s,(c8,()))))))))) n ((u:Int),((k:Int),(p,()))) = .exit 0 (((uT (aW rows) u k).tail).foldl (nar (cB s) t) p,())
 | 0,k,n,p,hu,hk,hn=>by
  obtain ⟨n,rfl⟩:∃ m,n=m + 1:=⟨n - 1,by omega⟩
  have hr:=aia hs hL
  have hI:=(tX hs).1 hL
  have xU:0 < s.1.n:=hs.n1
  have r0:0 < rows.n:=by rw [hr.n]; exact xU
  have r1:k < (rows.g 0).1.n:=by rw [hr.k 0 xU]; exact hk
  have hv:(show Int from ((rows.g 0).1.g k).1) = -1:=by
   have h1:=hI.first
   have h2:(aW rows).getD 0 []=aV (rows.g 0).1:=kH r0
   rw [h2] at h1
   have h3:(aV (rows.g 0).1)[k]? = some ((rows.g 0).1.g k).1:=by rw [gR,if_pos r1]
   rw [h1] at h3
   unfold first at h3
   rw [List.getElem?_replicate] at h3
   split at h3
   ·exact (Option.some.inj h3).symm
   ·cases h3
  have st:ax8 (rows,((t:Int),(c3,((),((),((),(s,(c8,())))))))) (((0:Nat):Int),((k:Int),(p,()))) = .out (.exit 0 (p,())):=by
   unfold ax8 aE2
   refine (aq (decide_eq_true (aQ r0))).trans ?_
   refine (aq (decide_eq_true (aQ r1))).trans ?_
   exact aR (decide_eq_false (show ¬ ((0:Int)<=(show Int from ((rows.g 0).1.g k).1)) by omega))
  simp only [aH,st]
  rfl
 | u + 1,k,n,p,hu,hk,hn=>by
  obtain ⟨n,rfl⟩:∃ m,n=m + 1:=⟨n - 1,by omega⟩
  have hr:=aia hs hL
  have hI:=(tX hs).1 hL
  have Pt:u + 1 < s.1.n:=by omega
  have r0:u + 1 < rows.n:=by rw [hr.n]; exact Pt
  have r1:k < (rows.g (u + 1)).1.n:=by rw [hr.k _ Pt]; exact hk
  have hl:=hI.afg Pt hk
  have e:qR (aW rows) (u + 1) k=(show Int from ((rows.g (u + 1)).1.g k).1):=OO r0 r1
  have wp:=wo (n:=s.1.n) (by have:=eF hs; omega) Pt
  rcases hl with hl | ⟨h0,h1,_⟩
  ·have hv:¬ ((0:Int)<=(show Int from ((rows.g (u + 1)).1.g k).1)):=by rw [<- e,hl]; omega
   have st:ax8 (rows,((t:Int),(c3,((),((),((),(s,(c8,())))))))) (((u + 1:Nat):Int),((k:Int),(p,()))) = .out (.exit 0 (p,())):=by
    unfold ax8 aE2
    refine (aq (decide_eq_true (aQ r0))).trans ?_
    refine (aq (decide_eq_true (aQ r1))).trans ?_
    exact aR (decide_eq_false hv)
   simp only [aH,st]
   unfold uT
   rw [if_neg (by omega)]
   rfl
  ·obtain ⟨j,hj⟩:∃ j:Nat,qR (aW rows) (u + 1) k=(j:Int):=⟨_,(Int.toNat_of_nonneg h0).symm⟩
   have hjk:j < (s.1.g u).2.1.n:=by
    have h1:(qR (aW rows) (u + 1) k).toNat < (s.1.g u).2.1.n:=h1
    rw [hj] at h1; exact h1
   have hg:(rows.g (u + 1)).1.g k=((j:Int),()):=by
    have:(show Int from ((rows.g (u + 1)).1.g k).1)=(j:Int):=by rw [<- e]; exact hj
    exact Prod.ext this rfl
   have ih:=aHc hs hL ht (c3:=c3) (c8:=c8) u j n (nar (cB s) t p (u,j)) (by omega) hjk (by omega)
   have key:∀ w:Int,w=(u:Int)->∀ (x:sR.den),x=((j:Int),())->∀ (a b:RQ an5 aC8),
     (bif decide ((0:Int)<=(show Int from x.1)) then cl (WH).dflt (M78 (s,(p,((t:Int),(w,x))))) (fun u0=>(RQ.next (show (aa an5).den from (w,(x.1,(u0.1,())))):RQ an5 aC8)) a else b) = .next (show (aa an5).den from ((u:Int),((j:Int),(nar (cB s) t p (u,j),())))):=fun w hw x hx a b=>by
    subst hw
    subst hx
    refine (aq (decide_eq_true (Int.natCast_nonneg j))).trans ?_
    exact aK (aQE hs ht (by omega) hjk p)
   have st:ax8 (rows,((t:Int),(c3,((),((),((),(s,(c8,())))))))) (((u + 1:Nat):Int),((k:Int),(p,()))) = .next (show (aa an5).den from ((u:Int),((j:Int),(nar (cB s) t p (u,j),())))):=by
    unfold ax8 aE2
    refine (aq (decide_eq_true (aQ r0))).trans ?_
    refine (aq (decide_eq_true (aQ r1))).trans ?_
    refine (aq (decide_eq_true (show (0:Int)<=(show Int from ((rows.g (u + 1)).1.g k).1) by rw [<- e]; exact h0))).trans ?_
    refine (aq (decide_eq_true (aQ r0))).trans ?_
    refine (aq (decide_eq_true (aQ r1))).trans ?_
    refine Eq.trans ?_ (key _ wp _ hg .bad .bad)
    exact (aq (decide_eq_true (show (0:Int)<=(show Int from ((rows.g (u + 1)).1.g k).1) by rw [<- e]; exact h0))).symm
   simp only [aH,st]
   refine ih.trans ?_
   have ea:(uT (aW rows) (u + 1) k).tail=(u,j) :: (uT (aW rows) u j).tail:=by
    rw [uT,if_pos h0,List.tail_cons,hj]
    exact aas _ _ _
   rw [ea,List.foldl_cons]
theorem aLz {p:PS} {L:LL}:∀ {m t i j:Nat} {q:Nat×Nat},(des p L m t i)[j]? = some q->q.1=t + j
 | 0,t,i,j,q,h=>by
  unfold des at h
  cases j with
  | zero=>obtain rfl:=Option.some.inj h; rfl
  | succ j=>cases h
 | m + 1,t,i,j,q,h=>by
  unfold des at h
  cases j with
  | zero=>obtain rfl:=Option.some.inj h; rfl
  | succ j =>
   rw [List.getElem?_cons_succ] at h
   cases hx:nx p L t i with
   | none=>rw [hx] at h; cases h
   | some k=>rw [hx] at h; have:=aLz (m:=m) h; omega
theorem aWV (hs:(cB s).Ok) {L:LL} {t i:Nat} (ht:t < s.1.n) (hi:i < (s.1.g t).2.1.n) {r:Sl sR.den} (hr:aV r=acT (cB s) L (s.1.n - 1 - t) t i) {c8:B6} (p:B6) :
  aLq ((t:Int),((),((),((),(r,(s,(c8,()))))))) ((1:Int),(p,())) = .exit 2 (((des (cB s) L (s.1.n - 1 - t) t i).tail).foldl (nar (cB s) t) p,()):=by
 have WM:=eF hs
 have hD:=at3 (cB s) L (s.1.n - 1 - t) t i
 have RI:r.n=(des (cB s) L (s.1.n - 1 - t) t i).length:=by
  have:=congrArg List.length hr
  unfold acT at this
  rwa [iN,List.length_map] at this
 have hpos:0 < (des (cB s) L (s.1.n - 1 - t) t i).length:=by rw [apI]; simp
 have e:(des (cB s) L (s.1.n - 1 - t) t i).tail=((des (cB s) L (s.1.n - 1 - t) t i).tail).take (r.n - 1):=by rw [List.take_of_length_le (by rw [List.length_tail]; omega)]
 rw [e]
 unfold aLq
 refine bQ (ps:=ajh) (r.n - 1) cz (fun j=>(((j + 1:Nat):Int),((((des (cB s) L (s.1.n - 1 - t) t i).tail).take j).foldl (nar (cB s) t) p,()))) (by unfold cz; omega) (fun j hj=>?_) ?_
 ·have hj1:j + 1 < r.n:=by omega
  obtain ⟨q,hq⟩:∃ q,(des (cB s) L (s.1.n - 1 - t) t i)[j + 1]? = some q:=⟨_,List.getElem?_eq_getElem (by omega)⟩
  have hq1:=aLz hq
  obtain ⟨hq2,hq3⟩:=atN (s:=cB s) (fun _ _=>trivial) (show t + (s.1.n - 1 - t) < s.1.n by omega) hi q (List.mem_of_getElem? hq)
  have hg:r.g (j + 1)=(((q.2:Nat):Int),()):=by
   have h1:(aV r)[j + 1]? = some (r.g (j + 1)).1:=by rw [gR,if_pos hj1]
   rw [hr] at h1
   unfold acT at h1
   rw [List.getElem?_map,hq] at h1
   exact Prod.ext (Option.some.inj h1).symm rfl
  have wt:W ((t:Int) + ((j + 1:Nat):Int))=((q.1:Nat):Int):=by
   rw [gQ ⟨by omega,by omega⟩,hq1]; omega
  have htk:((des (cB s) L (s.1.n - 1 - t) t i).tail).take (j + 1)=((des (cB s) L (s.1.n - 1 - t) t i).tail).take j ++ [q]:=by
   rw [List.take_add_one,List.getElem?_tail,hq]; rfl
  have key:∀ w:Int,w=((q.1:Nat):Int)->∀ (x:sR.den),x=(((q.2:Nat):Int),())->∀ (a:RQ ajh azw),
    cl (WH).dflt (M78 (s,((((des (cB s) L (s.1.n - 1 - t) t i).tail).take j).foldl (nar (cB s) t) p,((t:Int),(w,x))))) (fun u1=>(RQ.next (show (aa ajh).den from (W (((j + 1:Nat):Int) + 1),(u1.1,()))):RQ ajh azw)) a =
     .next (show (aa ajh).den from (((j + 1 + 1:Nat):Int),((((des (cB s) L (s.1.n - 1 - t) t i).tail).take (j + 1)).foldl (nar (cB s) t) p,()))):=fun w hw x hx a=>by
   subst hw
   subst hx
   refine (aK (aQE hs ht hq2 hq3 _)).trans ?_
   rw [htk,List.foldl_append]
   exact congrArg (fun w:Int=>(RQ.next (show (aa ajh).den from (w,(nar (cB s) t ((((des (cB s) L (s.1.n - 1 - t) t i).tail).take j).foldl (nar (cB s) t) p) (q.1,q.2),()))):RQ ajh azw)) (dR (n:=r.n) hj1 (by omega))
  unfold aG6 aG5
  refine (aq (decide_eq_true (dW hj1))).trans ?_
  refine (aq (decide_eq_true (aQ hj1))).trans ?_
  exact key _ wt _ hg _
 ·unfold aG6 aG5
  exact aR (decide_eq_false (show ¬ (((r.n - 1 + 1:Nat):Int) < ((r.n:Nat):Int)) by omega))
theorem baW (hs:(cB s).Ok) {rows:cT} (hL:aW rows∈links (cB s)) {t i:Nat} (ht:t < s.1.n) (hi:i < (s.1.g t).2.1.n):vA (no_index (s,(rows,((t:Int),((i:Int),())))))=some (pos (cB s) (aW rows) t i,()):=by
 obtain ⟨r,h46,e46⟩:=auH hs hL (t:=t) (i:=i) ht
 have WM:=eF hs
 unfold vA Q48
 refine (aq (decide_eq_true (aQ ht))).trans ?_
 refine (aq (decide_eq_true (aQ hi))).trans ?_
 refine (bp (aHc hs hL ht t i cz ((s.1.g t).2.1.g i) (Nat.le_refl _) hi (by unfold cz; omega))).trans ?_
 refine (aK h46).trans ?_
 refine (bp (aWV hs ht hi e46 _)).trans ?_
 rw [<- aOf]; rfl
theorem ba4 (hs:(cB s).Ok) {all:zR} (hall:fU all=links (cB s)) {L0:LL} {l:List LL} (hl:links (cB s)=L0 :: l) {t i:Nat} (ht:t < s.1.n) (hi:i < (s.1.g t).2.1.n) {c8:B6} :
  apL (all,((t:Int),((i:Int),((),((),((),(s,(c8,())))))))) ((1:Int),(pos (cB s) L0 t i,())) = .exit 0 (ach (cB s) t i,()):=by
 have han:all.n=l.length + 1:=by rw [<- jA,hall,hl]; rfl
 have aWW:=aAP hs
 rw [hl,List.length_cons] at aWW
 have e:ach (cB s) t i=apg (pos (cB s) L0 t i) ((l.take l.length).map fun L=>pos (cB s) L t i):=by unfold ach; rw [hl,List.take_length]; rfl
 rw [e]
 unfold apL
 refine bQ (ps:=aeS) l.length cz (fun j=>(((j + 1:Nat):Int),(apg (pos (cB s) L0 t i) ((l.take j).map fun L=>pos (cB s) L t i),()))) (by unfold cz; omega) (fun j hj=>?_) ?_
 ·have hja:j + 1 < all.n:=by omega
  have aq1:(links (cB s))[j + 1]? = some (aW (all.g (j + 1)).1):=by rw [<- hall]; exact IQ hja
  have hL:aW (all.g (j + 1)).1∈links (cB s):=List.mem_of_getElem? aq1
  rw [hl,List.getElem?_cons_succ] at aq1
  have htk:l.take (j + 1)=l.take j ++ [aW (all.g (j + 1)).1]:=by rw [List.take_add_one,aq1]; rfl
  have hh:apg (pos (cB s) L0 t i) ((l.take (j + 1)).map fun L=>pos (cB s) L t i)=apv (apg (pos (cB s) L0 t i) ((l.take j).map fun L=>pos (cB s) L t i)) (pos (cB s) (aW (all.g (j + 1)).1) t i):=by
   rw [htk,List.map_append]; unfold apg; rw [List.foldl_append]; rfl
  unfold apK apJ
  refine (aq (decide_eq_true (dW hja))).trans ?_
  refine (aq (decide_eq_true (aQ hja))).trans ?_
  refine (aK (baW hs hL ht hi)).trans ?_
  refine (aK (aNt _ _)).trans ?_
  refine (aK (aNt _ _)).trans ?_
  refine (aK (aNt _ _)).trans ?_
  rw [hh]
  generalize apg (pos (cB s) L0 t i) ((l.take j).map fun L=>pos (cB s) L t i)=b
  generalize pos (cB s) (aW (all.g (j + 1)).1) t i=c
  have eh:apv b c=(mn b.1 c.1,(mx b.2.1 c.2.1,(mn b.2.2.1 c.2.2.1,(mx b.2.2.2.1 c.2.2.2.1,(mn b.2.2.2.2.1 c.2.2.2.2.1,(mx b.2.2.2.2.2.1 c.2.2.2.2.2.1,())))))):=by simp only [LI,GU]; rfl
  rw [eh]
  exact congrArg (fun w:Int=>(RQ.next (show (aa aeS).den from (w,((mn b.1 c.1,(mx b.2.1 c.2.1,(mn b.2.2.1 c.2.2.1,(mx b.2.2.2.1 c.2.2.2.1,(mn b.2.2.2.2.1 c.2.2.2.2.1,(mx b.2.2.2.2.2.1 c.2.2.2.2.2.1,())))))),()))):RQ aeS amx)) (dR (n:=all.n) hja (by omega))
 ·unfold apK apJ
  exact aR (decide_eq_false (show ¬ (((l.length + 1:Nat):Int) < ((all.n:Nat):Int)) by omega))
theorem aRV (hs:(cB s).Ok) {all:zR} (hall:fU all=links (cB s)) (hne:links (cB s)≠[]) {t i:Nat} (ht:t < s.1.n) (hi:i < (s.1.g t).2.1.n):M14 (no_index (s,(all,((t:Int),((i:Int),())))))=some (ach (cB s) t i,()):=by
 obtain ⟨L0,l,hl⟩:=List.exists_cons_of_ne_nil hne
 have han:all.n=l.length + 1:=by rw [<- jA,hall,hl]; rfl
 have aq1:(links (cB s))[0]? = some (aW (all.g 0).1):=by rw [<- hall]; exact IQ (by omega)
 have hL:aW (all.g 0).1∈links (cB s):=List.mem_of_getElem? aq1
 rw [hl] at aq1
 have h0:L0=aW (all.g 0).1:=Option.some.inj aq1
 unfold M14 Q14
 refine (aq (decide_eq_true (show (0:Int)<=0/\(0:Int) < ((all.n:Nat):Int) by omega))).trans ?_
 refine (aK (baW hs hL ht hi)).trans ?_
 rw [<- h0]
 exact (bp (ba4 hs hall hl ht hi)).trans rfl
end Go.Dm
namespace Go.Dm
set_option maxRecDepth 100000
open Go.Low
variable {s:tS.den}
theorem ba7 (b:B6):((decide (b.1=b.1)) && ((decide (b.2.1=b.2.1)) && ((decide (b.2.2.1=b.2.2.1)) && ((decide (b.2.2.2.1=b.2.2.2.1)) && ((decide (b.2.2.2.2.1=b.2.2.2.2.1)) && ((decide (b.2.2.2.2.2.1=b.2.2.2.2.2.1)) && true))))))=true:=by simp
theorem ax6 {b:Bool} (h:Jc s b=0):Io s=true/\b=true/\Dg s=true:=by
 unfold Jc at h
 cases ho:Io s with
 | false=>rw [ho] at h; cases h
 | true =>
  rw [ho] at h
  cases b with
  | false=>cases h
  | true =>
   cases ha:Dg s with
   | false=>rw [ha] at h; cases h
   | true=>exact ⟨rfl,rfl,rfl⟩
theorem aL4 (s:tS.den) (at' one:Int):M3 (s,(at',(one,())))=some (true,()):=by
 unfold M3 Q3
 obtain ⟨b,h1,h2⟩:=baM (s:=s)
 refine (aK h1).trans ?_
 cases b with
 | false=>exact (aq rfl).trans (aK eZ)
 | true =>
 refine (aR rfl).trans ?_
 obtain ⟨hn,hk⟩:=h2 rfl
 have hn':s.1.n<=1000:=by omega
 have hk':∀ t,t < s.1.n->(s.1.g t).2.1.n<=1000:=fun t ht=>by have:=hk t ht; omega
 by_cases e:Jc s (lowB s at' one)=0
 ·obtain ⟨ho,hl,ha⟩:=ax6 e
  have hs:=qP ho
  have WM:=eF hs
  obtain ⟨t,i,rfl,rfl,ht,hi⟩:=lowB_ex hn' hk' hl
  obtain ⟨P,m7,p1,p2⟩:=bgz ho ha ht hi
  obtain ⟨hPn,hPk⟩:=amX hs (by omega) p1 p2
  obtain ⟨all,m11,hall⟩:=aNj hs
  obtain ⟨Y,m13,y1⟩:=ba1 hs hall (i:=i) ht
  have hne:links (cB s)≠[]:=by
   obtain ⟨L,hL⟩:=Ki.1 ha
   exact List.ne_nil_of_mem hL
  have bX:aW P=aW Y:=by
   rw [y1]
   refine (aOg p1 fun x=>?_).symm
   rw [p2,List.mem_map]
   exact exists_congr fun L=>and_congr_right fun _=>eq_comm
  refine (aK m7).trans ?_
  refine (aK (bgs ho ha ht hi)).trans ?_
  refine (aK (aHb hn' _ _)).trans ?_
  refine (aK (aEP hn' hk' _)).trans ?_
  refine (aR (nb e)).trans ?_
  refine (aK m11).trans ?_
  refine (aq rfl).trans ?_
  refine (aq rfl).trans ?_
  refine (aK m13).trans ?_
  refine (aK (aRP hPn hPk bX)).trans ?_
  refine (aq rfl).trans ?_
  refine (aK (aRV hs hall hne ht hi)).trans ?_
  refine (aq (ba7 _)).trans ?_
  exact aK eZ
 ·refine (aK (aWR hn' hk' at' one e)).trans ?_
  refine (aK (aWP hn' hk' at' one e)).trans ?_
  refine (aK (aHb hn' _ _)).trans ?_
  refine (aK (aEP hn' hk' _)).trans ?_
  refine (aq (show (!(decide (Jc s (lowB s at' one)=0)))=true by rw [decide_eq_false e]; rfl)).trans ?_
  refine (aq (decide_eq_true rfl)).trans ?_
  refine (aq (decide_eq_true rfl)).trans ?_
  refine (aq rfl).trans ?_
  refine (aq rfl).trans ?_
  exact aK eZ
theorem bcO (x:(a3).den):M3 x=some (true,()):=by
 obtain ⟨s,at',one,⟨⟩⟩:=x
 exact aL4 s at' one
end Go.Dm

/- Where a low lies: by all maps before, and by all maps after it. -/
import Derived.Test.YtadkaccpacpklaaL10LM4
import Derived.Test.YtadkaccpacpklaaL10LP0
set_option linter.unusedVariables false
set_option linter.unusedSimpArgs false
namespace Go.Low
open Go.Dm (fB kD jg)
variable {s:PS} {L:LL}
def nx (s:PS) (L:LL) (t i:Nat):Option Nat:=fB (fun j=>decide ((i:Int)=qR L (t + 1) j)) (s.k (t + 1))
theorem aqc {t i j:Nat} (h:nx s L t i=some j):j < s.k (t + 1)/\qR L (t + 1) j=(i:Int):=by
 obtain ⟨h1,h2,_⟩:=kD h
 exact ⟨h1,(of_decide_eq_true h2).symm⟩
theorem aXi {t i:Nat} (h:nx s L t i=none) {j:Nat} (hj:j < s.k (t + 1)):qR L (t + 1) j≠(i:Int):=fun e=>by
 have:=jg h j hj
 rw [e] at this
 simp at this
def des (s:PS) (L:LL):Nat->Nat->Nat->List (Nat×Nat)
 | 0,t,i=>[(t,i)]
 | m + 1,t,i=>(t,i) :: match nx s L t i with | some j=>des s L m (t + 1) j | none=>[]
def fut (s:PS) (L:LL):Nat->Nat->Nat->B6
 | 0,t,i=>s.box t i
 | m + 1,t,i=>match nx s L t i with | some j=>inter (s.box t i) (wide s (fut s L m (t + 1) j) (s.tm (t + 1) - s.tm t)) | none=>s.box t i
theorem atS (L:LL) (a:Nat):∀ (m t i:Nat) (x:Int),lo (fut s L m t i) a<=x↔∀ p∈des s L m t i,lo (s.box p.1 p.2) a - dV s a * (s.tm p.1 - s.tm t)<=x
 | 0,t,i,x=>by simp [fut,des]
 | m + 1,t,i,x=>by
  simp only [fut,des,List.forall_mem_cons,Int.sub_self,Int.mul_zero,Int.sub_zero]
  cases nx s L t i with
  | none=>simp
  | some j =>
   have ih:=atS L a m (t + 1) j (x + dV s a * (s.tm (t + 1) - s.tm t))
   dsimp only
   rw [uR,AX,Int.max_le]
   refine and_congr Iff.rfl ?_
   rw [show lo (fut s L m (t + 1) j) a - dV s a * (s.tm (t + 1) - s.tm t)<=x↔lo (fut s L m (t + 1) j) a<=x + dV s a * (s.tm (t + 1) - s.tm t) by omega,ih]
   refine forall_congr' fun p=>forall_congr' fun _=>?_
   have:dV s a * (s.tm p.1 - s.tm t)=dV s a * (s.tm p.1 - s.tm (t + 1)) + dV s a * (s.tm (t + 1) - s.tm t):=by rw [<- Int.mul_add]; congr 1; omega
   omega
theorem atT (L:LL) (a:Nat):∀ (m t i:Nat) (x:Int),x<=hi (fut s L m t i) a↔∀ p∈des s L m t i,x<=hi (s.box p.1 p.2) a + dV s a * (s.tm p.1 - s.tm t)
 | 0,t,i,x=>by simp [fut,des]
 | m + 1,t,i,x=>by
  simp only [fut,des,List.forall_mem_cons,Int.sub_self,Int.mul_zero,Int.add_zero]
  cases nx s L t i with
  | none=>simp
  | some j =>
   have ih:=atT L a m (t + 1) j (x - dV s a * (s.tm (t + 1) - s.tm t))
   dsimp only
   rw [uS,AY,Int.le_min]
   refine and_congr Iff.rfl ?_
   rw [show x<=hi (fut s L m (t + 1) j) a + dV s a * (s.tm (t + 1) - s.tm t)↔x - dV s a * (s.tm (t + 1) - s.tm t)<=hi (fut s L m (t + 1) j) a by omega,ih]
   refine forall_congr' fun p=>forall_congr' fun _=>?_
   have:dV s a * (s.tm p.1 - s.tm t)=dV s a * (s.tm p.1 - s.tm (t + 1)) + dV s a * (s.tm (t + 1) - s.tm t):=by rw [<- Int.mul_add]; congr 1; omega
   omega
theorem aix {p q:Nat×Nat}:∀ {t i:Nat},q∈uT L t i->p∈uT L q.1 q.2->p∈uT L t i
 | 0,i,hq,hp=>by simp [uT] at hq; subst hq; exact hp
 | t + 1,i,hq,hp=>by
  simp only [uT,List.mem_cons] at hq
  rcases hq with hq | hq
  ·subst hq; exact hp
  ·split at hq
   ·rename_i h0
    simp only [uT,List.mem_cons]
    rw [if_pos h0]
    exact .inr (aix hq hp)
   ·simp at hq
theorem azo:∀ {m t i:Nat} {p:Nat×Nat},p∈des s L m t i->t<=p.1/\p.1<=t + m
 | 0,t,i,p,h=>by simp [des] at h; subst h; exact ⟨Nat.le_refl _,Nat.le_refl _⟩
 | m + 1,t,i,p,h=>by
  simp only [des,List.mem_cons] at h
  rcases h with h | h
  ·subst h; exact ⟨Nat.le_refl _,Nat.le_add_right _ _⟩
  ·cases hn:nx s L t i with
   | none=>rw [hn] at h; simp at h
   | some j=>rw [hn] at h; have:=azo h; omega
theorem azp:∀ {m t i:Nat} {p:Nat×Nat},p∈des s L m t i->(t,i)∈uT L p.1 p.2
 | 0,t,i,p,h=>by simp [des] at h; subst h; exact aa4 L t i
 | m + 1,t,i,p,h=>by
  simp only [des,List.mem_cons] at h
  rcases h with h | h
  ·subst h; exact aa4 L t i
  ·cases hn:nx s L t i with
   | none=>rw [hn] at h; simp at h
   | some j =>
    rw [hn] at h
    have h1:=azp h
    refine aix h1 ?_
    simp only [uT,List.mem_cons]
    have:=(aqc hn).2
    rw [this,if_pos (by omega)]
    exact .inr (by simpa using aa4 L t i)
theorem atN (hi0:∀ t,t < s.N->True):∀ {m t i:Nat},t + m < s.N->i < s.k t->∀ p∈des s L m t i,p.1 < s.N/\p.2 < s.k p.1
 | 0,t,i,ht,hi',p,h=>by simp [des] at h; subst h; exact ⟨ht,hi'⟩
 | m + 1,t,i,ht,hi',p,h=>by
  simp only [des,List.mem_cons] at h
  rcases h with h | h
  ·subst h; exact ⟨by show t < s.N; omega,hi'⟩
  ·cases hn:nx s L t i with
   | none=>rw [hn] at h; simp at h
   | some j=>rw [hn] at h; exact atN hi0 (by omega) (aqc hn).1 p h
theorem aGM (h:wD s L) {m t i:Nat} (ht:t + m < s.N) (hi':i < s.k t) {p q:Nat×Nat} (hp:p∈uT L t i) (hq:q∈des s L m t i):tog s q p\/q=p:=by
 have h1:=aix (azp hq) hp
 have h2:=atN (fun _ _=>trivial) ht hi' q hq
 rw [aas,List.mem_cons] at h1
 rcases h1 with h1 | h1
 ·exact .inr h1.symm
 ·exact .inl (h.ch q.1 h2.1 q.2 h2.2 p h1)
theorem azm (hs:s.Ok) (h:wD s L):∀ {t i:Nat},t < s.N->i < s.k t->ne (can s L t i)
 | 0,i,ht,hi'=>fun a ha=>(hs.box 0 i ht hi' a ha).2.1
 | t + 1,i,ht,hi'=>by
  simp only [can]
  split
  ·rename_i h0
   rcases h.afg ht hi' with h1 | h1
   ·omega
   ·refine (LV hs ht hi' (azm hs h (by omega) h1.2.1)).2 fun p hp=>?_
    refine h.ch (t + 1) ht i hi' p ?_
    simp only [uT,List.tail_cons]
    rw [if_pos h0]; exact hp
  ·exact fun a ha=>(hs.box (t + 1) i ht hi' a ha).2.1
theorem aGN (hs:s.Ok) {m t i j:Nat} (ht:t + 1 < s.N) (hi':i < s.k t) (hne:ne (fut s L m (t + 1) j)) (h:∀ p∈des s L m (t + 1) j,tog s p (t,i)) :
  ne (inter (s.box t i) (wide s (fut s L m (t + 1) j) (s.tm (t + 1) - s.tm t))):=by
 have hr:=hs.dV
 have hh:0<=s.tm (t + 1) - s.tm t:=by have:=hs.tm t ht; omega
 intro a ha
 rw [uR,uS,AX,AY,Int.max_le,Int.le_min,Int.le_min]
 have hb:=hs.box t i (by omega) hi' a ha
 have hc:=hne a ha
 have hm:0<=dV s a * (s.tm (t + 1) - s.tm t):=Int.mul_nonneg (hr a) hh
 have e:∀ p:Nat×Nat,dV s a * (s.tm p.1 - s.tm t)=dV s a * (s.tm p.1 - s.tm (t + 1)) + dV s a * (s.tm (t + 1) - s.tm t):=fun p=>by rw [<- Int.mul_add]; congr 1; omega
 have h4:=(atT (s:=s) L a m (t + 1) j (lo (s.box t i) a - dV s a * (s.tm (t + 1) - s.tm t))).2 fun p hp=>by
  have:=(h p hp a ha).2
  have e:=e p
  have this:lo (s.box t i) a - hi (s.box p.1 p.2) a<=dV s a * (s.tm p.1 - s.tm t):=this
  omega
 have h5:=(atS (s:=s) L a m (t + 1) j (hi (s.box t i) a + dV s a * (s.tm (t + 1) - s.tm t))).2 fun p hp=>by
  have:=(h p hp a ha).1
  have e:=e p
  have this:lo (s.box p.1 p.2) a - hi (s.box t i) a<=dV s a * (s.tm p.1 - s.tm t):=this
  omega
 exact ⟨⟨hb.2.1,by omega⟩,by omega,by omega⟩
theorem azn (hs:s.Ok) (h:wD s L):∀ {m t i:Nat},t + m < s.N->i < s.k t->ne (fut s L m t i)
 | 0,t,i,ht,hi'=>fun a ha=>(hs.box t i ht hi' a ha).2.1
 | m + 1,t,i,ht,hi'=>by
  simp only [fut]
  cases hn:nx s L t i with
  | none=>exact fun a ha=>(hs.box t i (by omega) hi' a ha).2.1
  | some j =>
   have h1:=aqc hn
   dsimp only
   refine aGN hs (by omega) hi' (azn hs h (by omega) h1.1) fun p hp=>?_
   have h2:=atN (s:=s) (L:=L) (fun _ _=>trivial) (by omega) h1.1 p hp
   refine h.ch p.1 h2.1 p.2 h2.2 (t,i) ?_
   have h3:=azp hp
   have h4:(t,i)∈uT L p.1 p.2:=aix h3 (by
    simp only [uT,List.mem_cons]
    rw [h1.2,if_pos (by omega)]
    exact .inr (by simpa using aa4 L t i))
   rw [aas,List.mem_cons] at h4
   rcases h4 with h4 | h4
   ·have:=(azo hp).1
    have:t=p.1:=congrArg Prod.fst h4
    omega
   ·exact h4
def pos (s:PS) (L:LL) (t i:Nat):B6:=inter (can s L t i) (fut s L (s.N - 1 - t) t i)
def chain (s:PS) (L:LL) (t i:Nat):List (Nat×Nat):=uT L t i ++ des s L (s.N - 1 - t) t i
def dt (s:PS) (t u:Nat):Int:=if u<=t then s.tm t - s.tm u else s.tm u - s.tm t
theorem aFM {t u:Nat} (h:u<=t):dt s t u=s.tm t - s.tm u:=if_pos h
theorem aQF {t u:Nat} (h:t<=u):dt s t u=s.tm u - s.tm t:=by
 unfold dt
 split
 ·have:t=u:=by omega
  subst this; rfl
 ·rfl
theorem aEe (a:Nat) (x:Int) (t i:Nat):lo (pos s L t i) a<=x↔∀ p∈chain s L t i,lo (s.box p.1 p.2) a - dV s a * dt s t p.1<=x:=by
 unfold pos chain
 rw [uR,Int.max_le,Mi,atS,List.forall_mem_append]
 refine and_congr ?_ ?_
 ·exact forall_congr' fun p=>forall_congr' fun hp=>by rw [aFM (ahU hp)]
 ·exact forall_congr' fun p=>forall_congr' fun hp=>by rw [aQF (azo hp).1]
theorem aEf (a:Nat) (x:Int) (t i:Nat):x<=hi (pos s L t i) a↔∀ p∈chain s L t i,x<=hi (s.box p.1 p.2) a + dV s a * dt s t p.1:=by
 unfold pos chain
 rw [uS,Int.le_min,Mj,atT,List.forall_mem_append]
 refine and_congr ?_ ?_
 ·exact forall_congr' fun p=>forall_congr' fun hp=>by rw [aFM (ahU hp)]
 ·exact forall_congr' fun p=>forall_congr' fun hp=>by rw [aQF (azo hp).1]
theorem atV (t i:Nat):(t,i)∈chain s L t i:=List.mem_append_left _ (aa4 L t i)
theorem aTZ {a t i:Nat}:lo (s.box t i) a<=lo (pos s L t i) a:=by
 have:=(aEe (s:=s) (L:=L) a _ t i).1 (Int.le_refl _) _ (atV t i)
 rw [aFM (Nat.le_refl _)] at this
 simpa using this
theorem aT0 {a t i:Nat}:hi (pos s L t i) a<=hi (s.box t i) a:=by
 have:=(aEf (s:=s) (L:=L) a _ t i).1 (Int.le_refl _) _ (atV t i)
 rw [aFM (Nat.le_refl _)] at this
 simpa using this
theorem aTY (hs:s.Ok) (h:wD s L) {t i:Nat} (ht:t < s.N) (hi':i < s.k t):ne (pos s L t i):=by
 have h1:=azm hs h ht hi'
 have hm:t + (s.N - 1 - t) < s.N:=by omega
 have h2:=azn hs h hm hi'
 intro a ha
 unfold pos
 rw [uR,uS,Int.max_le,Int.le_min,Int.le_min]
 have key:∀ p∈uT L t i,∀ q∈des s L (s.N - 1 - t) t i,lo (s.box p.1 p.2) a - hi (s.box q.1 q.2) a<=dV s a * (s.tm t - s.tm p.1) + dV s a * (s.tm q.1 - s.tm t)/\lo (s.box q.1 q.2) a - hi (s.box p.1 p.2) a<=dV s a * (s.tm t - s.tm p.1) + dV s a * (s.tm q.1 - s.tm t):=by
  intro p hp q hq
  have hin:=atN (s:=s) (L:=L) (fun _ _=>trivial) hm hi' q hq
  have e:dV s a * (s.tm t - s.tm p.1) + dV s a * (s.tm q.1 - s.tm t)=dV s a * (s.tm q.1 - s.tm p.1):=by rw [<- Int.mul_add]; congr 1; omega
  rw [e]
  rcases aGM h hm hi' hp hq with h3 | h3
  ·have:=h3 a ha; exact ⟨this.2,this.1⟩
  ·subst h3
   have:=hs.box q.1 q.2 hin.1 hin.2 a ha
   rw [Int.sub_self,Int.mul_zero]
   omega
 refine ⟨⟨h1 a ha,?_⟩,?_,h2 a ha⟩
 ·refine (Mi L a _ t i).2 fun p hp=>?_
  have:=(atT (s:=s) L a (s.N - 1 - t) t i (lo (s.box p.1 p.2) a - dV s a * (s.tm t - s.tm p.1))).2 fun q hq=>by have:=(key p hp q hq).1; omega
  exact this
 ·refine (atS L a _ t i _).2 fun q hq=>?_
  have:=(Mj (s:=s) L a (lo (s.box q.1 q.2) a - dV s a * (s.tm q.1 - s.tm t)) t i).2 fun p hp=>by have:=(key p hp q hq).2; omega
  exact this
def apv (b c:B6):B6:=(min b.1 c.1,max b.2.1 c.2.1,min b.2.2.1 c.2.2.1,max b.2.2.2.1 c.2.2.2.1,min b.2.2.2.2.1 c.2.2.2.2.1,max b.2.2.2.2.2.1 c.2.2.2.2.2.1,())
theorem aFJ (b c:B6) (a:Nat):lo (apv b c) a=min (lo b a) (lo c a):=by unfold lo apv; split <;> rfl
theorem aFK (b c:B6) (a:Nat):hi (apv b c) a=max (hi b a) (hi c a):=by unfold hi apv; split <;> rfl
def apg (b:B6) (l:List B6):B6:=l.foldl apv b
theorem aAJ {a:Nat} {y:Int}:∀ {l:List B6} {b:B6},y<=lo (apg b l) a↔y<=lo b a/\∀ c∈l,y<=lo c a
 | [],b=>by simp [apg]
 | c :: l,b=>by
  have ih:=aAJ (a:=a) (y:=y) (l:=l) (b:=apv b c)
  unfold apg at ih ⊢
  rw [List.foldl_cons,ih,aFJ,Int.le_min,List.forall_mem_cons,and_assoc]
theorem aAK {a:Nat} {y:Int}:∀ {l:List B6} {b:B6},hi (apg b l) a<=y↔hi b a<=y/\∀ c∈l,hi c a<=y
 | [],b=>by simp [apg]
 | c :: l,b=>by
  have ih:=aAK (a:=a) (y:=y) (l:=l) (b:=apv b c)
  unfold apg at ih ⊢
  rw [List.foldl_cons,ih,aFK,Int.max_le,List.forall_mem_cons,and_assoc]
def aoZ (f:LL->B6):List LL->B6
 | []=>(0,0,0,0,0,0,())
 | L :: l=>apg (f L) (l.map f)
theorem aGO {f:LL->B6} {a:Nat} {y:Int} {l:List LL} (h:l≠[]):y<=lo (aoZ f l) a↔∀ L∈l,y<=lo (f L) a:=by
 cases l with
 | nil=>exact absurd rfl h
 | cons L l=>unfold aoZ; rw [aAJ,List.forall_mem_cons,List.forall_mem_map]
theorem aGP {f:LL->B6} {a:Nat} {y:Int} {l:List LL} (h:l≠[]):hi (aoZ f l) a<=y↔∀ L∈l,hi (f L) a<=y:=by
 cases l with
 | nil=>exact absurd rfl h
 | cons L l=>unfold aoZ; rw [aAK,List.forall_mem_cons,List.forall_mem_map]
def ach (s:PS) (t i:Nat):B6:=aoZ (fun L=>pos s L t i) (links s)
theorem aAC {t i a:Nat} {y:Int} (h:links s≠[]):y<=lo (ach s t i) a↔∀ L∈links s,y<=lo (pos s L t i) a:=aGO h
theorem aAD {t i a:Nat} {y:Int} (h:links s≠[]):hi (ach s t i) a<=y↔∀ L∈links s,hi (pos s L t i) a<=y:=aGP h
end Go.Low

/-
 Of the plain law.
-/
import Derived.Test.YtadkaccpacpklaaGreatL3ZP0
set_option linter.unusedVariables false
set_option linter.unusedSimpArgs false
namespace Go.Low
open Go.Dm (fB kD jg)
variable {s:PS} {L:LL}
def nx (s:PS) (L:LL) (t i:Nat):Option Nat:=fB (fun j=>decide ((i:Int)=qR L (t + 1) j)) (s.k (t + 1))
theorem aqc {t i j:Nat} (h:nx s L t i=some j):j < s.k (t + 1)/\qR L (t + 1) j=(i:Int):=by
 obtain ⟨h1,h2,_⟩:=kD h
 exact ⟨h1,(of_decide_eq_true h2).symm⟩
theorem aXi {t i:Nat} (h:nx s L t i=none) {j:Nat} (hj:j < s.k (t + 1)):qR L (t + 1) j≠(i:Int):=fun e=>by
 have:=jg h j hj
 rw [e] at this
 simp at this
def des (s:PS) (L:LL):Nat->Nat->Nat->List (Nat×Nat)
 | 0,t,i=>[(t,i)]
 | m + 1,t,i=>(t,i) :: match nx s L t i with | some j=>des s L m (t + 1) j | none=>[]
def fut (s:PS) (L:LL):Nat->Nat->Nat->B6
 | 0,t,i=>s.box t i
 | m + 1,t,i=>match nx s L t i with | some j=>inter (s.box t i) (wide s (fut s L m (t + 1) j) (s.tm (t + 1) - s.tm t)) | none=>s.box t i
theorem atS (L:LL) (a:Nat):∀ (m t i:Nat) (x:Int),lo (fut s L m t i) a<=x↔∀ p∈des s L m t i,lo (s.box p.1 p.2) a - dV s a * (s.tm p.1 - s.tm t)<=x
 | 0,t,i,x=>by simp [fut,des]
 | m + 1,t,i,x=>by
  simp only [fut,des,List.forall_mem_cons,Int.sub_self,Int.mul_zero,Int.sub_zero]
  cases nx s L t i with
  | none=>simp
  | some j =>
   have ih:=atS L a m (t + 1) j (x + dV s a * (s.tm (t + 1) - s.tm t))
   dsimp only
   rw [uR,AX,Int.max_le]
   refine and_congr Iff.rfl ?_
   rw [show lo (fut s L m (t + 1) j) a - dV s a * (s.tm (t + 1) - s.tm t)<=x↔lo (fut s L m (t + 1) j) a<=x + dV s a * (s.tm (t + 1) - s.tm t) by omega,ih]
   refine forall_congr' fun p=>forall_congr' fun _=>?_
   have:dV s a * (s.tm p.1 - s.tm t)=dV s a * (s.tm p.1 - s.tm (t + 1)) + dV s a * (s.tm (t + 1) - s.tm t):=by rw [<- Int.mul_add]; congr 1; omega
   omega
theorem atT (L:LL) (a:Nat):∀ (m t i:Nat) (x:Int),x<=hi (fut s L m t i) a↔∀ p∈des s L m t i,x<=hi (s.box p.1 p.2) a + dV s a * (s.tm p.1 - s.tm t)
 | 0,t,i,x=>by simp [fut,des]
 | m + 1,t,i,x=>by
  simp only [fut,des,List.forall_mem_cons,Int.sub_self,Int.mul_zero,Int.add_zero]
  cases nx s L t i with
  | none=>simp
  | some j =>
   have ih:=atT L a m (t + 1) j (x - dV s a * (s.tm (t + 1) - s.tm t))
   dsimp only
   rw [uS,AY,Int.le_min]
   refine and_congr Iff.rfl ?_
   rw [show x<=hi (fut s L m (t + 1) j) a + dV s a * (s.tm (t + 1) - s.tm t)↔x - dV s a * (s.tm (t + 1) - s.tm t)<=hi (fut s L m (t + 1) j) a by omega,ih]
   refine forall_congr' fun p=>forall_congr' fun _=>?_
   have:dV s a * (s.tm p.1 - s.tm t)=dV s a * (s.tm p.1 - s.tm (t + 1)) + dV s a * (s.tm (t + 1) - s.tm t):=by rw [<- Int.mul_add]; congr 1; omega
   omega
theorem aix {p q:Nat×Nat}:∀ {t i:Nat},q∈uT L t i->p∈uT L q.1 q.2->p∈uT L t i
 | 0,i,hq,hp=>by simp [uT] at hq; subst hq; exact hp
 | t + 1,i,hq,hp=>by
  simp only [uT,List.mem_cons] at hq
  rcases hq with hq | hq
  ·subst hq; exact hp
  ·split at hq
   ·rename_i h0
    simp only [uT,List.mem_cons]
    rw [if_pos h0]
    exact .inr (aix hq hp)
   ·simp at hq
theorem azo:∀ {m t i:Nat} {p:Nat×Nat},p∈des s L m t i->t<=p.1/\p.1<=t + m
 | 0,t,i,p,h=>by simp [des] at h; subst h; exact ⟨Nat.le_refl _,Nat.le_refl _⟩
 | m + 1,t,i,p,h=>by
  simp only [des,List.mem_cons] at h
  rcases h with h | h
  ·subst h; exact ⟨Nat.le_refl _,Nat.le_add_right _ _⟩
  ·cases hn:nx s L t i with
   | none=>rw [hn] at h; simp at h
   | some j=>rw [hn] at h; have:=azo h; omega
theorem azp:∀ {m t i:Nat} {p:Nat×Nat},p∈des s L m t i->(t,i)∈uT L p.1 p.2
 | 0,t,i,p,h=>by simp [des] at h; subst h; exact aa4 L t i
 | m + 1,t,i,p,h=>by
  simp only [des,List.mem_cons] at h
  rcases h with h | h
  ·subst h; exact aa4 L t i
  ·cases hn:nx s L t i with
   | none=>rw [hn] at h; simp at h
   | some j =>
    rw [hn] at h
    have h1:=azp h
    refine aix h1 ?_
    simp only [uT,List.mem_cons]
    have:=(aqc hn).2
    rw [this,if_pos (by omega)]
    exact .inr (by simpa using aa4 L t i)
theorem atN (hi0:∀ t,t < s.N->True):∀ {m t i:Nat},t + m < s.N->i < s.k t->∀ p∈des s L m t i,p.1 < s.N/\p.2 < s.k p.1
 | 0,t,i,ht,hi',p,h=>by simp [des] at h; subst h; exact ⟨ht,hi'⟩
 | m + 1,t,i,ht,hi',p,h=>by
  simp only [des,List.mem_cons] at h
  rcases h with h | h
  ·subst h; exact ⟨by show t < s.N; omega,hi'⟩
  ·cases hn:nx s L t i with
   | none=>rw [hn] at h; simp at h
   | some j=>rw [hn] at h; exact atN hi0 (by omega) (aqc hn).1 p h
theorem aGM (h:wD s L) {m t i:Nat} (ht:t + m < s.N) (hi':i < s.k t) {p q:Nat×Nat} (hp:p∈uT L t i) (hq:q∈des s L m t i):tog s q p\/q=p:=by
 have h1:=aix (azp hq) hp
 have h2:=atN (fun _ _=>trivial) ht hi' q hq
 rw [aas,List.mem_cons] at h1
 rcases h1 with h1 | h1
 ·exact .inr h1.symm
 ·exact .inl (h.ch q.1 h2.1 q.2 h2.2 p h1)
theorem azm (hs:s.Ok) (h:wD s L):∀ {t i:Nat},t < s.N->i < s.k t->ne (can s L t i)
 | 0,i,ht,hi'=>fun a ha=>(hs.box 0 i ht hi' a ha).2.1
 | t + 1,i,ht,hi'=>by
  simp only [can]
  split
  ·rename_i h0
   rcases h.afg ht hi' with h1 | h1
   ·omega
   ·refine (LV hs ht hi' (azm hs h (by omega) h1.2.1)).2 fun p hp=>?_
    refine h.ch (t + 1) ht i hi' p ?_
    simp only [uT,List.tail_cons]
    rw [if_pos h0]; exact hp
  ·exact fun a ha=>(hs.box (t + 1) i ht hi' a ha).2.1
theorem aGN (hs:s.Ok) {m t i j:Nat} (ht:t + 1 < s.N) (hi':i < s.k t) (hne:ne (fut s L m (t + 1) j)) (h:∀ p∈des s L m (t + 1) j,tog s p (t,i)) :
  ne (inter (s.box t i) (wide s (fut s L m (t + 1) j) (s.tm (t + 1) - s.tm t))):=by
 have hr:=hs.dV
 have hh:0<=s.tm (t + 1) - s.tm t:=by have:=hs.tm t ht; omega
 intro a ha
 rw [uR,uS,AX,AY,Int.max_le,Int.le_min,Int.le_min]
 have hb:=hs.box t i (by omega) hi' a ha
 have hc:=hne a ha
 have hm:0<=dV s a * (s.tm (t + 1) - s.tm t):=Int.mul_nonneg (hr a) hh
 have e:∀ p:Nat×Nat,dV s a * (s.tm p.1 - s.tm t)=dV s a * (s.tm p.1 - s.tm (t + 1)) + dV s a * (s.tm (t + 1) - s.tm t):=fun p=>by rw [<- Int.mul_add]; congr 1; omega
 have h4:=(atT (s:=s) L a m (t + 1) j (lo (s.box t i) a - dV s a * (s.tm (t + 1) - s.tm t))).2 fun p hp=>by
  have:=(h p hp a ha).2
  have e:=e p
  have this:lo (s.box t i) a - hi (s.box p.1 p.2) a<=dV s a * (s.tm p.1 - s.tm t):=this
  omega
 have h5:=(atS (s:=s) L a m (t + 1) j (hi (s.box t i) a + dV s a * (s.tm (t + 1) - s.tm t))).2 fun p hp=>by
  have:=(h p hp a ha).1
  have e:=e p
  have this:lo (s.box p.1 p.2) a - hi (s.box t i) a<=dV s a * (s.tm p.1 - s.tm t):=this
  omega
 exact ⟨⟨hb.2.1,by omega⟩,by omega,by omega⟩
theorem azn (hs:s.Ok) (h:wD s L):∀ {m t i:Nat},t + m < s.N->i < s.k t->ne (fut s L m t i)
 | 0,t,i,ht,hi'=>fun a ha=>(hs.box t i ht hi' a ha).2.1
 | m + 1,t,i,ht,hi'=>by
  simp only [fut]
  cases hn:nx s L t i with
  | none=>exact fun a ha=>(hs.box t i (by omega) hi' a ha).2.1
  | some j =>
   have h1:=aqc hn
   dsimp only
   refine aGN hs (by omega) hi' (azn hs h (by omega) h1.1) fun p hp=>?_
   have h2:=atN (s:=s) (L:=L) (fun _ _=>trivial) (by omega) h1.1 p hp
   refine h.ch p.1 h2.1 p.2 h2.2 (t,i) ?_
   have h3:=azp hp
   have h4:(t,i)∈uT L p.1 p.2:=aix h3 (by
    simp only [uT,List.mem_cons]
    rw [h1.2,if_pos (by omega)]
    exact .inr (by simpa using aa4 L t i))
   rw [aas,List.mem_cons] at h4
   rcases h4 with h4 | h4
   ·have:=(azo hp).1
    have:t=p.1:=congrArg Prod.fst h4
    omega
   ·exact h4
def pos (s:PS) (L:LL) (t i:Nat):B6:=inter (can s L t i) (fut s L (s.N - 1 - t) t i)
def chain (s:PS) (L:LL) (t i:Nat):List (Nat×Nat):=uT L t i ++ des s L (s.N - 1 - t) t i
def dt (s:PS) (t u:Nat):Int:=if u<=t then s.tm t - s.tm u else s.tm u - s.tm t
theorem aFM {t u:Nat} (h:u<=t):dt s t u=s.tm t - s.tm u:=if_pos h
theorem aQF {t u:Nat} (h:t<=u):dt s t u=s.tm u - s.tm t:=by
 unfold dt
 split
 ·have:t=u:=by omega
  subst this; rfl
 ·rfl
theorem aEe (a:Nat) (x:Int) (t i:Nat):lo (pos s L t i) a<=x↔∀ p∈chain s L t i,lo (s.box p.1 p.2) a - dV s a * dt s t p.1<=x:=by
 unfold pos chain
 rw [uR,Int.max_le,Mi,atS,List.forall_mem_append]
 refine and_congr ?_ ?_
 ·exact forall_congr' fun p=>forall_congr' fun hp=>by rw [aFM (ahU hp)]
 ·exact forall_congr' fun p=>forall_congr' fun hp=>by rw [aQF (azo hp).1]
theorem aEf (a:Nat) (x:Int) (t i:Nat):x<=hi (pos s L t i) a↔∀ p∈chain s L t i,x<=hi (s.box p.1 p.2) a + dV s a * dt s t p.1:=by
 unfold pos chain
 rw [uS,Int.le_min,Mj,atT,List.forall_mem_append]
 refine and_congr ?_ ?_
 ·exact forall_congr' fun p=>forall_congr' fun hp=>by rw [aFM (ahU hp)]
 ·exact forall_congr' fun p=>forall_congr' fun hp=>by rw [aQF (azo hp).1]
theorem aTY (hs:s.Ok) (h:wD s L) {t i:Nat} (ht:t < s.N) (hi':i < s.k t):ne (pos s L t i):=by
 have h1:=azm hs h ht hi'
 have hm:t + (s.N - 1 - t) < s.N:=by omega
 have h2:=azn hs h hm hi'
 intro a ha
 unfold pos
 rw [uR,uS,Int.max_le,Int.le_min,Int.le_min]
 have key:∀ p∈uT L t i,∀ q∈des s L (s.N - 1 - t) t i,lo (s.box p.1 p.2) a - hi (s.box q.1 q.2) a<=dV s a * (s.tm t - s.tm p.1) + dV s a * (s.tm q.1 - s.tm t)/\lo (s.box q.1 q.2) a - hi (s.box p.1 p.2) a<=dV s a * (s.tm t - s.tm p.1) + dV s a * (s.tm q.1 - s.tm t):=by
  intro p hp q hq
  have hin:=atN (s:=s) (L:=L) (fun _ _=>trivial) hm hi' q hq
  have e:dV s a * (s.tm t - s.tm p.1) + dV s a * (s.tm q.1 - s.tm t)=dV s a * (s.tm q.1 - s.tm p.1):=by rw [<- Int.mul_add]; congr 1; omega
  rw [e]
  rcases aGM h hm hi' hp hq with h3 | h3
  ·have:=h3 a ha; exact ⟨this.2,this.1⟩
  ·subst h3
   have:=hs.box q.1 q.2 hin.1 hin.2 a ha
   rw [Int.sub_self,Int.mul_zero]
   omega
 refine ⟨⟨h1 a ha,?_⟩,?_,h2 a ha⟩
 ·refine (Mi L a _ t i).2 fun p hp=>?_
  have:=(atT (s:=s) L a (s.N - 1 - t) t i (lo (s.box p.1 p.2) a - dV s a * (s.tm t - s.tm p.1))).2 fun q hq=>by have:=(key p hp q hq).1; omega
  exact this
 ·refine (atS L a _ t i _).2 fun q hq=>?_
  have:=(Mj (s:=s) L a (lo (s.box q.1 q.2) a - dV s a * (s.tm q.1 - s.tm t)) t i).2 fun p hp=>by have:=(key p hp q hq).2; omega
  exact this
def apv (b c:B6):B6:=(min b.1 c.1,max b.2.1 c.2.1,min b.2.2.1 c.2.2.1,max b.2.2.2.1 c.2.2.2.1,min b.2.2.2.2.1 c.2.2.2.2.1,max b.2.2.2.2.2.1 c.2.2.2.2.2.1,())
theorem aFJ (b c:B6) (a:Nat):lo (apv b c) a=min (lo b a) (lo c a):=by unfold lo apv; split <;> rfl
theorem aFK (b c:B6) (a:Nat):hi (apv b c) a=max (hi b a) (hi c a):=by unfold hi apv; split <;> rfl
def apg (b:B6) (l:List B6):B6:=l.foldl apv b
theorem aAJ {a:Nat} {y:Int}:∀ {l:List B6} {b:B6},y<=lo (apg b l) a↔y<=lo b a/\∀ c∈l,y<=lo c a
 | [],b=>by simp [apg]
 | c :: l,b=>by
  have ih:=aAJ (a:=a) (y:=y) (l:=l) (b:=apv b c)
  unfold apg at ih ⊢
  rw [List.foldl_cons,ih,aFJ,Int.le_min,List.forall_mem_cons,and_assoc]
theorem aAK {a:Nat} {y:Int}:∀ {l:List B6} {b:B6},hi (apg b l) a<=y↔hi b a<=y/\∀ c∈l,hi c a<=y
 | [],b=>by simp [apg]
 | c :: l,b=>by
  have ih:=aAK (a:=a) (y:=y) (l:=l) (b:=apv b c)
  unfold apg at ih ⊢
  rw [List.foldl_cons,ih,aFK,Int.max_le,List.forall_mem_cons,and_assoc]
def aoZ (f:LL->B6):List LL->B6
 | []=>(0,0,0,0,0,0,())
 | L :: l=>apg (f L) (l.map f)
theorem aGO {f:LL->B6} {a:Nat} {y:Int} {l:List LL} (h:l≠[]):y<=lo (aoZ f l) a↔∀ L∈l,y<=lo (f L) a:=by
 cases l with
 | nil=>exact absurd rfl h
 | cons L l=>unfold aoZ; rw [aAJ,List.forall_mem_cons,List.forall_mem_map]
theorem aGP {f:LL->B6} {a:Nat} {y:Int} {l:List LL} (h:l≠[]):hi (aoZ f l) a<=y↔∀ L∈l,hi (f L) a<=y:=by
 cases l with
 | nil=>exact absurd rfl h
 | cons L l=>unfold aoZ; rw [aAK,List.forall_mem_cons,List.forall_mem_map]
def ach (s:PS) (t i:Nat):B6:=aoZ (fun L=>pos s L t i) (links s)
theorem aAC {t i a:Nat} {y:Int} (h:links s≠[]):y<=lo (ach s t i) a↔∀ L∈links s,y<=lo (pos s L t i) a:=aGO h
theorem aAD {t i a:Nat} {y:Int} (h:links s≠[]):hi (ach s t i) a<=y↔∀ L∈links s,hi (pos s L t i) a<=y:=aGP h
end Go.Low
namespace Go.Low
variable {s s':PS} {L:LL}
structure Sub (s s':PS):Prop where
 N:s.N=s'.N
 k:∀ t,t < s.N->s.k t=s'.k t
 tm:∀ t,t < s.N->s.tm t=s'.tm t
 dV:∀ a,dV s a<=dV s' a
 born:s.born<=s'.born
 gone:s.gone<=s'.gone
 box:∀ t i,t < s.N->i < s.k t->∀ a,a < 3->lo (s'.box t i) a<=lo (s.box t i) a/\hi (s.box t i) a<=hi (s'.box t i) a
theorem Sub.links (hx:Sub s s') (hs:s.Ok) (hs':s'.Ok) (h:L∈links s):L∈links s':=by
 have h:=(tX hs).1 h
 have hn:=hs.n1
 have hN:=hx.N
 refine (tX hs').2 ⟨h.len.trans hN,?_,fun t ht=>?_,by have:=h.born; have:=hx.born; omega,by have:=h.gone; have:=hx.gone; omega,fun t ht i hi p hp=>?_⟩
 ·rw [h.first]; unfold Go.Low.first; rw [hx.k 0 hn]
 ·have:=h.row t (by omega)
  rwa [hx.k t (by omega),hx.k (t + 1) (by omega)] at this
 ·have ht':t < s.N:=by omega
  have hi':i < s.k t:=by rw [hx.k t ht']; exact hi
  have Yw:p∈uT L t i:=List.mem_of_mem_tail hp
  have h1:=h.ch t ht' i hi' p hp
  have h2:=akX h ht' hi' p Yw
  have h3:=ahU Yw
  have h4:0<=s.tm t - s.tm p.1:=by have:=hs.afG h3 ht'; omega
  intro a ha
  have q1:=h1 a ha
  have q2:=hx.box t i ht' hi' a ha
  have q3:=hx.box p.1 p.2 h2.1 h2.2 a ha
  have q4:Go.Low.dV s a * (s.tm t - s.tm p.1)<=Go.Low.dV s' a * (s.tm t - s.tm p.1):=Int.mul_le_mul_of_nonneg_right (hx.dV a) h4
  dsimp only at q1 ⊢
  rw [<- hx.tm t ht',<- hx.tm p.1 h2.1]
  omega
theorem Sub.nx (hx:Sub s s') {t i:Nat} (ht:t + 1 < s.N):nx s L t i=nx s' L t i:=by
 unfold Go.Low.nx
 rw [hx.k _ ht]
theorem Sub.des (hx:Sub s s'):∀ {m t i:Nat},t + m < s.N->des s L m t i=des s' L m t i
 | 0,t,i,_=>rfl
 | m + 1,t,i,h=>by
  simp only [Go.Low.des]
  rw [hx.nx (by omega)]
  cases Go.Low.nx s' L t i with
  | none=>rfl
  | some j=>dsimp only; rw [hx.des (by omega)]
theorem Sub.chain (hx:Sub s s') {t i:Nat} (ht:t < s.N):chain s L t i=chain s' L t i:=by
 unfold Go.Low.chain
 rw [<- hx.N,hx.des (by omega)]
theorem aKq (h:wD s L) {t i:Nat} (ht:t < s.N) (hi:i < s.k t) {p:Nat×Nat} (hp:p∈chain s L t i):p.1 < s.N/\p.2 < s.k p.1:=by
 rcases List.mem_append.1 hp with hp | hp
 ·exact akX h ht hi p hp
 ·exact atN (fun _ _=>trivial) (by omega) hi p hp
theorem aWv (hs:s.Ok) {t u:Nat} (ht:t < s.N) (hu:u < s.N):0<=dt s t u:=by
 unfold dt
 split
 ·rename_i h; have:=hs.afG h ht; omega
 ·have:=hs.afG (t:=t) (t':=u) (by omega) hu; omega
theorem Sub.dt (hx:Sub s s') {t u:Nat} (ht:t < s.N) (hu:u < s.N):dt s t u=dt s' t u:=by
 unfold Go.Low.dt
 rw [hx.tm t ht,hx.tm u hu]
theorem Sub.pos (hx:Sub s s') (hs:s.Ok) (h:wD s L) {t i:Nat} (ht:t < s.N) (hi':i < s.k t) {a:Nat} (ha:a < 3):lo (pos s' L t i) a<=lo (pos s L t i) a/\hi (pos s L t i) a<=hi (pos s' L t i) a:=by
 have key:∀ p∈Go.Low.chain s L t i,Go.Low.dV s a * Go.Low.dt s t p.1<=Go.Low.dV s' a * Go.Low.dt s' t p.1/\lo (s'.box p.1 p.2) a<=lo (s.box p.1 p.2) a/\hi (s.box p.1 p.2) a<=hi (s'.box p.1 p.2) a:=fun p hp=>by
  have hin:=aKq h ht hi' hp
  rw [<- hx.dt ht hin.1]
  exact ⟨Int.mul_le_mul_of_nonneg_right (hx.dV a) (aWv hs ht hin.1),hx.box _ _ hin.1 hin.2 a ha⟩
 constructor
 ·refine (aEe a _ t i).2 fun p hp=>?_
  rw [<- hx.chain ht] at hp
  have h1:=(aEe (s:=s) (L:=L) a _ t i).1 (Int.le_refl _) p hp
  have:=key p hp
  omega
 ·refine (aEf a _ t i).2 fun p hp=>?_
  rw [<- hx.chain ht] at hp
  have h1:=(aEf (s:=s) (L:=L) a _ t i).1 (Int.le_refl _) p hp
  have:=key p hp
  omega
theorem Sub.where (hx:Sub s s') (hs:s.Ok) (hs':s'.Ok) (hne:Go.Low.links s≠[]) {t i:Nat} (ht:t < s.N) (hi':i < s.k t) {a:Nat} (ha:a < 3):lo (ach s' t i) a<=lo (ach s t i) a/\hi (ach s t i) a<=hi (ach s' t i) a:=by
 have at2:Go.Low.links s'≠[]:=by
  obtain ⟨L,hL⟩:=List.exists_mem_of_ne_nil _ hne
  exact List.ne_nil_of_mem (hx.links hs hs' hL)
 constructor
 ·refine (aAC hne).2 fun L hL=>?_
  have h1:=(aAC (t:=t) (i:=i) (a:=a) at2).1 (Int.le_refl _) L (hx.links hs hs' hL)
  have h2:=(hx.pos hs ((tX hs).1 hL) ht hi' ha).1
  omega
 ·refine (aAD hne).2 fun L hL=>?_
  have h1:=(aAD (t:=t) (i:=i) (a:=a) at2).1 (Int.le_refl _) L (hx.links hs hs' hL)
  have h2:=(hx.pos hs ((tX hs).1 hL) ht hi' ha).2
  omega
end Go.Low
namespace Go.Low
variable {s:PS} {L:LL}
structure Tru (s:PS) (L:LL) (X:Nat->Nat->Nat->Int):Prop where
 len:L.length=s.N
 first:L.getD 0 []=first s
 row:∀ t,t + 1 < s.N->Row (s.k t) (s.k (t + 1)) (L.getD (t + 1) [])
 born:(eP L:Int)<=s.born
 gone:(fc L:Int)<=s.gone
 inb:∀ t i,t < s.N->i < s.k t->∀ a,a < 3->lo (s.box t i) a<=X t i a/\X t i a<=hi (s.box t i) a
 near:∀ t i,t + 1 < s.N->i < s.k (t + 1)->0<=qR L (t + 1) i->∀ a,a < 3->X (t + 1) i a - X t (qR L (t + 1) i).toNat a<=dV s a * (s.tm (t + 1) - s.tm t)/\X t (qR L (t + 1) i).toNat a - X (t + 1) i a<=dV s a * (s.tm (t + 1) - s.tm t)
variable {X:Nat->Nat->Nat->Int}
theorem Tru.qR (h:Tru s L X) {t i:Nat} (ht:t + 1 < s.N) (hi:i < s.k (t + 1)):qR L (t + 1) i = -1\/(0<=qR L (t + 1) i/\(qR L (t + 1) i).toNat < s.k t):=by
 have hl:=(h.row t ht).1
 have hg:(L.getD (t + 1) [])[i]? = some (Low.qR L (t + 1) i):=by
  unfold Low.qR
  rw [List.getD_eq_getElem?_getD (l:=L.getD (t + 1) []),List.getElem?_eq_getElem (by omega)]
  rfl
 rcases (h.row t ht).2 i _ hg with h1 | ⟨h1,h2,h3⟩
 ·exact .inl h1
 ·exact .inr ⟨h1,h2⟩
theorem Tru.uT (h:Tru s L X):∀ {t i:Nat},t < s.N->i < s.k t->∀ p∈uT L t i,(p.1 < s.N/\p.2 < s.k p.1)/\∀ a,a < 3->X t i a - X p.1 p.2 a<=dV s a * (s.tm t - s.tm p.1)/\X p.1 p.2 a - X t i a<=dV s a * (s.tm t - s.tm p.1)
 | 0,i,ht,hi,p,hp=>by
  simp [Low.uT] at hp; subst hp
  refine ⟨⟨ht,hi⟩,fun a ha=>?_⟩
  simp only [Int.sub_self,Int.mul_zero]
  exact ⟨Int.le_refl _,Int.le_refl _⟩
 | t + 1,i,ht,hi,p,hp=>by
  simp only [Low.uT,List.mem_cons] at hp
  rcases hp with hp | hp
  ·subst hp
   refine ⟨⟨ht,hi⟩,fun a ha=>?_⟩
   simp only [Int.sub_self,Int.mul_zero]
   exact ⟨Int.le_refl _,Int.le_refl _⟩
  ·split at hp
   ·rename_i h0
    rcases h.qR ht hi with h1 | h1
    ·omega
    ·obtain ⟨q1,q2⟩:=h.uT (by omega) h1.2 p hp
     refine ⟨q1,fun a ha=>?_⟩
     have q3:=q2 a ha
     have q4:=h.near t i ht hi h0 a ha
     have:dV s a * (s.tm (t + 1) - s.tm p.1)=dV s a * (s.tm t - s.tm p.1) + dV s a * (s.tm (t + 1) - s.tm t):=by rw [<- Int.mul_add]; congr 1; omega
     omega
   ·simp at hp
theorem Tru.links (h:Tru s L X):wD s L:=
 ⟨h.len,h.first,h.row,h.born,h.gone,fun t ht i hi p hp a ha=>by
  have Yw:p∈Low.uT L t i:=List.mem_of_mem_tail hp
  obtain ⟨q1,q2⟩:=h.uT ht hi p Yw
  have q3:=q2 a ha
  have q4:=h.inb t i ht hi a ha
  have q5:=h.inb p.1 p.2 q1.1 q1.2 a ha
  dsimp only
  omega⟩
theorem Tru.pos (h:Tru s L X) {t i:Nat} (ht:t < s.N) (hi':i < s.k t) {a:Nat} (ha:a < 3):lo (pos s L t i) a<=X t i a/\X t i a<=hi (pos s L t i) a:=by
 have key:∀ p∈chain s L t i,(lo (s.box p.1 p.2) a<=X p.1 p.2 a/\X p.1 p.2 a<=hi (s.box p.1 p.2) a)/\X t i a - X p.1 p.2 a<=dV s a * dt s t p.1/\X p.1 p.2 a - X t i a<=dV s a * dt s t p.1:=fun p hp=>by
  rcases List.mem_append.1 hp with hp | hp
  ·obtain ⟨q1,q2⟩:=h.uT ht hi' p hp
   rw [aFM (ahU hp)]
   exact ⟨h.inb _ _ q1.1 q1.2 a ha,(q2 a ha).1,(q2 a ha).2⟩
  ·have q1:=atN (s:=s) (L:=L) (fun _ _=>trivial) (by omega) hi' p hp
   have q2:=(h.uT q1.1 q1.2 (t,i) (azp hp)).2 a ha
   rw [aQF (azo hp).1]
   exact ⟨h.inb _ _ q1.1 q1.2 a ha,q2.2,q2.1⟩
 constructor
 ·exact (aEe a _ t i).2 fun p hp=>by have:=key p hp; omega
 ·exact (aEf a _ t i).2 fun p hp=>by have:=key p hp; omega
theorem Tru.where (hs:s.Ok) (h:Tru s L X) {t i:Nat} (ht:t < s.N) (hi':i < s.k t) {a:Nat} (ha:a < 3):lo (ach s t i) a<=X t i a/\X t i a<=hi (ach s t i) a:=by
 have hL:=(tX hs).2 h.links
 have hne:=List.ne_nil_of_mem hL
 have h1:=(aAC (t:=t) (i:=i) (a:=a) hne).1 (Int.le_refl _) L hL
 have h2:=(aAD (t:=t) (i:=i) (a:=a) hne).1 (Int.le_refl _) L hL
 have h3:=h.pos ht hi' ha
 omega
end Go.Low
namespace Go.Low
def aeA:List Int->List Int->Int
 | [],[]=>0
 | [],_ :: _=>-1
 | _ :: _,[]=>1
 | a :: ab2,b :: abV=>if a < b then -1 else if b < a then 1 else aeA ab2 abV
def llt (a b:List Int):Prop:=aeA a b = -1
theorem alS:∀ a b:List Int,aeA a b = -1\/aeA a b=0\/aeA a b=1
 | [],[]=>.inr (.inl rfl)
 | [],_ :: _=>.inl rfl
 | _ :: _,[]=>.inr (.inr rfl)
 | a :: ab2,b :: abV=>by
  unfold aeA
  split
  ·exact .inl rfl
  ·split
   ·exact .inr (.inr rfl)
   ·exact alS ab2 abV
theorem am2:∀ {a b:List Int},aeA a b=0->a=b
 | [],[],_=>rfl
 | [],_ :: _,h=>by simp [aeA] at h
 | _ :: _,[],h=>by simp [aeA] at h
 | a :: ab2,b :: abV,h=>by
  unfold aeA at h
  split at h
  ·omega
  ·split at h
   ·omega
   ·have:=am2 h
    have:a=b:=by omega
    subst this; congr
theorem ao6:∀ a:List Int,aeA a a=0
 | []=>rfl
 | a :: ab2=>by
  unfold aeA
  rw [if_neg (by omega),if_neg (by omega)]; exact ao6 ab2
theorem aik:∀ a b:List Int,aeA b a = -aeA a b
 | [],[]=>rfl
 | [],_ :: _=>rfl
 | _ :: _,[]=>rfl
 | a :: ab2,b :: abV=>by
  have ih:=aik ab2 abV
  unfold aeA
  by_cases h1:a < b
  ·rw [if_neg (by omega),if_pos h1,if_pos h1]; rfl
  ·by_cases h2:b < a
   ·rw [if_pos h2,if_neg h1,if_pos h2]
   ·rw [if_neg h2,if_neg h1,if_neg h1,if_neg h2]; exact ih
theorem aip:∀ {a b c:List Int},llt a b->llt b c->llt a c
 | [],b,[],h1,h2=>by
  cases b with
  | nil=>exact h1
  | cons x b=>simp [llt,aeA] at h2
 | [],_,_ :: _,_,_=>rfl
 | x :: a,[],_,h1,_=>by simp [llt,aeA] at h1
 | x :: a,y :: b,[],_,h2=>by simp [llt,aeA] at h2
 | x :: a,y :: b,z :: c,h1,h2=>by
  unfold llt aeA at h1 h2 ⊢
  by_cases p1:x < y
  ·by_cases p2:y < z
   ·rw [if_pos (by omega)]
   ·rw [if_neg p2] at h2
    by_cases p3:z < y
    ·rw [if_pos p3] at h2; omega
    ·rw [if_pos (by omega)]
  ·rw [if_neg p1] at h1
   by_cases q1:y < x
   ·rw [if_pos q1] at h1; omega
   ·rw [if_neg q1] at h1
    by_cases p2:y < z
    ·rw [if_pos (by omega)]
    ·rw [if_neg p2] at h2
     by_cases p3:z < y
     ·rw [if_pos p3] at h2; omega
     ·rw [if_neg p3] at h2
      rw [if_neg (by omega),if_neg (by omega)]
      exact aip (a:=a) (b:=b) (c:=c) h1 h2
theorem ajd {a:List Int} (h:llt a a):False:=by unfold llt at h; rw [ao6] at h; omega
theorem az5 {a b:List Int} (h1:llt a b) (h2:llt b a):False:=ajd (aip h1 h2)
theorem asZ {a b:List Int} (h1:¬ llt a b) (h2:¬ llt b a):a=b:=by
 rcases alS a b with h | h | h
 ·exact absurd h h1
 ·exact am2 h
 ·exact absurd (show aeA b a = -1 by rw [aik,h]) h2
theorem apb:∀ {l m:LL},l.Pairwise llt->m.Pairwise llt->(∀ x,x∈l↔x∈m)->l=m
 | [],[],_,_,_=>rfl
 | [],b :: m,_,_,h=>by have:=(h b).2 (.head _); cases this
 | a :: l,[],_,_,h=>by have:=(h a).1 (.head _); cases this
 | a :: l,b :: m,h1,h2,h=>by
  rw [List.pairwise_cons] at h1 h2
  have e:a=b:=by
   rcases List.mem_cons.1 ((h a).1 (.head _)) with e | e
   ·exact e
   ·rcases List.mem_cons.1 ((h b).2 (.head _)) with e' | e'
    ·exact e'.symm
    ·exact (az5 (h2.1 a e) (h1.1 b e')).elim
  subst e
  rw [apb h1.2 h2.2 fun x=>?_]
  constructor
  ·intro hx
   rcases List.mem_cons.1 ((h x).1 (.tail _ hx)) with e | e
   ·subst e; exact (ajd (h1.1 _ hx)).elim
   ·exact e
  ·intro hx
   rcases List.mem_cons.1 ((h x).2 (.tail _ hx)) with e | e
   ·subst e; exact (ajd (h2.1 _ hx)).elim
   ·exact e
def ae1 (y:Nat->List Int) (n:Nat):List Nat:=(List.range n).filter fun j=>decide (j=0) || !decide (y j=y (j - 1))
theorem as0 {y:Nat->List Int}:∀ {n:Nat},(∀ i j,i<=j->j < n->¬ llt (y j) (y i))->((ae1 y n).map y).Pairwise llt/\(∀ j,j < n->y j∈(ae1 y n).map y)/\(∀ x∈(ae1 y n).map y,∃ j,j < n/\x=y j)
 | 0,_=>⟨.nil,fun j hj=>by omega,fun x hx=>by simp [ae1] at hx⟩
 | n + 1,h=>by
  obtain ⟨h1,h2,h3⟩:=as0 (n:=n) fun i j hij hj=>h i j hij (by omega)
  have e:ae1 y (n + 1)=ae1 y n ++ (if (decide (n=0) || !decide (y n=y (n - 1)))=true then [n] else []):=by
   unfold ae1
   rw [List.range_succ,List.filter_append]
   congr 1
   rw [List.filter_cons,List.filter_nil]
  rw [e]
  split
  ·rename_i hk
   rw [List.map_append]
   refine ⟨List.pairwise_append.2 ⟨h1,List.pairwise_singleton _ _,fun a ha b hb=>?_⟩,fun j hj=>?_,fun x hx=>?_⟩
   ·simp only [List.map_cons,List.map_nil,List.mem_singleton] at hb
    subst hb
    obtain ⟨j,hj,rfl⟩:=h3 a ha
    have hn0:¬ n=0:=by omega
    rw [decide_eq_false hn0,Bool.false_or,Bool.not_eq_true',decide_eq_false_iff_not] at hk
    have q1:=h j (n - 1) (by omega) (by omega)
    have q2:=h (n - 1) n (by omega) (by omega)
    have q3:llt (y (n - 1)) (y n):=by
     rcases alS (y (n - 1)) (y n) with q | q | q
     ·exact q
     ·exact absurd (am2 q).symm hk
     ·exact absurd (show aeA (y n) (y (n - 1)) = -1 by rw [aik,q]) q2
    by_cases q4:llt (y j) (y (n - 1))
    ·exact aip q4 q3
    ·rw [asZ q4 q1]; exact q3
   ·by_cases ej:j=n
    ·subst ej; exact List.mem_append_right _ (by simp)
    ·exact List.mem_append_left _ (h2 j (by omega))
   ·rcases List.mem_append.1 hx with hx | hx
    ·obtain ⟨j,hj,q⟩:=h3 x hx; exact ⟨j,by omega,q⟩
    ·simp only [List.map_cons,List.map_nil,List.mem_singleton] at hx
     exact ⟨n,by omega,hx⟩
  ·rename_i hk
   rw [List.append_nil]
   refine ⟨h1,fun j hj=>?_,fun x hx=>by obtain ⟨j,hj,q⟩:=h3 x hx; exact ⟨j,by omega,q⟩⟩
   by_cases ej:j=n
   ·subst ej
    simp only [Bool.not_eq_true,Bool.or_eq_false_iff,decide_eq_false_iff_not,Bool.not_eq_false',decide_eq_true_eq] at hk
    rw [hk.2]
    exact h2 _ (by omega)
   ·exact h2 j (by omega)
def acT (s:PS) (L:LL) (m t i:Nat):List Int:=(des s L m t i).map fun p=>((p.2:Nat):Int)
end Go.Low
namespace Go.Low
variable {s:PS} {L:LL}
def nar (s:PS) (t:Nat) (b:B6) (p:Nat×Nat):B6:=inter b (wide s (s.box p.1 p.2) (dt s t p.1))
theorem aqQ (t a:Nat) (x:Int):∀ (l:List (Nat×Nat)) (b:B6),lo (l.foldl (nar s t) b) a<=x↔lo b a<=x/\∀ p∈l,lo (s.box p.1 p.2) a - dV s a * dt s t p.1<=x
 | [],b=>by simp
 | p :: l,b=>by
  rw [List.foldl_cons,aqQ t a x l,List.forall_mem_cons]
  unfold nar
  rw [uR,AX,Int.max_le,and_assoc]
theorem asp (t a:Nat) (x:Int):∀ (l:List (Nat×Nat)) (b:B6),x<=hi (l.foldl (nar s t) b) a↔x<=hi b a/\∀ p∈l,x<=hi (s.box p.1 p.2) a + dV s a * dt s t p.1
 | [],b=>by simp
 | p :: l,b=>by
  rw [List.foldl_cons,asp t a x l,List.forall_mem_cons]
  unfold nar
  rw [uS,AY,Int.le_min,and_assoc]
theorem apI (m t i:Nat):des s L m t i=(t,i) :: (des s L m t i).tail:=by cases m <;> simp [des]
def awC (s:PS) (L:LL) (t i:Nat):B6:=((des s L (s.N - 1 - t) t i).tail).foldl (nar s t) (((uT L t i).tail).foldl (nar s t) (s.box t i))
theorem aOf (t i:Nat):awC s L t i=pos s L t i:=by
 have e0:dt s t t=0:=by rw [aFM (Nat.le_refl _),Int.sub_self]
 have hl:∀ a x,lo (awC s L t i) a<=x↔lo (pos s L t i) a<=x:=fun a x=>by
  unfold awC
  rw [aqQ,aqQ,aEe]
  unfold chain
  rw [List.forall_mem_append,aas,apI,List.forall_mem_cons,List.forall_mem_cons]
  simp only [List.tail_cons,e0,Int.mul_zero,Int.sub_zero]
  constructor
  ·rintro ⟨⟨h1,h2⟩,h3⟩; exact ⟨⟨h1,h2⟩,h1,h3⟩
  ·rintro ⟨⟨h1,h2⟩,_,h3⟩; exact ⟨⟨h1,h2⟩,h3⟩
 have hh:∀ a x,x<=hi (awC s L t i) a↔x<=hi (pos s L t i) a:=fun a x=>by
  unfold awC
  rw [asp,asp,aEf]
  unfold chain
  rw [List.forall_mem_append,aas,apI,List.forall_mem_cons,List.forall_mem_cons]
  simp only [List.tail_cons,e0,Int.mul_zero,Int.add_zero]
  constructor
  ·rintro ⟨⟨h1,h2⟩,h3⟩; exact ⟨⟨h1,h2⟩,h1,h3⟩
  ·rintro ⟨⟨h1,h2⟩,_,h3⟩; exact ⟨⟨h1,h2⟩,h3⟩
 refine B6.ext (fun a _=>?_) fun a _=>?_
 ·exact Int.le_antisymm ((hl a _).2 (Int.le_refl _)) ((hl a _).1 (Int.le_refl _))
 ·exact Int.le_antisymm ((hh a _).1 (Int.le_refl _)) ((hh a _).2 (Int.le_refl _))
def kOf (p:List Int):LL->Nat
 | []=>0
 | x :: l=>bif decide (aeA x p = -1) then kOf p l + 1 else 0
def aod (l:LL) (p:List Int):LL:=bif decide (l[kOf p l]? = some p) then l else l.take (kOf p l) ++ p :: l.drop (kOf p l)
theorem awR (x:List Int) (l:LL) (p:List Int):kOf p (x :: l)=bif decide (aeA x p = -1) then kOf p l + 1 else 0:=rfl
theorem apR (p:List Int):aod [] p=[p]:=rfl
theorem aoo (x:List Int) (l:LL) (p:List Int):aod (x :: l) p=bif decide (aeA x p = -1) then x :: aod l p else bif decide (x=p) then x :: l else p :: x :: l:=by
 unfold aod
 rw [awR]
 cases decide (aeA x p = -1) with
 | true =>
  simp only [cond_true,List.getElem?_cons_succ,List.take_succ_cons,List.drop_succ_cons,List.cons_append]
  cases decide (l[kOf p l]? = some p) <;> rfl
 | false =>
  simp only [cond_false,List.getElem?_cons_zero,List.take_zero,List.drop_zero,List.nil_append,Option.some.injEq]
theorem am5:∀ {l:LL} {p x:List Int},x∈aod l p↔x=p\/x∈l
 | [],p,x=>by rw [apR]; simp
 | y :: l,p,x=>by
  rw [aoo]
  by_cases c:aeA y p = -1
  ·rw [decide_eq_true c,cond_true,List.mem_cons,am5,List.mem_cons]
   constructor
   ·rintro (h | h | h) <;> simp [h]
   ·rintro (h | h | h) <;> simp [h]
  ·rw [decide_eq_false c,cond_false]
   by_cases e:y=p
   ·rw [decide_eq_true e,cond_true,e]; simp
   ·rw [decide_eq_false e,cond_false]; simp
theorem amN:∀ {l:LL} {p:List Int},l.Pairwise llt->(aod l p).Pairwise llt
 | [],p,_=>by rw [apR]; simp
 | y :: l,p,h=>by
  rw [aoo]
  rw [List.pairwise_cons] at h
  by_cases c:aeA y p = -1
  ·rw [decide_eq_true c,cond_true,List.pairwise_cons]
   refine ⟨fun x hx=>?_,amN h.2⟩
   rcases am5.1 hx with e | hx
   ·rw [e]; exact c
   ·exact h.1 x hx
  ·rw [decide_eq_false c,cond_false]
   by_cases e:y=p
   ·rw [decide_eq_true e,cond_true,List.pairwise_cons]; exact h
   ·rw [decide_eq_false e,cond_false,List.pairwise_cons,List.pairwise_cons]
    have hp:llt p y:=Classical.byContradiction fun q=>e (asZ c q)
    refine ⟨fun x hx=>?_,h⟩
    rcases List.mem_cons.1 hx with e | hx
    ·rw [e]; exact hp
    ·exact aip hp (h.1 x hx)
def aLT (l:LL):LL:=l.foldl aod []
theorem awT:∀ (l:LL) {o:LL},o.Pairwise llt->(l.foldl aod o).Pairwise llt/\∀ x,x∈l.foldl aod o↔x∈o\/x∈l
 | [],o,h=>⟨h,fun x=>by simp⟩
 | p :: l,o,h=>by
  obtain ⟨h1,h2⟩:=awT l (o:=aod o p) (amN h)
  refine ⟨h1,fun x=>?_⟩
  rw [List.foldl_cons,h2,am5,List.mem_cons]
  constructor
  ·rintro ((h | h) | h) <;> simp [h]
  ·rintro (h | h | h) <;> simp [h]
theorem aOg {l m:LL} (h:m.Pairwise llt) (hm:∀ x,x∈m↔x∈l):aLT l=m:=
 apb (awT l .nil).1 h fun x=>by rw [aLT,(awT l .nil).2,hm]; simp
end Go.Low
namespace Go.Dm
set_option maxRecDepth 100000
open Go.Low
def pN (s:tS.den):Int:=s.2.1
def zn (s:tS.den):Int:=s.2.2.1
def OC (s:tS.den):Int:=s.2.2.2.1
def Sa (s:tS.den):Int:=s.2.2.2.2.1
def mT (s:tS.den) (t:Nat):Int:=(s.1.g t).1
def cB (s:tS.den):PS:=⟨s.1.n,mT s,fun t=>(s.1.g t).2.1.n,fun t i=>(s.1.g t).2.1.g i,pN s,zn s,OC s,Sa s⟩
def dx (s:tS.den):tKo.den:=(s.1,(s.2.1,(s.2.2.1,(s.2.2.2.1,(s.2.2.2.2.1,((),()))))))
theorem GU (a b:Int):mx a b=max a b:=by
 unfold mx
 split <;> omega
theorem LI (a b:Int):mn a b=min a b:=by
 unfold mn
 split <;> omega
theorem aEH {s:tS.den} {t i:Nat} (ht:t < s.1.n) (hi:i < (s.1.g t).2.1.n):OM (no_index (dx s,((t:Int),((i:Int),()))))=some ((s.1.g t).2.1.g i,()):=by
 unfold OM Q62
 refine (aq (decide_eq_true (aQ ht))).trans ?_
 refine (aq (decide_eq_true (aQ hi))).trans ?_
 rfl
theorem acf {x y:Int} (hx:0<=x/\x<=99999) (hy:0<=y/\y<=200000):W (x - y)=x - y:=gQ ⟨by omega,by omega⟩
theorem akd {x y:Int} (hx:0<=x/\x<=99999) (hy:0<=y/\y<=200000):W (x + y)=x + y:=gQ ⟨by omega,by omega⟩
theorem MG {p h:Int} (h1:0<=p/\p<=1000) (h2:0<=h/\h<=200):W (p * h)=p * h/\0<=p * h/\p * h<=200000:=by
 have a1:0<=p * h:=Int.mul_nonneg h1.1 h2.1
 have a2:p * h<=1000 * 200:=Int.mul_le_mul h1.2 h2.2 h2.1 (by omega)
 exact ⟨gQ ⟨by omega,by omega⟩,a1,by omega⟩
theorem wo {t n:Nat} (hn:n<=1000) (ht:t + 1 < n):W (((t + 1:Nat):Int) - 1)=(t:Int):=by rw [gQ ⟨by omega,by omega⟩]; omega
theorem aBX {s:tS.den} (hs:(cB s).Ok) {t:Nat} (ht:t + 1 < s.1.n):M86 (no_index (dx s,(((t + 1:Nat):Int),())))=some (mT s (t + 1) - mT s t,()):=by
 unfold M86 Q86
 have hn:s.1.n<=4:=hs.n4
 have e3:=wo (n:=s.1.n) (by omega) ht
 have h1:0<=mT s (t + 1)/\mT s (t + 1)<=200:=hs.Xp (t + 1) ht
 have h2:0<=mT s t/\mT s t<=200:=hs.Xp t (Nat.lt_of_succ_lt ht)
 refine (aq (decide_eq_true (aQ ht))).trans ?_
 have e4:∀ {α:Type} (x y:α),(bif decide ((0:Int)<=W (((t + 1:Nat):Int) - 1)/\W (((t + 1:Nat):Int) - 1) < (s.1.n:Int)) then x else y)=x:=fun x y=>by rw [e3]; exact aq (decide_eq_true (aQ (Nat.lt_of_succ_lt ht)))
 refine (e4 _ _).trans ?_
 show some (W (mT s (t + 1) - mT s (Int.toNat (W (((t + 1:Nat):Int) - 1)))),())=_
 rw [e3]
 show some (W (mT s (t + 1) - mT s t),())=_
 rw [acf ⟨by omega,by omega⟩ ⟨by omega,by omega⟩]
def vL (b:B6):Prop:=∀ a,a < 3->0<=lo b a/\lo b a<=99999/\0<=hi b a/\hi b a<=99999
theorem baJ {s:tS.den} (hs:(cB s).Ok) {h:Int} (h0:0<=h) (h1:h<=200):M79 (no_index (dx s,(h,())))=some ((pN s * h,(pN s * h,(zn s * h,()))),()):=by
 have q1:0<=pN s/\pN s<=50:=hs.sp
 have q2:0<=zn s/\zn s<=1000:=hs.dp
 show some ((W (pN s * h),(W (pN s * h),(W (zn s * h),()))),())=_
 rw [(MG ⟨q1.1,by omega⟩ ⟨h0,h1⟩).1,(MG q2 ⟨h0,h1⟩).1]
theorem aI3 {s:tS.den} (hs:(cB s).Ok) {b:B6} (hb:vL b) {h:Int} (h0:0<=h) (h1:h<=200):M51 (no_index (dx s,(b,(h,()))))=some (wide (cB s) b h,()):=by
 unfold M51 Q51
 have e:((dx s).1,((dx s).2.1,((dx s).2.2.1,((dx s).2.2.2.1,((dx s).2.2.2.2.1,((),()))))))=dx s:=rfl
 have q1:0<=pN s/\pN s<=50:=hs.sp
 have q2:0<=zn s/\zn s<=1000:=hs.dp
 obtain ⟨_,a1,a2⟩:=MG (p:=pN s) (h:=h) ⟨q1.1,by omega⟩ ⟨h0,h1⟩
 obtain ⟨_,b1,b2⟩:=MG (p:=zn s) (h:=h) q2 ⟨h0,h1⟩
 obtain ⟨c1,c2,c3,c4,c5,c6,⟨⟩⟩:=b
 have i0:=hb 0 (by omega)
 have i1:=hb 1 (by omega)
 have i2:=hb 2 (by omega)
 simp only [lo,hi] at i0 i1 i2
 refine (aK (baJ hs h0 h1)).trans ?_
 show some ((W (c1 - pN s * h),(W (c2 + pN s * h),(W (c3 - pN s * h),(W (c4 + pN s * h),(W (c5 - zn s * h),(W (c6 + zn s * h),())))))),())=_
 rw [acf ⟨i0.1,i0.2.1⟩ ⟨a1,a2⟩,akd i0.2.2 ⟨a1,a2⟩,acf ⟨i1.1,i1.2.1⟩ ⟨a1,a2⟩,akd i1.2.2 ⟨a1,a2⟩,acf ⟨i2.1,i2.2.1⟩ ⟨b1,b2⟩,akd i2.2.2 ⟨b1,b2⟩]
 rfl
def aV (r:Sl sR.den):List Int:=(List.range r.n).map fun i=>(r.g i).1
theorem iN (r:Sl sR.den):(aV r).length=r.n:=by simp [aV]
theorem gR {r:Sl sR.den} {i:Nat}:(aV r)[i]? = if i < r.n then some (r.g i).1 else none:=by
 unfold aV
 rw [List.getElem?_map]
 by_cases h:i < r.n
 ·rw [if_pos h,List.getElem?_range h]; rfl
 ·rw [if_neg h,List.getElem?_eq_none (by simpa using h)]; rfl
theorem aBW (r:Sl sR.den) (hr:r.n<=140737488355328) (x:Int):M84 (no_index (r,(x,())))=some ((match fB (fun j=>decide (x=(r.g j).1)) r.n with | some k=>(k:Int) | none=>-1),()):=by
 unfold M84 Q84
 have:TV (r,(x,(((r.n:Nat):Int),()))) ((0:Int),())=match fB (fun j=>decide (x=(r.g j).1)) r.n with | some k=>.ret ((k:Int),()) | none=>.exit 0 ():=by
  unfold TV
  refine kG (ps:=mu) (n:=r.n) (f:=fun j=>((j:Int),())) (qr:=fun k=>LQ.ret (wy:=Ef) (show (aa Ef.ret).den from ((k:Int),()))) (Mk hr) (fun j hj _=>?_) (fun _=>?_)
  ·unfold TU TT
   have e:Int.toNat (j:Int)=j:=rfl
   simp only [decide_eq_true (dW hj),decide_eq_true (aQ hj),e,dR hj hr,cond_true]
  ·unfold TU TT
   have:¬ ((r.n:Int) < (r.n:Int)):=by omega
   simp only [decide_eq_false this,cond_false]
 simp only [this]
 cases fB (fun j=>decide (x=(r.g j).1)) r.n <;> rfl
theorem aQv (r:Sl sR.den) (hr:r.n<=140737488355328) (x:Int):M65 (no_index (r,(x,())))=some (has (aV r) x,()):=by
 unfold M65 Q65
 simp only [aBW r hr,lK]
 congr 2
 rw [Bool.eq_iff_iff,zN,decide_eq_true_eq]
 cases h:fB (fun j=>decide (x=(r.g j).1)) r.n with
 | some k =>
  obtain ⟨h1,h2,_⟩:=kD h
  have h2:=of_decide_eq_true h2
  refine ⟨fun _=>⟨k,?_⟩,fun _=>by simp⟩
  rw [gR,if_pos h1,h2]
 | none =>
  have hn:=jg h
  refine ⟨fun h=>absurd h (by simp),fun ⟨i,hi⟩=>?_⟩
  rw [gR] at hi
  split at hi
  ·rename_i hlt
   have:=hn i hlt
   rw [decide_eq_false_iff_not] at this
   exact absurd (Option.some.inj hi).symm this
  ·cases hi
theorem baK (p1 p2 p3 p4 p5 p6 w1 w2 w3 w4 w5 w6:Int) :
  ∃ j:Int,RY ((),((),((⟨1,fun i=>List.getD [((w1,(w2,(w3,(w4,(w5,(w6,())))))):B6)] i (w1,(w2,(w3,(w4,(w5,(w6,()))))))⟩:Sl Py.den),(((1:Nat):Int),(((0:Int),((0:Int),((0:Int),((0:Int),((0:Int),((0:Int),())))))),()))))) ((0:Int),((p1,(p2,(p3,(p4,(p5,(p6,())))))),())) =
   bif decide (max p1 w1<=min p2 w2) && decide (max p3 w3<=min p4 w4) && decide (max p5 w5<=min p6 w6) then .exit 0 ((max p1 w1,(min p2 w2,(max p3 w3,(min p4 w4,(max p5 w5,(min p6 w6,())))))),()) else .cw 128 OA (j,()) ():=by
 unfold RY
 have s0:∀ v:(aa sj).den,v.1=1->Wo ((),((),((⟨1,fun i=>List.getD [((w1,(w2,(w3,(w4,(w5,(w6,())))))):B6)] i (w1,(w2,(w3,(w4,(w5,(w6,()))))))⟩:Sl Py.den),(((1:Nat):Int),(((0:Int),((0:Int),((0:Int),((0:Int),((0:Int),((0:Int),())))))),()))))) v = .out (.exit 0 (v.2.1,())):=fun v hv=>by
  unfold Wo Wn
  rw [hv]
  rfl
 have s1:Wo ((),((),((⟨1,fun i=>List.getD [((w1,(w2,(w3,(w4,(w5,(w6,())))))):B6)] i (w1,(w2,(w3,(w4,(w5,(w6,()))))))⟩:Sl Py.den),(((1:Nat):Int),(((0:Int),((0:Int),((0:Int),((0:Int),((0:Int),((0:Int),())))))),()))))) ((0:Int),((p1,(p2,(p3,(p4,(p5,(p6,())))))),())) =
   bif decide (mn p2 w2 < mx p1 w1) then .out (.cw 128 OA ((0:Int),()) ()) else bif decide (mn p4 w4 < mx p3 w3) then .out (.cw 128 OA ((1:Int),()) ()) else bif decide (mn p6 w6 < mx p5 w5) then .out (.cw 128 OA ((2:Int),()) ()) else .next ((1:Int),((mx p1 w1,(mn p2 w2,(mx p3 w3,(mn p4 w4,(mx p5 w5,(mn p6 w6,())))))),())):=rfl
 rw [GU,GU,GU,LI,LI,LI] at s1
 by_cases c1:min p2 w2 < max p1 w1
 ·refine ⟨0,?_⟩
  have d:¬ (max p1 w1<=min p2 w2):=by omega
  rw [decide_eq_true c1,cond_true] at s1
  rw [decide_eq_false d,Bool.false_and,Bool.false_and,cond_false]
  exact bQ (ps:=sj) 0 cz (fun _=>_) (by unfold cz; omega) (fun j hj=>by omega) s1
 by_cases c2:min p4 w4 < max p3 w3
 ·refine ⟨1,?_⟩
  have d:¬ (max p3 w3<=min p4 w4):=by omega
  rw [decide_eq_false c1,cond_false,decide_eq_true c2,cond_true] at s1
  rw [decide_eq_false d,Bool.and_false,Bool.false_and,cond_false]
  exact bQ (ps:=sj) 0 cz (fun _=>_) (by unfold cz; omega) (fun j hj=>by omega) s1
 by_cases c3:min p6 w6 < max p5 w5
 ·refine ⟨2,?_⟩
  have d:¬ (max p5 w5<=min p6 w6):=by omega
  rw [decide_eq_false c1,cond_false,decide_eq_false c2,cond_false,decide_eq_true c3,cond_true] at s1
  rw [decide_eq_false d,Bool.and_false,cond_false]
  exact bQ (ps:=sj) 0 cz (fun _=>_) (by unfold cz; omega) (fun j hj=>by omega) s1
 refine ⟨0,?_⟩
 have d1:max p1 w1<=min p2 w2:=by omega
 have d2:max p3 w3<=min p4 w4:=by omega
 have d3:max p5 w5<=min p6 w6:=by omega
 rw [decide_eq_false c1,cond_false,decide_eq_false c2,cond_false,decide_eq_false c3,cond_false] at s1
 rw [decide_eq_true d1,decide_eq_true d2,decide_eq_true d3]
 refine bQ (ps:=sj) 1 cz (fun j=>match j with | 0=>((0:Int),((p1,(p2,(p3,(p4,(p5,(p6,())))))),())) | _=>((1:Int),((max p1 w1,(min p2 w2,(max p3 w3,(min p4 w4,(max p5 w5,(min p6 w6,())))))),()))) (by unfold cz; omega) (fun j hj=>?_) ?_
 ·obtain rfl:j=0:=by omega
  exact s1
 ·exact s0 _ rfl
theorem baL (p w:B6):∃ j:Int,U71 (p,((⟨1,fun i=>List.getD [w] i w⟩:Sl Py.den),()))=bif UY (inter p w) then .ok (inter p w,()) () else .cw 128 OA (j,()) ():=by
 obtain ⟨p1,p2,p3,p4,p5,p6,⟨⟩⟩:=p
 obtain ⟨w1,w2,w3,w4,w5,w6,⟨⟩⟩:=w
 obtain ⟨j,hL⟩:=baK p1 p2 p3 p4 p5 p6 w1 w2 w3 w4 w5 w6
 refine ⟨j,?_⟩
 unfold U71 Q71
 refine (congrArg (fun o=>aF o 0 _ (qE o 128 OA _ _)) hL).trans ?_
 show _=bif decide (max p1 w1<=min p2 w2) && decide (max p3 w3<=min p4 w4) && decide (max p5 w5<=min p6 w6) then _ else _
 cases decide (max p1 w1<=min p2 w2) && decide (max p3 w3<=min p4 w4) && decide (max p5 w5<=min p6 w6) <;> rfl
theorem aQw {s:tS.den} (hs:(cB s).Ok) {t i:Nat} (ht:t + 1 < s.1.n) (hi':i < (s.1.g (t + 1)).2.1.n) {b:B6} (hb:vL b) :
  M66 (no_index (dx s,(((t + 1:Nat):Int),((i:Int),(b,())))))=some (bif UY (inter ((s.1.g (t + 1)).2.1.g i) (wide (cB s) b (mT s (t + 1) - mT s t))) then (inter ((s.1.g (t + 1)).2.1.g i) (wide (cB s) b (mT s (t + 1) - mT s t)),(true,())) else ((0,(0,(0,(0,(0,(0,())))))),(false,()))):=by
 unfold M66 Q66
 have h1:0<=mT s (t + 1)/\mT s (t + 1)<=200:=hs.Xp (t + 1) ht
 have h2:0<=mT s t/\mT s t<=200:=hs.Xp t (Nat.lt_of_succ_lt ht)
 have h3:mT s t < mT s (t + 1):=hs.tm t ht
 refine (aK (aEH ht hi')).trans ?_
 refine (aK (aBX hs ht)).trans ?_
 refine (aK (aI3 hs hb (h:=mT s (t + 1) - mT s t) (by omega) (by omega))).trans ?_
 obtain ⟨j,hU⟩:=baL ((s.1.g (t + 1)).2.1.g i) (wide (cB s) b (mT s (t + 1) - mT s t))
 refine (congrArg (fun o=>Dt o 128 OA _ (Xr o _ _)) hU).trans ?_
 cases UY (inter ((s.1.g (t + 1)).2.1.g i) (wide (cB s) b (mT s (t + 1) - mT s t))) <;> rfl
end Go.Dm

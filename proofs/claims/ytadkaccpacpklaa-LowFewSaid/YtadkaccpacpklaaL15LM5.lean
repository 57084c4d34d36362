/- Where a low lies: by all maps before, and by all maps after it. -/
import Derived.Test.YtadkaccpacpklaaL15LM4
import Derived.Test.YtadkaccpacpklaaL15LP0
set_option linter.unusedVariables false
set_option linter.unusedSimpArgs false
namespace Go.Low
open Go.Dm (fB kD jg)
variable {s:PS} {L:LL}
def nx (s:PS) (L:LL) (t i:Nat):Option Nat:=fB (fun j=>decide ((i:Int)=qR L (t + 1) j)) (s.k (t + 1))
theorem aqc {t i j:Nat} (h:nx s L t i=some j):j < s.k (t + 1)/\qR L (t + 1) j=(i:Int):=by
 obtain ⟨h1,h2,_⟩:=kD h
 exact ⟨h1,(of_decide_eq_true h2).symm⟩
def des (s:PS) (L:LL):Nat->Nat->Nat->List (Nat×Nat)
 | 0,t,i=>[(t,i)]
 | m + 1,t,i=>(t,i) :: match nx s L t i with | some j=>des s L m (t + 1) j | none=>[]
def fut (s:PS) (L:LL):Nat->Nat->Nat->B6
 | 0,t,i=>s.box t i
 | m + 1,t,i=>match nx s L t i with | some j=>inter (s.box t i) (wide s (fut s L m (t + 1) j) (s.tm (t + 1) - s.tm t)) | none=>s.box t i
theorem atS (L:LL) (a:Nat):∀ (m t i:Nat) (x:Int),lo (fut s L m t i) a<=x↔∀ p∈des s L m t i,lo (s.box p.1 p.2) a - dV s a * (s.tm p.1 - s.tm t)<=x
 | 0,t,i,x=>by simp [fut,des]
 | m + 1,t,i,x=>by
  simp only [fut,des,List.forall_mem_cons,Int.sub_self,Int.mul_zero,Int.sub_zero]
  cases nx s L t i with
  | none=>simp
  | some j =>
   have ih:=atS L a m (t + 1) j (x + dV s a * (s.tm (t + 1) - s.tm t))
   dsimp only
   rw [uR,AX,Int.max_le]
   refine and_congr Iff.rfl ?_
   rw [show lo (fut s L m (t + 1) j) a - dV s a * (s.tm (t + 1) - s.tm t)<=x↔lo (fut s L m (t + 1) j) a<=x + dV s a * (s.tm (t + 1) - s.tm t) by omega,ih]
   refine forall_congr' fun p=>forall_congr' fun _=>?_
   have:dV s a * (s.tm p.1 - s.tm t)=dV s a * (s.tm p.1 - s.tm (t + 1)) + dV s a * (s.tm (t + 1) - s.tm t):=by rw [<- Int.mul_add]; congr 1; omega
   omega
theorem atT (L:LL) (a:Nat):∀ (m t i:Nat) (x:Int),x<=hi (fut s L m t i) a↔∀ p∈des s L m t i,x<=hi (s.box p.1 p.2) a + dV s a * (s.tm p.1 - s.tm t)
 | 0,t,i,x=>by simp [fut,des]
 | m + 1,t,i,x=>by
  simp only [fut,des,List.forall_mem_cons,Int.sub_self,Int.mul_zero,Int.add_zero]
  cases nx s L t i with
  | none=>simp
  | some j =>
   have ih:=atT L a m (t + 1) j (x - dV s a * (s.tm (t + 1) - s.tm t))
   dsimp only
   rw [uS,AY,Int.le_min]
   refine and_congr Iff.rfl ?_
   rw [show x<=hi (fut s L m (t + 1) j) a + dV s a * (s.tm (t + 1) - s.tm t)↔x - dV s a * (s.tm (t + 1) - s.tm t)<=hi (fut s L m (t + 1) j) a by omega,ih]
   refine forall_congr' fun p=>forall_congr' fun _=>?_
   have:dV s a * (s.tm p.1 - s.tm t)=dV s a * (s.tm p.1 - s.tm (t + 1)) + dV s a * (s.tm (t + 1) - s.tm t):=by rw [<- Int.mul_add]; congr 1; omega
   omega
theorem aix {p q:Nat×Nat}:∀ {t i:Nat},q∈uT L t i->p∈uT L q.1 q.2->p∈uT L t i
 | 0,i,hq,hp=>by simp [uT] at hq; subst hq; exact hp
 | t + 1,i,hq,hp=>by
  simp only [uT,List.mem_cons] at hq
  rcases hq with hq | hq
  ·subst hq; exact hp
  ·split at hq
   ·rename_i h0
    simp only [uT,List.mem_cons]
    rw [if_pos h0]
    exact .inr (aix hq hp)
   ·simp at hq
theorem azo:∀ {m t i:Nat} {p:Nat×Nat},p∈des s L m t i->t<=p.1/\p.1<=t + m
 | 0,t,i,p,h=>by simp [des] at h; subst h; exact ⟨Nat.le_refl _,Nat.le_refl _⟩
 | m + 1,t,i,p,h=>by
  simp only [des,List.mem_cons] at h
  rcases h with h | h
  ·subst h; exact ⟨Nat.le_refl _,Nat.le_add_right _ _⟩
  ·cases hn:nx s L t i with
   | none=>rw [hn] at h; simp at h
   | some j=>rw [hn] at h; have:=azo h; omega
theorem azp:∀ {m t i:Nat} {p:Nat×Nat},p∈des s L m t i->(t,i)∈uT L p.1 p.2
 | 0,t,i,p,h=>by simp [des] at h; subst h; exact aa4 L t i
 | m + 1,t,i,p,h=>by
  simp only [des,List.mem_cons] at h
  rcases h with h | h
  ·subst h; exact aa4 L t i
  ·cases hn:nx s L t i with
   | none=>rw [hn] at h; simp at h
   | some j =>
    rw [hn] at h
    have h1:=azp h
    refine aix h1 ?_
    simp only [uT,List.mem_cons]
    have:=(aqc hn).2
    rw [this,if_pos (by omega)]
    exact .inr (by simpa using aa4 L t i)
theorem atN (hi0:∀ t,t < s.N->True):∀ {m t i:Nat},t + m < s.N->i < s.k t->∀ p∈des s L m t i,p.1 < s.N/\p.2 < s.k p.1
 | 0,t,i,ht,hi',p,h=>by simp [des] at h; subst h; exact ⟨ht,hi'⟩
 | m + 1,t,i,ht,hi',p,h=>by
  simp only [des,List.mem_cons] at h
  rcases h with h | h
  ·subst h; exact ⟨by show t < s.N; omega,hi'⟩
  ·cases hn:nx s L t i with
   | none=>rw [hn] at h; simp at h
   | some j=>rw [hn] at h; exact atN hi0 (by omega) (aqc hn).1 p h
def pos (s:PS) (L:LL) (t i:Nat):B6:=inter (can s L t i) (fut s L (s.N - 1 - t) t i)
def chain (s:PS) (L:LL) (t i:Nat):List (Nat×Nat):=uT L t i ++ des s L (s.N - 1 - t) t i
def dt (s:PS) (t u:Nat):Int:=if u<=t then s.tm t - s.tm u else s.tm u - s.tm t
theorem aFM {t u:Nat} (h:u<=t):dt s t u=s.tm t - s.tm u:=if_pos h
theorem aQF {t u:Nat} (h:t<=u):dt s t u=s.tm u - s.tm t:=by
 unfold dt
 split
 ·have:t=u:=by omega
  subst this; rfl
 ·rfl
theorem aEe (a:Nat) (x:Int) (t i:Nat):lo (pos s L t i) a<=x↔∀ p∈chain s L t i,lo (s.box p.1 p.2) a - dV s a * dt s t p.1<=x:=by
 unfold pos chain
 rw [uR,Int.max_le,Mi,atS,List.forall_mem_append]
 refine and_congr ?_ ?_
 ·exact forall_congr' fun p=>forall_congr' fun hp=>by rw [aFM (ahU hp)]
 ·exact forall_congr' fun p=>forall_congr' fun hp=>by rw [aQF (azo hp).1]
theorem aEf (a:Nat) (x:Int) (t i:Nat):x<=hi (pos s L t i) a↔∀ p∈chain s L t i,x<=hi (s.box p.1 p.2) a + dV s a * dt s t p.1:=by
 unfold pos chain
 rw [uS,Int.le_min,Mj,atT,List.forall_mem_append]
 refine and_congr ?_ ?_
 ·exact forall_congr' fun p=>forall_congr' fun hp=>by rw [aFM (ahU hp)]
 ·exact forall_congr' fun p=>forall_congr' fun hp=>by rw [aQF (azo hp).1]
def apv (b c:B6):B6:=(min b.1 c.1,max b.2.1 c.2.1,min b.2.2.1 c.2.2.1,max b.2.2.2.1 c.2.2.2.1,min b.2.2.2.2.1 c.2.2.2.2.1,max b.2.2.2.2.2.1 c.2.2.2.2.2.1,())
theorem aFJ (b c:B6) (a:Nat):lo (apv b c) a=min (lo b a) (lo c a):=by unfold lo apv; split <;> rfl
theorem aFK (b c:B6) (a:Nat):hi (apv b c) a=max (hi b a) (hi c a):=by unfold hi apv; split <;> rfl
def apg (b:B6) (l:List B6):B6:=l.foldl apv b
theorem aAJ {a:Nat} {y:Int}:∀ {l:List B6} {b:B6},y<=lo (apg b l) a↔y<=lo b a/\∀ c∈l,y<=lo c a
 | [],b=>by simp [apg]
 | c :: l,b=>by
  have ih:=aAJ (a:=a) (y:=y) (l:=l) (b:=apv b c)
  unfold apg at ih ⊢
  rw [List.foldl_cons,ih,aFJ,Int.le_min,List.forall_mem_cons,and_assoc]
theorem aAK {a:Nat} {y:Int}:∀ {l:List B6} {b:B6},hi (apg b l) a<=y↔hi b a<=y/\∀ c∈l,hi c a<=y
 | [],b=>by simp [apg]
 | c :: l,b=>by
  have ih:=aAK (a:=a) (y:=y) (l:=l) (b:=apv b c)
  unfold apg at ih ⊢
  rw [List.foldl_cons,ih,aFK,Int.max_le,List.forall_mem_cons,and_assoc]
def aoZ (f:LL->B6):List LL->B6
 | []=>(0,0,0,0,0,0,())
 | L :: l=>apg (f L) (l.map f)
theorem aGO {f:LL->B6} {a:Nat} {y:Int} {l:List LL} (h:l≠[]):y<=lo (aoZ f l) a↔∀ L∈l,y<=lo (f L) a:=by
 cases l with
 | nil=>exact absurd rfl h
 | cons L l=>unfold aoZ; rw [aAJ,List.forall_mem_cons,List.forall_mem_map]
theorem aGP {f:LL->B6} {a:Nat} {y:Int} {l:List LL} (h:l≠[]):hi (aoZ f l) a<=y↔∀ L∈l,hi (f L) a<=y:=by
 cases l with
 | nil=>exact absurd rfl h
 | cons L l=>unfold aoZ; rw [aAK,List.forall_mem_cons,List.forall_mem_map]
def ach (s:PS) (t i:Nat):B6:=aoZ (fun L=>pos s L t i) (links s)
theorem aAC {t i a:Nat} {y:Int} (h:links s≠[]):y<=lo (ach s t i) a↔∀ L∈links s,y<=lo (pos s L t i) a:=aGO h
theorem aAD {t i a:Nat} {y:Int} (h:links s≠[]):hi (ach s t i) a<=y↔∀ L∈links s,hi (pos s L t i) a<=y:=aGP h
end Go.Low

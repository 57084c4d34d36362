/- Truths: their links are links, and their lows lie within the bounds. -/
import Derived.Test.YtadkaccpacpklaaL10LM5
set_option linter.unusedVariables false
set_option linter.unusedSimpArgs false
namespace Go.Low
variable {s:PS} {L:LL}
structure Tru (s:PS) (L:LL) (X:Nat->Nat->Nat->Int):Prop where
 len:L.length=s.N
 first:L.getD 0 []=first s
 row:∀ t,t + 1 < s.N->Row (s.k t) (s.k (t + 1)) (L.getD (t + 1) [])
 born:(eP L:Int)<=s.born
 gone:(fc L:Int)<=s.gone
 inb:∀ t i,t < s.N->i < s.k t->∀ a,a < 3->lo (s.box t i) a<=X t i a/\X t i a<=hi (s.box t i) a
 near:∀ t i,t + 1 < s.N->i < s.k (t + 1)->0<=qR L (t + 1) i->∀ a,a < 3->X (t + 1) i a - X t (qR L (t + 1) i).toNat a<=dV s a * (s.tm (t + 1) - s.tm t)/\X t (qR L (t + 1) i).toNat a - X (t + 1) i a<=dV s a * (s.tm (t + 1) - s.tm t)
variable {X:Nat->Nat->Nat->Int}
theorem Tru.qR (h:Tru s L X) {t i:Nat} (ht:t + 1 < s.N) (hi:i < s.k (t + 1)):qR L (t + 1) i = -1\/(0<=qR L (t + 1) i/\(qR L (t + 1) i).toNat < s.k t):=by
 have hl:=(h.row t ht).1
 have hg:(L.getD (t + 1) [])[i]? = some (Low.qR L (t + 1) i):=by
  unfold Low.qR
  rw [List.getD_eq_getElem?_getD (l:=L.getD (t + 1) []),List.getElem?_eq_getElem (by omega)]
  rfl
 rcases (h.row t ht).2 i _ hg with h1 | ⟨h1,h2,h3⟩
 ·exact .inl h1
 ·exact .inr ⟨h1,h2⟩
theorem Tru.uT (h:Tru s L X):∀ {t i:Nat},t < s.N->i < s.k t->∀ p∈uT L t i,(p.1 < s.N/\p.2 < s.k p.1)/\∀ a,a < 3->X t i a - X p.1 p.2 a<=dV s a * (s.tm t - s.tm p.1)/\X p.1 p.2 a - X t i a<=dV s a * (s.tm t - s.tm p.1)
 | 0,i,ht,hi,p,hp=>by
  simp [Low.uT] at hp; subst hp
  refine ⟨⟨ht,hi⟩,fun a ha=>?_⟩
  simp only [Int.sub_self,Int.mul_zero]
  exact ⟨Int.le_refl _,Int.le_refl _⟩
 | t + 1,i,ht,hi,p,hp=>by
  simp only [Low.uT,List.mem_cons] at hp
  rcases hp with hp | hp
  ·subst hp
   refine ⟨⟨ht,hi⟩,fun a ha=>?_⟩
   simp only [Int.sub_self,Int.mul_zero]
   exact ⟨Int.le_refl _,Int.le_refl _⟩
  ·split at hp
   ·rename_i h0
    rcases h.qR ht hi with h1 | h1
    ·omega
    ·obtain ⟨q1,q2⟩:=h.uT (by omega) h1.2 p hp
     refine ⟨q1,fun a ha=>?_⟩
     have q3:=q2 a ha
     have q4:=h.near t i ht hi h0 a ha
     have:dV s a * (s.tm (t + 1) - s.tm p.1)=dV s a * (s.tm t - s.tm p.1) + dV s a * (s.tm (t + 1) - s.tm t):=by rw [<- Int.mul_add]; congr 1; omega
     omega
   ·simp at hp
theorem Tru.links (h:Tru s L X):wD s L:=
 ⟨h.len,h.first,h.row,h.born,h.gone,fun t ht i hi p hp a ha=>by
  have Yw:p∈Low.uT L t i:=List.mem_of_mem_tail hp
  obtain ⟨q1,q2⟩:=h.uT ht hi p Yw
  have q3:=q2 a ha
  have q4:=h.inb t i ht hi a ha
  have q5:=h.inb p.1 p.2 q1.1 q1.2 a ha
  dsimp only
  omega⟩
theorem Tru.pos (h:Tru s L X) {t i:Nat} (ht:t < s.N) (hi':i < s.k t) {a:Nat} (ha:a < 3):lo (pos s L t i) a<=X t i a/\X t i a<=hi (pos s L t i) a:=by
 have key:∀ p∈chain s L t i,(lo (s.box p.1 p.2) a<=X p.1 p.2 a/\X p.1 p.2 a<=hi (s.box p.1 p.2) a)/\X t i a - X p.1 p.2 a<=dV s a * dt s t p.1/\X p.1 p.2 a - X t i a<=dV s a * dt s t p.1:=fun p hp=>by
  rcases List.mem_append.1 hp with hp | hp
  ·obtain ⟨q1,q2⟩:=h.uT ht hi' p hp
   rw [aFM (ahU hp)]
   exact ⟨h.inb _ _ q1.1 q1.2 a ha,(q2 a ha).1,(q2 a ha).2⟩
  ·have q1:=atN (s:=s) (L:=L) (fun _ _=>trivial) (by omega) hi' p hp
   have q2:=(h.uT q1.1 q1.2 (t,i) (azp hp)).2 a ha
   rw [aQF (azo hp).1]
   exact ⟨h.inb _ _ q1.1 q1.2 a ha,q2.2,q2.1⟩
 constructor
 ·exact (aEe a _ t i).2 fun p hp=>by have:=key p hp; omega
 ·exact (aEf a _ t i).2 fun p hp=>by have:=key p hp; omega
theorem Tru.where (hs:s.Ok) (h:Tru s L X) {t i:Nat} (ht:t < s.N) (hi':i < s.k t) {a:Nat} (ha:a < 3):lo (ach s t i) a<=X t i a/\X t i a<=hi (ach s t i) a:=by
 have hL:=(tX hs).2 h.links
 have hne:=List.ne_nil_of_mem hL
 have h1:=(aAC (t:=t) (i:=i) (a:=a) hne).1 (Int.le_refl _) L hL
 have h2:=(aAD (t:=t) (i:=i) (a:=a) hne).1 (Int.le_refl _) L hL
 have h3:=h.pos ht hi' ha
 omega
end Go.Low

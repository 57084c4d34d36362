/- Links of lows, in plain terms: where lows can be, and all links in order. -/
import Derived.Test.YtadkaccpacpklaaL10GB
set_option linter.unusedVariables false
set_option linter.unusedSimpArgs false
namespace Go.Low
abbrev B6:=Int×Int×Int×Int×Int×Int×Unit
abbrev LL:=List (List Int)
def lo (b:B6):Nat->Int
 | 0=>b.1
 | 1=>b.2.2.1
 | _=>b.2.2.2.2.1
def hi (b:B6):Nat->Int
 | 0=>b.2.1
 | 1=>b.2.2.2.1
 | _=>b.2.2.2.2.2.1
theorem B6.ext {b c:B6} (h1:∀ a,a < 3->lo b a=lo c a) (h2:∀ a,a < 3->hi b a=hi c a):b=c:=by
 obtain ⟨b1,b2,b3,b4,b5,b6,⟨⟩⟩:=b
 obtain ⟨c1,c2,c3,c4,c5,c6,⟨⟩⟩:=c
 have e1:b1=c1:=h1 0 (by omega)
 have e2:b3=c3:=h1 1 (by omega)
 have e3:b5=c5:=h1 2 (by omega)
 have e4:b2=c2:=h2 0 (by omega)
 have e5:b4=c4:=h2 1 (by omega)
 have e6:b6=c6:=h2 2 (by omega)
 rw [e1,e2,e3,e4,e5,e6]
structure PS where
 N:Nat
 tm:Nat->Int
 k:Nat->Nat
 box:Nat->Nat->B6
 speed:Int
 BN:Int
 born:Int
 gone:Int
def dV (s:PS):Nat->Int
 | 0=>s.speed
 | 1=>s.speed
 | _=>s.BN
structure PS.Ok (s:PS):Prop where
 n1:0 < s.N
 n4:s.N<=4
 k:∀ t,t < s.N->s.k t<=3
 Xp:∀ t,t < s.N->0<=s.tm t/\s.tm t<=200
 tm:∀ t,t + 1 < s.N->s.tm t < s.tm (t + 1)
 box:∀ t i,t < s.N->i < s.k t->∀ a,a < 3->0<=lo (s.box t i) a/\lo (s.box t i) a<=hi (s.box t i) a/\hi (s.box t i) a<=99999
 sp:0<=s.speed/\s.speed<=50
 dp:0<=s.BN/\s.BN<=1000
 bn:0<=s.born/\s.born<=12
 gn:0<=s.gone/\s.gone<=12
theorem PS.Ok.dV {s:PS} (h:s.Ok) (a:Nat):0<=dV s a:=by
 unfold Go.Low.dV
 split
 ·exact h.sp.1
 ·exact h.sp.1
 ·exact h.dp.1
theorem PS.Ok.afG {s : PS} (h : s.Ok) : ∀ {t t' : Nat}, t ≤ t' → t' < s.N → s.tm t ≤ s.tm t' := by
  intro t t' hle
  induction t' with
  | zero => intro _; have : t = 0 := by omega
            subst this; exact Int.le_refl _
  | succ t' ih =>
    intro hN
    by_cases e : t = t' + 1
    · subst e; exact Int.le_refl _
    · have := ih (by omega) (by omega)
      have := h.tm t' hN
      omega
def wide (s:PS) (b:B6) (h:Int):B6:=(b.1 - s.speed * h,b.2.1 + s.speed * h,b.2.2.1 - s.speed * h,b.2.2.2.1 + s.speed * h,b.2.2.2.2.1 - s.BN * h,b.2.2.2.2.2.1 + s.BN * h,())
def inter (b c:B6):B6:=(max b.1 c.1,min b.2.1 c.2.1,max b.2.2.1 c.2.2.1,min b.2.2.2.1 c.2.2.2.1,max b.2.2.2.2.1 c.2.2.2.2.1,min b.2.2.2.2.2.1 c.2.2.2.2.2.1,())
def ne (b:B6):Prop:=∀ a,a < 3->lo b a<=hi b a
def UY (b:B6):Bool:=decide (b.1<=b.2.1) && decide (b.2.2.1<=b.2.2.2.1) && decide (b.2.2.2.2.1<=b.2.2.2.2.2.1)
theorem Wc {b:B6}:UY b=true↔ne b:=by
 simp only [UY,Bool.and_eq_true,decide_eq_true_eq]
 constructor
 ·rintro ⟨⟨h1,h2⟩,h3⟩ a ha
  match a,ha with
  | 0,_=>exact h1
  | 1,_=>exact h2
  | 2,_=>exact h3
 ·intro h
  exact ⟨⟨h 0 (by omega),h 1 (by omega)⟩,h 2 (by omega)⟩
theorem uR (b c:B6) (a:Nat):lo (inter b c) a=max (lo b a) (lo c a):=by unfold lo inter; split <;> rfl
theorem uS (b c:B6) (a:Nat):hi (inter b c) a=min (hi b a) (hi c a):=by unfold hi inter; split <;> rfl
theorem AX (s:PS) (b:B6) (h:Int) (a:Nat):lo (wide s b h) a=lo b a - dV s a * h:=by unfold lo wide dV; split <;> rfl
theorem AY (s:PS) (b:B6) (h:Int) (a:Nat):hi (wide s b h) a=hi b a + dV s a * h:=by unfold hi wide dV; split <;> rfl
def qR (L:LL) (t i:Nat):Int:=(L.getD t []).getD i (-1)
theorem Eo {L M:LL} {t i:Nat} (h:t < L.length):qR (L ++ M) t i=qR L t i:=by
 unfold qR
 simp only [List.getD_eq_getElem?_getD]
 rw [List.getElem?_append_left h]
theorem qN {L:LL} {r:List Int} {i:Nat}:qR (L ++ [r]) L.length i=r.getD i (-1):=by
 unfold qR
 simp only [List.getD_eq_getElem?_getD]
 rw [List.getElem?_append_right (Nat.le_refl _),Nat.sub_self]
 rfl
def uT (L:LL):Nat->Nat->List (Nat×Nat)
 | 0,i=>[(0,i)]
 | t + 1,i=>(t + 1,i) :: if 0<=qR L (t + 1) i then uT L t (qR L (t + 1) i).toNat else []
def can (s:PS) (L:LL):Nat->Nat->B6
 | 0,i=>s.box 0 i
 | t + 1,i=>if 0<=qR L (t + 1) i then inter (s.box (t + 1) i) (wide s (can s L t (qR L (t + 1) i).toNat) (s.tm (t + 1) - s.tm t)) else s.box (t + 1) i
theorem AZ {L M:LL}:∀ {t i:Nat},t < L.length->uT (L ++ M) t i=uT L t i
 | 0,_,_=>rfl
 | t + 1,i,h=>by
  simp only [uT,Eo h]
  split
  ·rw [AZ (by omega)]
  ·rfl
theorem zi {s:PS} {L M:LL}:∀ {t i:Nat},t < L.length->can s (L ++ M) t i=can s L t i
 | 0,_,_=>rfl
 | t + 1,i,h=>by
  simp only [can,Eo h]
  split
  ·rw [zi (by omega)]
  ·rfl
theorem aa4 (L:LL) (t i:Nat):(t,i)∈uT L t i:=by cases t <;> simp [uT]
theorem ahU {L:LL}:∀ {t i:Nat} {p:Nat×Nat},p∈uT L t i->p.1<=t
 | 0,i,p,h=>by simp [uT] at h; subst h; exact Nat.le_refl _
 | t + 1,i,p,h=>by
  simp only [uT,List.mem_cons] at h
  rcases h with h | h
  ·subst h; exact Nat.le_refl _
  ·split at h
   ·have:=ahU h; omega
   ·simp at h
theorem Mi {s:PS} (L:LL) (a:Nat) (x:Int):∀ (t i:Nat),lo (can s L t i) a<=x↔∀ p∈uT L t i,lo (s.box p.1 p.2) a - dV s a * (s.tm t - s.tm p.1)<=x
 | 0,i=>by simp [can,uT]
 | t + 1,i=>by
  have ih:=Mi (s:=s) L a (x + dV s a * (s.tm (t + 1) - s.tm t)) t (qR L (t + 1) i).toNat
  simp only [can,uT,List.forall_mem_cons,Int.sub_self,Int.mul_zero,Int.sub_zero]
  split
  ·rw [uR,AX,Int.max_le]
   refine and_congr Iff.rfl ?_
   rw [show lo (can s L t (qR L (t + 1) i).toNat) a - dV s a * (s.tm (t + 1) - s.tm t)<=x↔lo (can s L t (qR L (t + 1) i).toNat) a<=x + dV s a * (s.tm (t + 1) - s.tm t) by omega,ih]
   refine forall_congr' fun p=>forall_congr' fun _=>?_
   have:dV s a * (s.tm (t + 1) - s.tm p.1)=dV s a * (s.tm t - s.tm p.1) + dV s a * (s.tm (t + 1) - s.tm t):=by rw [<- Int.mul_add]; congr 1; omega
   omega
  ·simp
theorem Mj {s:PS} (L:LL) (a:Nat) (x:Int):∀ (t i:Nat),x<=hi (can s L t i) a↔∀ p∈uT L t i,x<=hi (s.box p.1 p.2) a + dV s a * (s.tm t - s.tm p.1)
 | 0,i=>by simp [can,uT]
 | t + 1,i=>by
  have ih:=Mj (s:=s) L a (x - dV s a * (s.tm (t + 1) - s.tm t)) t (qR L (t + 1) i).toNat
  simp only [can,uT,List.forall_mem_cons,Int.sub_self,Int.mul_zero,Int.add_zero]
  split
  ·rw [uS,AY,Int.le_min]
   refine and_congr Iff.rfl ?_
   rw [show x<=hi (can s L t (qR L (t + 1) i).toNat) a + dV s a * (s.tm (t + 1) - s.tm t)↔x - dV s a * (s.tm (t + 1) - s.tm t)<=hi (can s L t (qR L (t + 1) i).toNat) a by omega,ih]
   refine forall_congr' fun p=>forall_congr' fun _=>?_
   have:dV s a * (s.tm (t + 1) - s.tm p.1)=dV s a * (s.tm t - s.tm p.1) + dV s a * (s.tm (t + 1) - s.tm t):=by rw [<- Int.mul_add]; congr 1; omega
   omega
  ·simp
def tog (s:PS) (p q:Nat×Nat):Prop:=∀ a,a < 3->lo (s.box p.1 p.2) a - hi (s.box q.1 q.2) a<=dV s a * (s.tm p.1 - s.tm q.1)/\lo (s.box q.1 q.2) a - hi (s.box p.1 p.2) a<=dV s a * (s.tm p.1 - s.tm q.1)
theorem LV {s:PS} (hs:s.Ok) {L:LL} {t i j:Nat} (ht:t + 1 < s.N) (hi':i < s.k (t + 1)) (hne:ne (can s L t j)) :
  ne (inter (s.box (t + 1) i) (wide s (can s L t j) (s.tm (t + 1) - s.tm t)))↔∀ p∈uT L t j,tog s (t + 1,i) p:=by
 have hr:=hs.dV
 have hh:0<=s.tm (t + 1) - s.tm t:=by have:=hs.tm t ht; omega
 constructor
 ·intro h p hp a ha
  have h1:=h a ha
  rw [uR,uS,AX,AY,Int.max_le,Int.le_min,Int.le_min] at h1
  obtain ⟨⟨_,h2⟩,h3,_⟩:=h1
  have h4:=(Mj (s:=s) L a (lo (s.box (t + 1) i) a - dV s a * (s.tm (t + 1) - s.tm t)) t j).1 (by omega) p hp
  have h5:=(Mi (s:=s) L a (hi (s.box (t + 1) i) a + dV s a * (s.tm (t + 1) - s.tm t)) t j).1 (by omega) p hp
  have:dV s a * (s.tm (t + 1) - s.tm p.1)=dV s a * (s.tm t - s.tm p.1) + dV s a * (s.tm (t + 1) - s.tm t):=by rw [<- Int.mul_add]; congr 1; omega
  exact ⟨by show lo (s.box (t + 1) i) a - hi (s.box p.1 p.2) a<=dV s a * (s.tm (t + 1) - s.tm p.1); omega,by show lo (s.box p.1 p.2) a - hi (s.box (t + 1) i) a<=dV s a * (s.tm (t + 1) - s.tm p.1); omega⟩
 ·intro h a ha
  rw [uR,uS,AX,AY,Int.max_le,Int.le_min,Int.le_min]
  have hb:=hs.box (t + 1) i ht hi' a ha
  have hc:=hne a ha
  have hm:0<=dV s a * (s.tm (t + 1) - s.tm t):=Int.mul_nonneg (hr a) hh
  have e:∀ p:Nat×Nat,dV s a * (s.tm (t + 1) - s.tm p.1)=dV s a * (s.tm t - s.tm p.1) + dV s a * (s.tm (t + 1) - s.tm t):=fun p=>by rw [<- Int.mul_add]; congr 1; omega
  have h4:=(Mj (s:=s) L a (lo (s.box (t + 1) i) a - dV s a * (s.tm (t + 1) - s.tm t)) t j).2 fun p hp=>by
   have:=(h p hp a ha).1
   have e:=e p
   have this:lo (s.box (t + 1) i) a - hi (s.box p.1 p.2) a<=dV s a * (s.tm (t + 1) - s.tm p.1):=this
   omega
  have h5:=(Mi (s:=s) L a (hi (s.box (t + 1) i) a + dV s a * (s.tm (t + 1) - s.tm t)) t j).2 fun p hp=>by
   have:=(h p hp a ha).2
   have e:=e p
   have this:lo (s.box p.1 p.2) a - hi (s.box (t + 1) i) a<=dV s a * (s.tm (t + 1) - s.tm p.1):=this
   omega
  exact ⟨⟨hb.2.1,by omega⟩,by omega,by omega⟩
end Go.Low

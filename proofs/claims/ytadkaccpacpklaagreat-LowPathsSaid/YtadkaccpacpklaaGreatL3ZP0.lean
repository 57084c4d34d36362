/-
 Of the plain law.
-/
import Derived.Test.YtadkaccpacpklaaGreatL3GB
set_option linter.unusedVariables false
set_option linter.unusedSimpArgs false
namespace Go.Low
abbrev B6:=Int×Int×Int×Int×Int×Int×Unit
abbrev LL:=List (List Int)
def lo (b:B6):Nat->Int
 | 0=>b.1
 | 1=>b.2.2.1
 | _=>b.2.2.2.2.1
def hi (b:B6):Nat->Int
 | 0=>b.2.1
 | 1=>b.2.2.2.1
 | _=>b.2.2.2.2.2.1
theorem B6.ext {b c:B6} (h1:∀ a,a < 3->lo b a=lo c a) (h2:∀ a,a < 3->hi b a=hi c a):b=c:=by
 obtain ⟨b1,b2,b3,b4,b5,b6,⟨⟩⟩:=b
 obtain ⟨c1,c2,c3,c4,c5,c6,⟨⟩⟩:=c
 have e1:b1=c1:=h1 0 (by omega)
 have e2:b3=c3:=h1 1 (by omega)
 have e3:b5=c5:=h1 2 (by omega)
 have e4:b2=c2:=h2 0 (by omega)
 have e5:b4=c4:=h2 1 (by omega)
 have e6:b6=c6:=h2 2 (by omega)
 rw [e1,e2,e3,e4,e5,e6]
structure PS where
 N:Nat
 tm:Nat->Int
 k:Nat->Nat
 box:Nat->Nat->B6
 speed:Int
 BN:Int
 born:Int
 gone:Int
def dV (s:PS):Nat->Int
 | 0=>s.speed
 | 1=>s.speed
 | _=>s.BN
structure PS.Ok (s:PS):Prop where
 n1:0 < s.N
 n4:s.N<=4
 k:∀ t,t < s.N->s.k t<=3
 Xp:∀ t,t < s.N->0<=s.tm t/\s.tm t<=200
 tm:∀ t,t + 1 < s.N->s.tm t < s.tm (t + 1)
 box:∀ t i,t < s.N->i < s.k t->∀ a,a < 3->0<=lo (s.box t i) a/\lo (s.box t i) a<=hi (s.box t i) a/\hi (s.box t i) a<=99999
 sp:0<=s.speed/\s.speed<=50
 dp:0<=s.BN/\s.BN<=1000
 bn:0<=s.born/\s.born<=12
 gn:0<=s.gone/\s.gone<=12
theorem PS.Ok.dV {s:PS} (h:s.Ok) (a:Nat):0<=dV s a:=by
 unfold Go.Low.dV
 split
 ·exact h.sp.1
 ·exact h.sp.1
 ·exact h.dp.1
theorem PS.Ok.afG {s : PS} (h : s.Ok) : ∀ {t t' : Nat}, t ≤ t' → t' < s.N → s.tm t ≤ s.tm t' := by
  intro t t' hle
  induction t' with
  | zero => intro _; have : t = 0 := by omega
            subst this; exact Int.le_refl _
  | succ t' ih =>
    intro hN
    by_cases e : t = t' + 1
    · subst e; exact Int.le_refl _
    · have := ih (by omega) (by omega)
      have := h.tm t' hN
      omega
def wide (s:PS) (b:B6) (h:Int):B6:=(b.1 - s.speed * h,b.2.1 + s.speed * h,b.2.2.1 - s.speed * h,b.2.2.2.1 + s.speed * h,b.2.2.2.2.1 - s.BN * h,b.2.2.2.2.2.1 + s.BN * h,())
def inter (b c:B6):B6:=(max b.1 c.1,min b.2.1 c.2.1,max b.2.2.1 c.2.2.1,min b.2.2.2.1 c.2.2.2.1,max b.2.2.2.2.1 c.2.2.2.2.1,min b.2.2.2.2.2.1 c.2.2.2.2.2.1,())
def ne (b:B6):Prop:=∀ a,a < 3->lo b a<=hi b a
def UY (b:B6):Bool:=decide (b.1<=b.2.1) && decide (b.2.2.1<=b.2.2.2.1) && decide (b.2.2.2.2.1<=b.2.2.2.2.2.1)
theorem Wc {b:B6}:UY b=true↔ne b:=by
 simp only [UY,Bool.and_eq_true,decide_eq_true_eq]
 constructor
 ·rintro ⟨⟨h1,h2⟩,h3⟩ a ha
  match a,ha with
  | 0,_=>exact h1
  | 1,_=>exact h2
  | 2,_=>exact h3
 ·intro h
  exact ⟨⟨h 0 (by omega),h 1 (by omega)⟩,h 2 (by omega)⟩
theorem uR (b c:B6) (a:Nat):lo (inter b c) a=max (lo b a) (lo c a):=by unfold lo inter; split <;> rfl
theorem uS (b c:B6) (a:Nat):hi (inter b c) a=min (hi b a) (hi c a):=by unfold hi inter; split <;> rfl
theorem AX (s:PS) (b:B6) (h:Int) (a:Nat):lo (wide s b h) a=lo b a - dV s a * h:=by unfold lo wide dV; split <;> rfl
theorem AY (s:PS) (b:B6) (h:Int) (a:Nat):hi (wide s b h) a=hi b a + dV s a * h:=by unfold hi wide dV; split <;> rfl
def qR (L:LL) (t i:Nat):Int:=(L.getD t []).getD i (-1)
theorem Eo {L M:LL} {t i:Nat} (h:t < L.length):qR (L ++ M) t i=qR L t i:=by
 unfold qR
 simp only [List.getD_eq_getElem?_getD]
 rw [List.getElem?_append_left h]
theorem qN {L:LL} {r:List Int} {i:Nat}:qR (L ++ [r]) L.length i=r.getD i (-1):=by
 unfold qR
 simp only [List.getD_eq_getElem?_getD]
 rw [List.getElem?_append_right (Nat.le_refl _),Nat.sub_self]
 rfl
def uT (L:LL):Nat->Nat->List (Nat×Nat)
 | 0,i=>[(0,i)]
 | t + 1,i=>(t + 1,i) :: if 0<=qR L (t + 1) i then uT L t (qR L (t + 1) i).toNat else []
def can (s:PS) (L:LL):Nat->Nat->B6
 | 0,i=>s.box 0 i
 | t + 1,i=>if 0<=qR L (t + 1) i then inter (s.box (t + 1) i) (wide s (can s L t (qR L (t + 1) i).toNat) (s.tm (t + 1) - s.tm t)) else s.box (t + 1) i
theorem AZ {L M:LL}:∀ {t i:Nat},t < L.length->uT (L ++ M) t i=uT L t i
 | 0,_,_=>rfl
 | t + 1,i,h=>by
  simp only [uT,Eo h]
  split
  ·rw [AZ (by omega)]
  ·rfl
theorem zi {s:PS} {L M:LL}:∀ {t i:Nat},t < L.length->can s (L ++ M) t i=can s L t i
 | 0,_,_=>rfl
 | t + 1,i,h=>by
  simp only [can,Eo h]
  split
  ·rw [zi (by omega)]
  ·rfl
theorem aa4 (L:LL) (t i:Nat):(t,i)∈uT L t i:=by cases t <;> simp [uT]
theorem ahU {L:LL}:∀ {t i:Nat} {p:Nat×Nat},p∈uT L t i->p.1<=t
 | 0,i,p,h=>by simp [uT] at h; subst h; exact Nat.le_refl _
 | t + 1,i,p,h=>by
  simp only [uT,List.mem_cons] at h
  rcases h with h | h
  ·subst h; exact Nat.le_refl _
  ·split at h
   ·have:=ahU h; omega
   ·simp at h
theorem Mi {s:PS} (L:LL) (a:Nat) (x:Int):∀ (t i:Nat),lo (can s L t i) a<=x↔∀ p∈uT L t i,lo (s.box p.1 p.2) a - dV s a * (s.tm t - s.tm p.1)<=x
 | 0,i=>by simp [can,uT]
 | t + 1,i=>by
  have ih:=Mi (s:=s) L a (x + dV s a * (s.tm (t + 1) - s.tm t)) t (qR L (t + 1) i).toNat
  simp only [can,uT,List.forall_mem_cons,Int.sub_self,Int.mul_zero,Int.sub_zero]
  split
  ·rw [uR,AX,Int.max_le]
   refine and_congr Iff.rfl ?_
   rw [show lo (can s L t (qR L (t + 1) i).toNat) a - dV s a * (s.tm (t + 1) - s.tm t)<=x↔lo (can s L t (qR L (t + 1) i).toNat) a<=x + dV s a * (s.tm (t + 1) - s.tm t) by omega,ih]
   refine forall_congr' fun p=>forall_congr' fun _=>?_
   have:dV s a * (s.tm (t + 1) - s.tm p.1)=dV s a * (s.tm t - s.tm p.1) + dV s a * (s.tm (t + 1) - s.tm t):=by rw [<- Int.mul_add]; congr 1; omega
   omega
  ·simp
theorem Mj {s:PS} (L:LL) (a:Nat) (x:Int):∀ (t i:Nat),x<=hi (can s L t i) a↔∀ p∈uT L t i,x<=hi (s.box p.1 p.2) a + dV s a * (s.tm t - s.tm p.1)
 | 0,i=>by simp [can,uT]
 | t + 1,i=>by
  have ih:=Mj (s:=s) L a (x - dV s a * (s.tm (t + 1) - s.tm t)) t (qR L (t + 1) i).toNat
  simp only [can,uT,List.forall_mem_cons,Int.sub_self,Int.mul_zero,Int.add_zero]
  split
  ·rw [uS,AY,Int.le_min]
   refine and_congr Iff.rfl ?_
   rw [show x<=hi (can s L t (qR L (t + 1) i).toNat) a + dV s a * (s.tm (t + 1) - s.tm t)↔x - dV s a * (s.tm (t + 1) - s.tm t)<=hi (can s L t (qR L (t + 1) i).toNat) a by omega,ih]
   refine forall_congr' fun p=>forall_congr' fun _=>?_
   have:dV s a * (s.tm (t + 1) - s.tm p.1)=dV s a * (s.tm t - s.tm p.1) + dV s a * (s.tm (t + 1) - s.tm t):=by rw [<- Int.mul_add]; congr 1; omega
   omega
  ·simp
def tog (s:PS) (p q:Nat×Nat):Prop:=∀ a,a < 3->lo (s.box p.1 p.2) a - hi (s.box q.1 q.2) a<=dV s a * (s.tm p.1 - s.tm q.1)/\lo (s.box q.1 q.2) a - hi (s.box p.1 p.2) a<=dV s a * (s.tm p.1 - s.tm q.1)
theorem LV {s:PS} (hs:s.Ok) {L:LL} {t i j:Nat} (ht:t + 1 < s.N) (hi':i < s.k (t + 1)) (hne:ne (can s L t j)) :
  ne (inter (s.box (t + 1) i) (wide s (can s L t j) (s.tm (t + 1) - s.tm t)))↔∀ p∈uT L t j,tog s (t + 1,i) p:=by
 have hr:=hs.dV
 have hh:0<=s.tm (t + 1) - s.tm t:=by have:=hs.tm t ht; omega
 constructor
 ·intro h p hp a ha
  have h1:=h a ha
  rw [uR,uS,AX,AY,Int.max_le,Int.le_min,Int.le_min] at h1
  obtain ⟨⟨_,h2⟩,h3,_⟩:=h1
  have h4:=(Mj (s:=s) L a (lo (s.box (t + 1) i) a - dV s a * (s.tm (t + 1) - s.tm t)) t j).1 (by omega) p hp
  have h5:=(Mi (s:=s) L a (hi (s.box (t + 1) i) a + dV s a * (s.tm (t + 1) - s.tm t)) t j).1 (by omega) p hp
  have:dV s a * (s.tm (t + 1) - s.tm p.1)=dV s a * (s.tm t - s.tm p.1) + dV s a * (s.tm (t + 1) - s.tm t):=by rw [<- Int.mul_add]; congr 1; omega
  exact ⟨by show lo (s.box (t + 1) i) a - hi (s.box p.1 p.2) a<=dV s a * (s.tm (t + 1) - s.tm p.1); omega,by show lo (s.box p.1 p.2) a - hi (s.box (t + 1) i) a<=dV s a * (s.tm (t + 1) - s.tm p.1); omega⟩
 ·intro h a ha
  rw [uR,uS,AX,AY,Int.max_le,Int.le_min,Int.le_min]
  have hb:=hs.box (t + 1) i ht hi' a ha
  have hc:=hne a ha
  have hm:0<=dV s a * (s.tm (t + 1) - s.tm t):=Int.mul_nonneg (hr a) hh
  have e:∀ p:Nat×Nat,dV s a * (s.tm (t + 1) - s.tm p.1)=dV s a * (s.tm t - s.tm p.1) + dV s a * (s.tm (t + 1) - s.tm t):=fun p=>by rw [<- Int.mul_add]; congr 1; omega
  have h4:=(Mj (s:=s) L a (lo (s.box (t + 1) i) a - dV s a * (s.tm (t + 1) - s.tm t)) t j).2 fun p hp=>by
   have:=(h p hp a ha).1
   have e:=e p
   have this:lo (s.box (t + 1) i) a - hi (s.box p.1 p.2) a<=dV s a * (s.tm (t + 1) - s.tm p.1):=this
   omega
  have h5:=(Mi (s:=s) L a (hi (s.box (t + 1) i) a + dV s a * (s.tm (t + 1) - s.tm t)) t j).2 fun p hp=>by
   have:=(h p hp a ha).2
   have e:=e p
   have this:lo (s.box p.1 p.2) a - hi (s.box (t + 1) i) a<=dV s a * (s.tm (t + 1) - s.tm p.1):=this
   omega
  exact ⟨⟨hb.2.1,by omega⟩,by omega,by omega⟩
end Go.Low
namespace Go.Low
variable {s:PS}
def has (r:List Int) (b:Int):Bool:=r.contains b
def eY (k:Nat) (r:List Int):Nat:=((List.range k).filter fun b:Nat=>!has r (b:Int)).length
def eO (r:List Int):Nat:=r.count (-1)
def eP (L:LL):Nat:=((L.drop 1).map eO).sum
def fc (L:LL):Nat:=((List.range (L.length - 1)).map fun t=>eY (L.getD t []).length (L.getD (t + 1) [])).sum
theorem ku {L M:LL} {t:Nat} (h:t < L.length):(L ++ M).getD t []=L.getD t []:=by
 simp only [List.getD_eq_getElem?_getD]; rw [List.getElem?_append_left h]
theorem jo {L:LL} {r:List Int}:(L ++ [r]).getD L.length []=r:=by
 simp only [List.getD_eq_getElem?_getD]; rw [List.getElem?_append_right (Nat.le_refl _),Nat.sub_self]; rfl
theorem qZ {L:LL} {r:List Int} (h:0 < L.length):eP (L ++ [r])=eP L + eO r:=by
 cases L with
 | nil=>cases h
 | cons a L=>simp [eP]
theorem Ci {L:LL} {r:List Int} (h:0 < L.length):fc (L ++ [r])=fc L + eY (L.getD (L.length - 1) []).length r:=by
 obtain ⟨n,hn⟩:∃ n,L.length=n + 1:=⟨L.length - 1,by omega⟩
 unfold fc
 rw [List.length_append,List.length_singleton,hn,Nat.add_sub_cancel,Nat.add_sub_cancel,List.range_succ,List.map_append,List.sum_append]
 congr 1
 ·refine congrArg List.sum (List.map_congr_left fun t ht=>?_)
  have ht:=List.mem_range.1 ht
  rw [ku (by omega),ku (by omega)]
 ·have e:=jo (L:=L) (r:=r)
  rw [hn] at e
  simp only [List.map_cons,List.map_nil,List.sum_cons,List.sum_nil,Nat.add_zero]
  rw [e,ku (by omega)]
def Ba (s:PS) (p q:Nat×Nat):Bool:=(List.range 3).all fun a=>decide (lo (s.box p.1 p.2) a - hi (s.box q.1 q.2) a<=dV s a * (s.tm p.1 - s.tm q.1)) && decide (lo (s.box q.1 q.2) a - hi (s.box p.1 p.2) a<=dV s a * (s.tm p.1 - s.tm q.1))
theorem JJ {p q:Nat×Nat}:Ba s p q=true↔tog s p q:=by
 simp only [Ba,tog,List.all_eq_true,List.mem_range,Bool.and_eq_true,decide_eq_true_eq]
def chB (s:PS) (L:LL):Bool:=(List.range (L.getD (L.length - 1) []).length).all fun i=>(uT L (L.length - 1) i).tail.all fun p=>Ba s (L.length - 1,i) p
def okB (s:PS) (L:LL):Bool:=decide ((eP L:Int)<=s.born) && decide ((fc L:Int)<=s.gone) && chB s L
def me (before:Nat) (r:List Int):LL:=(r ++ [-1]) :: (List.range before).flatMap fun b:Nat=>if has r (b:Int) then [] else [r ++ [(b:Int)]]
def gV (before:Nat):Nat->List Int->LL
 | 0,r=>[r]
 | m + 1,r=>(me before r).flatMap (gV before m)
def oU (s:PS):Nat->LL->List LL
 | 0,L=>[L]
 | m + 1,L=>(gV (s.k (L.length - 1)) (s.k L.length) []).flatMap fun r=>if okB s (L ++ [r]) then oU s m (L ++ [r]) else []
def gen (s:PS):Nat->Int->Int->LL->List Int->List LL
 | 0,_,_,_,_=>[]
 | n + 1,born,gone,L,r =>
  if L.length=s.N then [L]
  else if r.length=s.k L.length then
   if s.gone < gone + (eY (s.k (L.length - 1)) r:Nat) then [] else gen s n born (gone + (eY (s.k (L.length - 1)) r:Nat)) (L ++ [r]) []
  else (if born < s.born then gen s n (born + 1) gone L (r ++ [-1]) else []) ++
   (List.range (s.k (L.length - 1))).flatMap fun b:Nat=>if has r (b:Int) then [] else
    if UY (inter (s.box L.length r.length) (wide s (can s L (L.length - 1) b) (s.tm L.length - s.tm (L.length - 1)))) then gen s n born gone L (r ++ [(b:Int)]) else []
theorem zj {α β:Type} {l:List α} {f:α->List β} (h:∀ a∈l,f a=[]):l.flatMap f=[]:=by
 induction l with
 | nil=>rfl
 | cons a l ih=>rw [List.flatMap_cons,h a (.head _),ih fun b hb=>h b (.tail _ hb)]; rfl
theorem qO {α β:Type} {l:List α} {f g:α->List β} (h:∀ a∈l,f a=g a):l.flatMap f=l.flatMap g:=by
 induction l with
 | nil=>rfl
 | cons a l ih=>rw [List.flatMap_cons,List.flatMap_cons,h a (.head _),ih fun b hb=>h b (.tail _ hb)]
theorem JK {before:Nat} {r x:List Int} (h:x∈me before r):∃ c:Int,x=r ++ [c]/\(c = -1\/∃ b:Nat,b < before/\c=b/\has r c=false):=by
 simp only [me,List.mem_cons,List.mem_flatMap,List.mem_range] at h
 rcases h with h | ⟨b,hb,h⟩
 ·exact ⟨-1,h,.inl rfl⟩
 ·split at h
  ·simp at h
  ·rename_i hn
   simp only [List.mem_singleton] at h
   exact ⟨b,h,.inr ⟨b,hb,rfl,by simpa using hn⟩⟩
theorem vP {before:Nat}:∀ {m:Nat} {r x:List Int},x∈gV before m r->r <+: x/\x.length=r.length + m
 | 0,r,x,h=>by simp only [gV,List.mem_singleton] at h; subst h; exact ⟨List.prefix_refl _,rfl⟩
 | m + 1,r,x,h=>by
  simp only [gV,List.mem_flatMap] at h
  obtain ⟨y,hy,hx⟩:=h
  obtain ⟨c,rfl,_⟩:=JK hy
  obtain ⟨h1,h2⟩:=vP hx
  exact ⟨(List.prefix_append _ _).trans h1,by rw [h2]; simp; omega⟩
def kz (s:PS):Nat->Nat->Nat
 | 0,_=>1
 | m + 1,t=>s.k t + 1 + kz s m (t + 1)
theorem aas (L:LL) (t i:Nat):uT L t i=(t,i) :: (uT L t i).tail:=by cases t <;> simp [uT]
theorem akc (hs:s.Ok):∀ (n:Nat) (L:LL) (r:List Int) (born gone:Int),kz s (s.N - L.length) L.length<=n + r.length->0 < L.length->L.length<=s.N->(∀ t,t < L.length->(L.getD t []).length=s.k t) ->
  (L.length < s.N->r.length<=s.k L.length)->(L.length=s.N->r=[])->born=(eP L:Int) + (eO r:Int)->born<=s.born->gone=(fc L:Int)->(∀ i,i < s.k (L.length - 1)->ne (can s L (L.length - 1) i)) ->
  (∀ i x,r[i]? = some x->x = -1\/0<=x/\x.toNat < s.k (L.length - 1)/\∀ p∈uT L (L.length - 1) x.toNat,tog s (L.length,i) p) ->
  gen s n born gone L r=if L.length=s.N then [L] else (gV (s.k (L.length - 1)) (s.k L.length - r.length) r).flatMap fun r=>if okB s (L ++ [r]) then oU s (s.N - L.length - 1) (L ++ [r]) else []:=by
 intro n
 induction n with
 | zero =>
  intro L r born gone hm hL hN hsh hr hr0 _ _ _ _ _
  exfalso
  by_cases e:L.length=s.N
  ·rw [hr0 e,e,Nat.sub_self] at hm; simp [kz] at hm
  ·obtain ⟨m,YX⟩:∃ m,s.N - L.length=m + 1:=⟨s.N - L.length - 1,by omega⟩
   rw [YX] at hm
   have:=hr (by omega)
   have h1:1<=kz s m (L.length + 1):=by
    have:∀ m t,1<=kz s m t:=by
     intro m
     induction m with
     | zero=>intro t; exact Nat.le_refl _
     | succ m ih=>intro t; have:=ih (t + 1); simp only [kz]; omega
    exact this _ _
   simp only [kz] at hm
   omega
 | succ n ih =>
  intro L r born gone hm hL hN hsh hr hr0 hb Sx hg hcan hch
  rw [gen]
  by_cases e:L.length=s.N
  ·rw [if_pos e,if_pos e]
  rw [if_neg e,if_neg e]
  obtain ⟨m,YX⟩:∃ m,s.N - L.length=m + 1:=⟨s.N - L.length - 1,by omega⟩
  have tY:=hr (by omega)
  rw [YX] at hm
  obtain ⟨t,ht⟩:∃ t,L.length=t + 1:=⟨L.length - 1,by omega⟩
  by_cases e2:r.length=s.k L.length
  ·rw [if_pos e2,e2,Nat.sub_self]
   simp only [gV,List.flatMap_cons,List.flatMap_nil,List.append_nil]
   -- the map is whole
   have Xq:(eP (L ++ [r]):Int)=born:=by rw [qZ hL,hb]; simp
   have hgl:(fc (L ++ [r]):Int)=gone + (eY (s.k (L.length - 1)) r:Nat):=by rw [Ci hL,hsh _ (by omega),hg]; simp
   have hlen:(L ++ [r]).length=L.length + 1:=by simp
   have aDg:∀ i,i < r.length->∀ p∈(uT (L ++ [r]) L.length i).tail,tog s (L.length,i) p:=fun i hi p hp=>by
    rw [ht] at hp ⊢
    simp only [uT,List.tail_cons] at hp
    have hl:qR (L ++ [r]) (t + 1) i=r[i]:=by rw [<- ht,qN,List.getD_eq_getElem?_getD,List.getElem?_eq_getElem hi]; rfl
    rw [hl] at hp
    split at hp
    case isFalse=>simp at hp
    rename_i h0
    rcases hch i _ (List.getElem?_eq_getElem hi) with h1 | ⟨_,_,h1⟩
    ·omega
    ·rw [AZ (by omega)] at hp
     rw [ht,Nat.add_sub_cancel] at h1
     exact h1 p hp
   have aDh:chB s (L ++ [r])=true:=by
    unfold chB
    rw [hlen,Nat.add_sub_cancel,jo]
    simp only [List.all_eq_true,List.mem_range]
    exact fun i hi p hp=>JJ.2 (aDg i hi p hp)
   have hok:okB s (L ++ [r]) = !decide (s.gone < gone + (eY (s.k (L.length - 1)) r:Nat)):=by
    unfold okB
    rw [aDh,Xq,hgl,decide_eq_true Sx,Bool.true_and,Bool.and_true]
    by_cases h:s.gone < gone + (eY (s.k (L.length - 1)) r:Nat)
    ·rw [decide_eq_true h,decide_eq_false (by omega)]; rfl
    ·rw [decide_eq_false h,decide_eq_true (by omega)]; rfl
   rw [hok]
   by_cases hgg:s.gone < gone + (eY (s.k (L.length - 1)) r:Nat)
   ·rw [if_pos hgg,decide_eq_true hgg]; rfl
   rw [if_neg hgg,decide_eq_false hgg]
   simp only [Bool.not_false,if_true]
   have asL:∀ i,i < s.k ((L ++ [r]).length - 1)->ne (can s (L ++ [r]) ((L ++ [r]).length - 1) i):=fun i hi=>by
    rw [hlen,Nat.add_sub_cancel] at hi ⊢
    rw [ht]
    simp only [can]
    have hil:i < r.length:=by omega
    have hl:qR (L ++ [r]) (t + 1) i=r[i]:=by rw [<- ht,qN,List.getD_eq_getElem?_getD,List.getElem?_eq_getElem hil]; rfl
    rw [hl]
    have hlt:t + 1 < s.N:=by omega
    split
    ·rename_i h0
     rw [zi (by omega)]
     rcases hch i _ (List.getElem?_eq_getElem hil) with h1 | ⟨_,h1,h2⟩
     ·omega
     ·rw [ht,Nat.add_sub_cancel] at h1 h2 hcan
      exact (LV hs hlt (by rw [<- ht]; exact hi) (hcan _ h1)).2 h2
    ·intro a ha
     exact (hs.box (t + 1) i hlt (by rw [<- ht]; exact hi) a ha).2.1
   have hih:=ih (L ++ [r]) [] born (gone + (eY (s.k (L.length - 1)) r:Nat)) (by
     rw [hlen]
     have:s.N - (L.length + 1)=m:=by omega
     rw [this]
     simp only [kz] at hm
     rw [e2] at hm
     simp only [List.length_nil]; omega) (by rw [hlen]; omega) (by rw [hlen]; omega) (fun t' ht'=>by
     rw [hlen] at ht'
     by_cases h1:t'=L.length
     ·rw [h1,jo]; exact e2
     ·rw [ku (by omega)]; exact hsh t' (by omega)) (fun _=>Nat.zero_le _) (fun _=>rfl) (by rw [Xq]; simp [eO]) Sx hgl.symm asL (fun i x h=>by simp at h)
   rw [hih,hlen]
   have h1:s.N - L.length - 1=m:=by omega
   rw [h1]
   by_cases h2:L.length + 1=s.N
   ·rw [if_pos h2]
    have:m=0:=by omega
    subst this; rfl
   ·rw [if_neg h2]
    obtain ⟨m',hm'⟩:∃ m',m=m' + 1:=⟨m - 1,by omega⟩
    subst hm'
    simp only [oU,hlen,Nat.add_sub_cancel,List.length_nil,Nat.sub_zero]
    rw [show s.N - (L.length + 1) - 1=m' by omega]
  ·rw [if_neg e2]
   obtain ⟨q,hq⟩:∃ q,s.k L.length - r.length=q + 1:=⟨s.k L.length - r.length - 1,by omega⟩
   have hrl:r.length < s.k L.length:=by omega
   rw [hq]
   simp only [gV,me,List.flatMap_cons,List.flatMap_append,List.flatMap_assoc]
   have hq2:∀ c:Int,s.k L.length - (r ++ [c]).length=q:=fun c=>by simp; omega
   have NY:∀ c:Int,kz s (s.N - L.length) L.length<=n + (r ++ [c]).length:=fun c=>by rw [YX]; simp; omega
   have ag8:∀ (c:Int) (i:Nat) (x:Int),(r ++ [c])[i]? = some x->i < r.length/\r[i]? = some x\/i=r.length/\x=c:=fun c i x h=>by
    by_cases h1:i < r.length
    ·rw [List.getElem?_append_left h1] at h; exact .inl ⟨h1,h⟩
    ·rw [List.getElem?_append_right (by omega)] at h
     have h2:=(List.getElem?_eq_some_iff.1 h).1
     simp at h2
     have:i=r.length:=by omega
     subst this
     simp at h
     exact .inr ⟨rfl,h.symm⟩
   congr 1
   ·by_cases uk:born < s.born
    ·rw [if_pos uk]
     have:=ih L (r ++ [-1]) (born + 1) gone (NY _) hL hN hsh (fun _=>by simp; omega) (fun h=>absurd h e) (by rw [hb]; simp [eO]; omega) (by omega) hg hcan (fun i x h=>by
      rcases ag8 _ _ _ h with ⟨_,h⟩ | ⟨_,h⟩
      ·exact hch i x h
      ·exact .inl h)
     rw [this,if_neg e,hq2]
    ·rw [if_neg uk]
     refine (zj fun x hx=>?_).symm
     have hp:=(vP hx).1
     have aR4:eO (r ++ [-1])<=eO x:=hp.sublist.count_le _
     have aIs:eO (r ++ [-1])=eO r + 1:=by simp [eO]
     have:okB s (L ++ [x])=false:=by
      unfold okB
      rw [qZ hL,decide_eq_false (by push_cast; omega)]
      simp
     rw [this]; rfl
   ·refine qO fun b hb'=>?_
    have hb':=List.mem_range.1 hb'
    by_cases hh:has r (b:Int)=true
    ·rw [if_pos hh,if_pos hh]; rfl
    rw [if_neg hh,if_neg hh]
    simp only [List.flatMap_cons,List.flatMap_nil,List.append_nil]
    have hlt:t + 1 < s.N:=by omega
    have hcb:=hcan b hb'
    have hiff:UY (inter (s.box L.length r.length) (wide s (can s L (L.length - 1) b) (s.tm L.length - s.tm (L.length - 1))))=true↔∀ p∈uT L (L.length - 1) b,tog s (L.length,r.length) p:=by
     rw [Wc]
     rw [ht,Nat.add_sub_cancel] at hcb ⊢
     exact LV hs hlt (by rw [<- ht]; exact hrl) hcb
    by_cases hne:UY (inter (s.box L.length r.length) (wide s (can s L (L.length - 1) b) (s.tm L.length - s.tm (L.length - 1))))=true
    ·rw [if_pos hne]
     have aDi:=hiff.1 hne
     have:=ih L (r ++ [(b:Int)]) born gone (NY _) hL hN hsh (fun _=>by simp; omega) (fun h=>absurd h e) (by
      rw [hb]
      have:eO (r ++ [(b:Int)])=eO r:=by
       simp only [eO,List.count_append]
       have:List.count (-1) [(b:Int)]=0:=by
        rw [List.count_eq_zero]; simp
       omega
      rw [this]) Sx hg hcan (fun i x h=>by
      rcases ag8 _ _ _ h with ⟨_,h⟩ | ⟨h1,h⟩
      ·exact hch i x h
      ·subst h; subst h1; exact .inr ⟨by omega,by simpa using hb',by simpa using aDi⟩)
     rw [this,if_neg e,hq2]
    ·rw [if_neg hne]
     refine (zj fun x hx=>?_).symm
     obtain ⟨hp,Ad⟩:=vP hx
     have hlen:(L ++ [x]).length=L.length + 1:=by simp
     have hxb:x[r.length]? = some (b:Int):=by
      obtain ⟨y,rfl⟩:=hp
      rw [List.getElem?_append_left (by simp)]
      simp
     have:chB s (L ++ [x])=false:=by
      cases hc:chB s (L ++ [x]) with
      | false=>rfl
      | true =>
       exfalso
       refine hne (hiff.2 fun p Yw=>?_)
       unfold chB at hc
       rw [hlen,Nat.add_sub_cancel,jo] at hc
       simp only [List.all_eq_true,List.mem_range] at hc
       have:=hc r.length (by have:=(List.getElem?_eq_some_iff.1 hxb).1; exact this) p (by
        rw [ht]
        simp only [uT,List.tail_cons]
        have hl:qR (L ++ [x]) (t + 1) r.length=(b:Int):=by rw [<- ht,qN,List.getD_eq_getElem?_getD,hxb]; rfl
        rw [hl,if_pos (by omega),AZ (by omega)]
        rw [ht,Nat.add_sub_cancel] at Yw
        simpa using Yw)
       exact JJ.1 this
     have:okB s (L ++ [x])=false:=by unfold okB; rw [this,Bool.and_false]
     rw [this]; rfl
end Go.Low
namespace Go.Low
variable {s:PS}
def Ij (before:Nat):Nat->LL->LL
 | 0,out=>out
 | m + 1,out=>Ij before m (out.flatMap (me before))
theorem ME {before:Nat}:∀ (m:Nat) (out:LL),Ij before m out=out.flatMap (gV before m)
 | 0,out=>by simp [Ij,gV]
 | m + 1,out=>by rw [Ij,ME m,List.flatMap_assoc]; rfl
def xF (s:PS) (L:LL):List LL:=(gV (s.k (L.length - 1)) (s.k L.length) []).flatMap fun r=>if okB s (L ++ [r]) then [L ++ [r]] else []
def GS (s:PS):Nat->List LL->List LL
 | 0,out=>out
 | m + 1,out=>GS s m (out.flatMap (xF s))
theorem Wr (m:Nat) (L:LL):oU s (m + 1) L=(xF s L).flatMap (oU s m):=by
 simp only [oU,xF,List.flatMap_assoc]
 refine qO fun r _=>?_
 split <;> simp
theorem Ym:∀ (m:Nat) (out:List LL),GS s m out=out.flatMap (oU s m)
 | 0,out=>by simp [GS,oU]
 | m + 1,out=>by
  rw [GS,Ym m,List.flatMap_assoc]
  exact qO fun L _=>(Wr m L).symm
def first (s:PS):List Int:=List.replicate (s.k 0) (-1)
def links (s:PS):List LL:=oU s (s.N - 1) [first s]
theorem Ws (m:Nat):∀ r:List Int,gV 0 m r=[r ++ List.replicate m (-1)]:=by
 induction m with
 | zero=>intro r; simp [gV]
 | succ m ih =>
  intro r
  simp only [gV,me,List.range_zero,List.flatMap_nil,List.flatMap_cons,List.append_nil]
  rw [ih,List.append_assoc]; rfl
theorem VT (hs:s.Ok) {n:Nat} (hn:kz s (s.N - 1) 1<=n):gen s n 0 0 [first s] []=links s:=by
 have hb:eP [first s]=0:=rfl
 have hg:fc [first s]=0:=rfl
 have h:=akc hs n [first s] [] 0 0 (by simpa using hn) (by simp) hs.n1 (fun t ht=>by
   have:t=0:=by simp at ht; exact ht
   subst this; simp [first]) (fun _=>Nat.zero_le _) (fun _=>rfl) (by simp [hb,eO]) hs.bn.1 (by simp [hg]) (fun i hi a ha=>(hs.box 0 i hs.n1 (by simpa using hi) a ha).2.1) (fun i x h=>by simp at h)
 rw [h]
 unfold links
 have hlen:[first s].length=1:=rfl
 rw [hlen]
 by_cases e:1=s.N
 ·rw [if_pos e,<- e]; rfl
 ·rw [if_neg e]
  obtain ⟨m,hm⟩:∃ m,s.N - 1=m + 1:=⟨s.N - 2,by have:=hs.n1; omega⟩
  rw [hm]
  simp only [oU,hlen,List.length_nil,Nat.sub_zero,Nat.add_sub_cancel]
def Row (before m:Nat) (r:List Int):Prop:=r.length=m/\∀ (i:Nat) (x:Int),r[i]? = some x->x = -1\/(0<=x/\x.toNat < before/\∀ j:Nat,j < i->r[j]? ≠ some x)
theorem zN {r:List Int} {b:Int}:has r b=true↔∃ i:Nat,r[i]? = some b:=by
 unfold has
 rw [List.contains_iff_mem,List.mem_iff_getElem?]
theorem AE {before:Nat}:∀ {m:Nat} {r x:List Int},x∈gV before m r↔r <+: x/\x.length=r.length + m/\∀ (i:Nat) (c:Int),r.length<=i->x[i]? = some c->c = -1\/(0<=c/\c.toNat < before/\∀ j:Nat,j < i->x[j]? ≠ some c)
 | 0,r,x=>by
  simp only [gV,List.mem_singleton,Nat.add_zero]
  constructor
  ·rintro rfl
   exact ⟨List.prefix_refl _,rfl,fun i c hi h=>by have:=(List.getElem?_eq_some_iff.1 h).1; omega⟩
  ·rintro ⟨h1,h2,_⟩
   exact (h1.eq_of_length h2.symm).symm
 | m + 1,r,x=>by
  simp only [gV,List.mem_flatMap]
  constructor
  ·rintro ⟨y,hy,hx⟩
   obtain ⟨c,rfl,hc⟩:=JK hy
   obtain ⟨h1,h2,h3⟩:=AE.1 hx
   refine ⟨(List.prefix_append _ _).trans h1,by rw [h2]; simp; omega,fun i d hi hd=>?_⟩
   by_cases hi2:i=r.length
   ·subst hi2
    have hd2:d=c:=by
     obtain ⟨z,rfl⟩:=h1
     rw [List.getElem?_append_left (by simp)] at hd
     simpa using hd.symm
    subst hd2
    rcases hc with hc | ⟨b,hb,rfl,hh⟩
    ·exact .inl hc
    ·refine .inr ⟨by omega,by simpa using hb,fun j hj zZ=>?_⟩
     obtain ⟨z,rfl⟩:=h1
     rw [List.getElem?_append_left (by simp; omega),List.getElem?_append_left hj] at zZ
     have:has r (b:Int)=true:=zN.2 ⟨j,zZ⟩
     rw [hh] at this; cases this
   ·exact h3 i d (by simp; omega) hd
  ·rintro ⟨h1,h2,h3⟩
   obtain ⟨z,rfl⟩:=h1
   have hz:z.length=m + 1:=by simp at h2; omega
   obtain ⟨c,z,rfl⟩:∃ c z',z=c :: z':=by cases z with
    | nil=>cases hz
    | cons c z=>exact ⟨c,z,rfl⟩
   refine ⟨r ++ [c],?_,AE.2 ⟨by rw [show r ++ c :: z=(r ++ [c]) ++ z by simp]; exact List.prefix_append _ _,by simp at hz ⊢; omega,fun i d hi hd=>h3 i d (by simp at hi; omega) hd⟩⟩
   simp only [me,List.mem_cons,List.mem_flatMap,List.mem_range]
   rcases h3 r.length c (Nat.le_refl _) (by rw [List.getElem?_append_right (Nat.le_refl _)]; simp) with h | ⟨h4,h5,h6⟩
   ·exact .inl (by rw [h])
   ·refine .inr ⟨c.toNat,h5,?_⟩
    have hc:((c.toNat:Nat):Int)=c:=by omega
    rw [hc]
    have hn:has r c≠true:=fun h=>by
     obtain ⟨j,hj⟩:=zN.1 h
     have hjl:=(List.getElem?_eq_some_iff.1 hj).1
     exact h6 j hjl (by rw [List.getElem?_append_left hjl]; exact hj)
    rw [if_neg hn]
    exact .head _
theorem NZ {before m:Nat} {x:List Int}:x∈gV before m []↔Row before m x:=by
 rw [AE]
 simp only [List.nil_prefix,true_and,List.length_nil,Nat.zero_add,Nat.zero_le,true_implies]
 rfl
structure wD (s:PS) (L:LL):Prop where
 len:L.length=s.N
 first:L.getD 0 []=first s
 row:∀ t,t + 1 < s.N->Row (s.k t) (s.k (t + 1)) (L.getD (t + 1) [])
 born:(eP L:Int)<=s.born
 gone:(fc L:Int)<=s.gone
 ch:∀ t,t < s.N->∀ i,i < s.k t->∀ p∈(uT L t i).tail,tog s (t,i) p
theorem acG {L M:LL} (h:L <+: M):eP L<=eP M:=by
 obtain ⟨z,rfl⟩:=h
 cases L with
 | nil=>exact Nat.zero_le _
 | cons a L=>simp [eP]
theorem acH {L M:LL} (h:L <+: M):fc L<=fc M:=by
 obtain ⟨z,rfl⟩:=h
 revert L
 induction z with
 | nil=>intro L; simp
 | cons a z ih =>
  intro L
  rw [show L ++ a :: z=(L ++ [a]) ++ z by simp]
  refine Nat.le_trans ?_ ih
  cases L with
  | nil=>exact Nat.zero_le _
  | cons b L=>rw [Ci (by simp)]; omega
theorem anu {L:LL}:chB s L=true↔∀ i,i < (L.getD (L.length - 1) []).length->∀ p∈(uT L (L.length - 1) i).tail,tog s (L.length - 1,i) p:=by
 unfold chB
 simp only [List.all_eq_true,List.mem_range,JJ]
theorem aff {L:LL}:okB s L=true↔(eP L:Int)<=s.born/\(fc L:Int)<=s.gone/\chB s L=true:=by
 unfold okB
 simp only [Bool.and_eq_true,decide_eq_true_eq,and_assoc]
theorem Rt:∀ {m:Nat} {L x:LL},0 < L.length->(x∈oU s m L↔L <+: x/\x.length=L.length + m /\
    (∀ t,L.length<=t + 1->t + 1 < L.length + m->Row (s.k t) (s.k (t + 1)) (x.getD (t + 1) []))/\(0 < m->(eP x:Int)<=s.born/\(fc x:Int)<=s.gone) /\
    (∀ t,L.length<=t->t < L.length + m->∀ i,i < s.k t->∀ p∈(uT x t i).tail,tog s (t,i) p))
  | 0,L,x,hL=>by
    simp only [oU,List.mem_singleton,Nat.add_zero]
    constructor
    · rintro rfl
      exact ⟨List.prefix_refl _,rfl,fun t h1 h2=>by omega,fun h=>absurd h (Nat.lt_irrefl _),fun t h1 h2=>by omega⟩
    · rintro ⟨h1,h2,_⟩
      exact (h1.eq_of_length h2.symm).symm
  | m + 1,L,x,hL=>by
    simp only [oU,List.mem_flatMap]
    obtain ⟨t0,Rj⟩:∃ t,L.length=t + 1:=⟨L.length - 1,by omega⟩
    constructor
    · rintro ⟨r,hr,hx⟩
      split at hx
      case isFalse=>simp at hx
      rename_i hok
      have hr:=NZ.1 hr
      obtain ⟨h1,h2,h3,h4,h5⟩:=(Rt (by simp)).1 hx
      have hlen:(L ++ [r]).length=L.length + 1:=by simp
      rw [hlen] at h2 h3 h5
      have hxr:x.getD L.length []=r:=by
        obtain ⟨z,rfl⟩:=h1
        rw [ku (by omega),jo]
      refine ⟨(List.prefix_append _ _).trans h1,by omega,fun t q1 q2=>?_,fun _=>?_,fun t q1 q2=>?_⟩
      · by_cases e:t + 1=L.length
        · rw [e,hxr,<- e]
          rw [<- e,Nat.add_sub_cancel] at hr
          exact hr
        · exact h3 t (by omega) (by omega)
      · cases m with
        | zero =>
          simp only [oU,List.mem_singleton] at hx
          subst hx
          have:=aff.1 hok
          exact ⟨this.1,this.2.1⟩
        | succ m=>exact h4 (by omega)
      · by_cases e:t=L.length
        · subst e
          intro i hi p hp
          have hch:=anu.1 (aff.1 hok).2.2
          rw [hlen,Nat.add_sub_cancel,jo] at hch
          refine hch i (by rw [hr.1]; exact hi) p ?_
          obtain ⟨z,rfl⟩:=h1
          rwa [AZ (by omega)] at hp
        · exact h5 t (by omega) (by omega)
    · rintro ⟨h1,h2,h3,h4,h5⟩
      obtain ⟨z,rfl⟩:=h1
      have hz:z.length=m + 1:=by simp at h2; omega
      obtain ⟨r,z,rfl⟩:∃ c z',z=c :: z':=by cases z with
        | nil=>cases hz
        | cons c z=>exact ⟨c,z,rfl⟩
      have hxr:(L ++ r :: z).getD L.length []=r:=by
        rw [show L ++ r :: z=(L ++ [r]) ++ z by simp,ku (by simp),jo]
      have hrow:Row (s.k (L.length - 1)) (s.k L.length) r:=by
        have:=h3 t0 (by omega) (by omega)
        rw [<- Rj,hxr] at this
        rw [Rj,Nat.add_sub_cancel,<- Rj]; exact this
      have hpre:(L ++ [r]) <+: (L ++ r :: z):=by rw [show L ++ r :: z=(L ++ [r]) ++ z by simp]; exact List.prefix_append _ _
      have hlen:(L ++ [r]).length=L.length + 1:=by simp
      have h4:=h4 (by omega)
      have hok:okB s (L ++ [r])=true:=by
        refine aff.2 ⟨?_,?_,anu.2 ?_⟩
        · have:=acG hpre; omega
        · have:=acH hpre; omega
        · rw [hlen,Nat.add_sub_cancel,jo]
          intro i hi p hp
          refine h5 L.length (Nat.le_refl _) (by omega) i (by rw [<- hrow.1]; exact hi) p ?_
          rw [show L ++ r :: z=(L ++ [r]) ++ z by simp,AZ (by omega)]
          exact hp
      refine ⟨r,NZ.2 hrow,?_⟩
      rw [if_pos hok]
      refine (Rt (by simp)).2 ⟨hpre,by simp at hz ⊢; omega,fun t q1 q2=>h3 t (by rw [hlen] at q1; omega) (by rw [hlen] at q2; omega),fun _=>h4,fun t q1 q2=>h5 t (by rw [hlen] at q1; omega) (by rw [hlen] at q2; omega)⟩
theorem tX (hs:s.Ok) {L:LL}:L∈links s↔wD s L:=by
 unfold links
 rw [Rt (by simp)]
 have h1:[first s].length=1:=rfl
 rw [h1]
 have hn:=hs.n1
 constructor
 ·rintro ⟨q1,q2,q3,q4,q5⟩
  obtain ⟨z,rfl⟩:=q1
  refine ⟨by omega,rfl,fun t ht=>q3 t (by omega) (by omega),?_,?_,fun t ht i hi p hp=>?_⟩
  ·by_cases e:0 < s.N - 1
   ·exact (q4 e).1
   ·have:z=[]:=by
     have:([first s] ++ z).length=1:=by omega
     simpa using this
    subst this
    exact hs.bn.1
  ·by_cases e:0 < s.N - 1
   ·exact (q4 e).2
   ·have:z=[]:=by
     have:([first s] ++ z).length=1:=by omega
     simpa using this
    subst this
    exact hs.gn.1
  ·cases t with
   | zero=>simp [uT] at hp
   | succ t=>exact q5 (t + 1) (by omega) (by omega) i hi p hp
 ·rintro ⟨q1,q2,q3,q4,q5,q6⟩
  refine ⟨?_,by omega,fun t h1 h2=>q3 t (by omega),fun _=>⟨q4,q5⟩,fun t h1 h2=>q6 t (by omega)⟩
  cases L with
  | nil=>simp at q1; omega
  | cons a L =>
   have:a=first s:=q2
   subst this
   exact ⟨L,rfl⟩
end Go.Low
namespace Go.Low
variable {s s':PS} {L:LL}
theorem wD.get (h:wD s L) {t i:Nat} (ht:t + 1 < s.N) (hi:i < s.k (t + 1)):(L.getD (t + 1) [])[i]? = some (qR L (t + 1) i):=by
 have hl:=(h.row t ht).1
 unfold qR
 rw [List.getD_eq_getElem?_getD (l:=L.getD (t + 1) []),List.getElem?_eq_getElem (by omega)]
 rfl
theorem wD.afg (h:wD s L) {t i:Nat} (ht:t + 1 < s.N) (hi:i < s.k (t + 1)):qR L (t + 1) i = -1\/(0<=qR L (t + 1) i/\(qR L (t + 1) i).toNat < s.k t/\∀ j:Nat,j < i->qR L (t + 1) j≠qR L (t + 1) i):=by
 rcases (h.row t ht).2 i _ (h.get ht hi) with h1 | ⟨h1,h2,h3⟩
 ·exact .inl h1
 ·refine .inr ⟨h1,h2,fun j hj e=>h3 j hj ?_⟩
  rw [<- e]
  exact h.get ht (by omega)
theorem akX (h:wD s L):∀ {t i:Nat},t < s.N->i < s.k t->∀ p∈uT L t i,p.1 < s.N/\p.2 < s.k p.1
 | 0,i,ht,hi,p,hp=>by simp [uT] at hp; subst hp; exact ⟨ht,hi⟩
 | t + 1,i,ht,hi,p,hp=>by
  simp only [uT,List.mem_cons] at hp
  rcases hp with hp | hp
  ·subst hp; exact ⟨ht,hi⟩
  ·split at hp
   ·rename_i h0
    rcases h.afg ht hi with h1 | h1
    ·omega
    ·exact akX h (by omega) h1.2.1 p hp
   ·simp at hp
end Go.Low
namespace Go.Low
variable {s:PS} {L:LL}
theorem aFH (h:wD s L) {t:Nat} (ht:t + 1 < s.N) (b:Int) (hb:0<=b):has (L.getD (t + 1) []) b=true↔∃ i,i < s.k (t + 1)/\qR L (t + 1) i=b:=by
 rw [zN]
 constructor
 ·rintro ⟨i,hi⟩
  have hl:=(h.row t ht).1
  have hlt:=(List.getElem?_eq_some_iff.1 hi).1
  refine ⟨i,by omega,?_⟩
  have:=h.get ht (i:=i) (by omega)
  rw [this] at hi
  exact Option.some.inj hi
 ·rintro ⟨i,hi,e⟩
  exact ⟨i,by rw [h.get ht hi,e]⟩
end Go.Low
namespace Go.Dm
set_option maxRecDepth 100000
theorem gQ {n:Int} (h:-9223372036854775808<=n/\n<=9223372036854775807):W n=n:=IntWalk.i64_in _ ⟨by omega,by omega⟩
theorem dR {j n:Nat} (h:j < n) (hn:n<=140737488355328):W ((j:Int) + 1)=((j + 1:Nat):Int):=by rw [gQ ⟨by omega,by omega⟩]; rfl
theorem aq {α:Type} {b:Bool} (h:b=true) {x y:α}:(bif b then x else y)=x:=by rw [h]; rfl
theorem aR {α:Type} {b:Bool} (h:b=false) {x y:α}:(bif b then x else y)=y:=by rw [h]; rfl
theorem aK {α β:Type} {d:α} {o:Option α} {x:α} {f:α->β} {g:β} (h:o=some x):cl d o f g=f x:=by rw [h]; exact lK _ _ _ _
theorem bp {wy:aO} {β:Type} {q:LQ wy} {id:Nat} {y:(aa (dB wy id)).den} {f:(aa (dB wy id)).den->β} {g:β} (h:q=LQ.exit id y):aF q id f g=f y:=by rw [h]; exact Ko id y f g
theorem aQ {j n:Nat} (h:j < n):((0:Int)<=(j:Int)/\(j:Int) < (n:Int)):=by omega
theorem dW {j n:Nat} (h:j < n):((j:Int) < (n:Int)):=by omega
theorem eZ:M6 ()=some (true,()):=by kernel_rfl
theorem bQ {ps:List aL} {wy:aO} {step:(aa ps).den->RQ ps wy} {q:LQ wy}:∀ (k n:Nat) (f:Nat->(aa ps).den),k < n->(∀ j,j < k->step (f j) = .next (f (j + 1)))->step (f k) = .out q->aH step n (f 0)=q
 | 0,n + 1,f,_,_,ho=>by simp only [aH,ho]
 | k + 1,n + 1,f,hk,hn,ho=>by
  simp only [aH,hn 0 (by omega)]
  exact bQ k n (fun j=>f (j + 1)) (by omega) (fun j hj=>hn (j + 1) (by omega)) ho
theorem Cj {c:Nat->Bool}:∀ (n:Nat),(List.range n).all c=false->∃ k,k < n/\c k=false/\∀ i,i < k->c i=true
 | 0,h=>by simp at h
 | n + 1,h=>by
  cases h':(List.range n).all c with
  | false =>
   obtain ⟨k,h1,h2,h3⟩:=Cj n h'
   exact ⟨k,by omega,h2,h3⟩
  | true =>
   rw [List.range_succ,List.all_append,h',Bool.true_and] at h
   exact ⟨n,by omega,by simpa using h,fun i hi=>List.all_eq_true.1 h' i (by simpa using hi)⟩
theorem mQ {c:Nat->Bool} {n:Nat} (h:(List.range n).all c=true) {j:Nat} (hj:j < n):c j=true:=List.all_eq_true.1 h j (by simpa using hj)
theorem JL {c:Nat->Bool} {n:Nat} (h:∀ j,j < n->c j=true):(List.range n).all c=true:=List.all_eq_true.2 fun j hj=>h j (by simpa using hj)
theorem dX {ps:List aL} {wy:aO} {step:(aa ps).den->RQ ps wy} {N n:Nat} {f:Nat->(aa ps).den} {c:Nat->Bool} {qe qr:LQ wy} (hn:n < N)
  (h1:∀ j,j < n->(∀ i,i < j->c i=true)->step (f j)=bif c j then .next (f (j + 1)) else .out qr) (h2:(∀ i,i < n->c i=true)->step (f n) = .out qe):aH step N (f 0)=bif (List.range n).all c then qe else qr:=by
 cases h:(List.range n).all c with
 | true =>
  have hc:∀ i,i < n->c i=true:=fun i hi=>List.all_eq_true.1 h i (by simpa using hi)
  exact bQ n N f hn (fun j hj=>by rw [h1 j hj fun i hi=>hc i (by omega),hc j hj]; rfl) (h2 hc)
 | false =>
  obtain ⟨k,k1,k2,k3⟩:=Cj n h
  exact bQ k N f (by omega) (fun j hj=>by rw [h1 j (by omega) fun i hi=>k3 i (by omega),k3 j hj]; rfl) (by rw [h1 k k1 k3,k2]; rfl)
def fB (c:Nat->Bool):Nat->Option Nat
 | 0=>none
 | n + 1=>match fB c n with
  | some k=>some k
  | none=>bif c n then some n else none
theorem jg {c:Nat->Bool}:∀ {n:Nat},fB c n=none->∀ j,j < n->c j=false
 | n + 1,h,j,hj=>by
  simp only [fB] at h
  cases h':fB c n with
  | some k=>rw [h'] at h; cases h
  | none =>
   rw [h'] at h
   by_cases e:j=n
   ·subst e
    cases hc:c j with
    | false=>rfl
    | true=>rw [hc] at h; cases h
   ·exact jg h' j (by omega)
theorem kD {c:Nat->Bool}:∀ {n k:Nat},fB c n=some k->k < n/\c k=true/\∀ j,j < k->c j=false
 | n + 1,k,h=>by
  simp only [fB] at h
  cases h':fB c n with
  | some k' =>
   rw [h'] at h
   cases h
   obtain ⟨h1,h2,h3⟩:=kD h'
   exact ⟨by omega,h2,h3⟩
  | none =>
   rw [h'] at h
   cases hc:c n with
   | false=>rw [hc] at h; cases h
   | true=>rw [hc] at h; cases h; exact ⟨by omega,hc,jg h'⟩
theorem kG {ps:List aL} {wy:aO} {step:(aa ps).den->RQ ps wy} {N n:Nat} {f:Nat->(aa ps).den} {c:Nat->Bool} {qe:LQ wy} {qr:Nat->LQ wy} (hn:n < N)
  (h1:∀ j,j < n->(∀ i,i < j->c i=false)->step (f j)=bif c j then .out (qr j) else .next (f (j + 1))) (h2:(∀ i,i < n->c i=false)->step (f n) = .out qe):aH step N (f 0)=match fB c n with | some k=>qr k | none=>qe:=by
 cases h:fB c n with
 | none =>
  have hc:=jg h
  exact bQ n N f hn (fun j hj=>by rw [h1 j hj fun i hi=>hc i (by omega),hc j hj]; rfl) (h2 hc)
 | some k =>
  obtain ⟨k1,k2,k3⟩:=kD h
  exact bQ k N f (by omega) (fun j hj=>by rw [h1 j (by omega) fun i hi=>k3 i (by omega),k3 j hj]; rfl) (by rw [h1 k k1 k3,k2]; rfl)
theorem Mk {n:Nat} (h:n<=140737488355328):n < cz:=by unfold cz; omega
variable {α:Type}
def snoc (s:Sl α) (y:α):Sl α:=cK s ⟨1,fun i=>List.getD [y] i y⟩
theorem IP (s:Sl α) (y:α):(snoc s y).n=s.n + 1:=rfl
theorem Ik {s:Sl α} {y:α} {i:Nat} (h:i < s.n):(snoc s y).g i=s.g i:=by
 have:Nat.blt i s.n=true:=by rw [Nat.blt_eq]; exact h
 simp [snoc,cK,this]
theorem Il (s:Sl α) (y:α):(snoc s y).g s.n=y:=by
 have:Nat.blt s.n s.n=false:=by
  cases h:Nat.blt s.n s.n with
  | false=>rfl
  | true=>rw [Nat.blt_eq] at h; omega
 simp [snoc,cK,this]
def tab (s0:Sl α) (y:Nat->α):Nat->Sl α
 | 0=>s0
 | j + 1=>snoc (tab s0 y j) (y j)
theorem jq {ps:List aL} {wy:aO} {step:(aa ps).den->RQ ps wy} {N:Nat} {P:Nat->(aa ps).den->Prop} {q:(aa ps).den->LQ wy} (k:Nat) (hk:k < N)
  (h1:∀ j s,j < k->P j s->∃ s',step s = .next s'/\P (j + 1) s') (h2:∀ s,P k s->step s = .out (q s)) (s:(aa ps).den) (h0:P 0 s):∃ s',P k s'/\aH step N s=q s':=by
 have:∀ d j s n,j + d=k->d < n->P j s->∃ s',P k s'/\aH step n s=q s':=by
  intro d
  induction d with
  | zero =>
   intro j s n e hn hp
   obtain rfl:j=k:=by omega
   cases n with
   | zero=>omega
   | succ n=>exact ⟨s,hp,by simp only [aH,h2 s hp]⟩
  | succ d ih =>
   intro j s n e hn hp
   cases n with
   | zero=>omega
   | succ n =>
    obtain ⟨s',e1,Yw⟩:=h1 j s (by omega) hp
    obtain ⟨s'',aDj,e2⟩:=ih (j + 1) s' n (by omega) (by omega) Yw
    exact ⟨s'',aDj,by simp only [aH,e1]; exact e2⟩
 exact this k 0 s N (by omega) hk h0
end Go.Dm

/- All links, in order: map by map, and low by low. -/
import Derived.Test.YtadkaccpacpklaaL10LM0
set_option linter.unusedVariables false
set_option linter.unusedSimpArgs false
namespace Go.Low
variable {s:PS}
def has (r:List Int) (b:Int):Bool:=r.contains b
def eY (k:Nat) (r:List Int):Nat:=((List.range k).filter fun b:Nat=>!has r (b:Int)).length
def eO (r:List Int):Nat:=r.count (-1)
def eP (L:LL):Nat:=((L.drop 1).map eO).sum
def fc (L:LL):Nat:=((List.range (L.length - 1)).map fun t=>eY (L.getD t []).length (L.getD (t + 1) [])).sum
theorem ku {L M:LL} {t:Nat} (h:t < L.length):(L ++ M).getD t []=L.getD t []:=by
 simp only [List.getD_eq_getElem?_getD]; rw [List.getElem?_append_left h]
theorem jo {L:LL} {r:List Int}:(L ++ [r]).getD L.length []=r:=by
 simp only [List.getD_eq_getElem?_getD]; rw [List.getElem?_append_right (Nat.le_refl _),Nat.sub_self]; rfl
theorem qZ {L:LL} {r:List Int} (h:0 < L.length):eP (L ++ [r])=eP L + eO r:=by
 cases L with
 | nil=>cases h
 | cons a L=>simp [eP]
theorem Ci {L:LL} {r:List Int} (h:0 < L.length):fc (L ++ [r])=fc L + eY (L.getD (L.length - 1) []).length r:=by
 obtain ⟨n,hn⟩:∃ n,L.length=n + 1:=⟨L.length - 1,by omega⟩
 unfold fc
 rw [List.length_append,List.length_singleton,hn,Nat.add_sub_cancel,Nat.add_sub_cancel,List.range_succ,List.map_append,List.sum_append]
 congr 1
 ·refine congrArg List.sum (List.map_congr_left fun t ht=>?_)
  have ht:=List.mem_range.1 ht
  rw [ku (by omega),ku (by omega)]
 ·have e:=jo (L:=L) (r:=r)
  rw [hn] at e
  simp only [List.map_cons,List.map_nil,List.sum_cons,List.sum_nil,Nat.add_zero]
  rw [e,ku (by omega)]
def Ba (s:PS) (p q:Nat×Nat):Bool:=(List.range 3).all fun a=>decide (lo (s.box p.1 p.2) a - hi (s.box q.1 q.2) a<=dV s a * (s.tm p.1 - s.tm q.1)) && decide (lo (s.box q.1 q.2) a - hi (s.box p.1 p.2) a<=dV s a * (s.tm p.1 - s.tm q.1))
theorem JJ {p q:Nat×Nat}:Ba s p q=true↔tog s p q:=by
 simp only [Ba,tog,List.all_eq_true,List.mem_range,Bool.and_eq_true,decide_eq_true_eq]
def chB (s:PS) (L:LL):Bool:=(List.range (L.getD (L.length - 1) []).length).all fun i=>(uT L (L.length - 1) i).tail.all fun p=>Ba s (L.length - 1,i) p
def okB (s:PS) (L:LL):Bool:=decide ((eP L:Int)<=s.born) && decide ((fc L:Int)<=s.gone) && chB s L
def me (before:Nat) (r:List Int):LL:=(r ++ [-1]) :: (List.range before).flatMap fun b:Nat=>if has r (b:Int) then [] else [r ++ [(b:Int)]]
def gV (before:Nat):Nat->List Int->LL
 | 0,r=>[r]
 | m + 1,r=>(me before r).flatMap (gV before m)
def oU (s:PS):Nat->LL->List LL
 | 0,L=>[L]
 | m + 1,L=>(gV (s.k (L.length - 1)) (s.k L.length) []).flatMap fun r=>if okB s (L ++ [r]) then oU s m (L ++ [r]) else []
def gen (s:PS):Nat->Int->Int->LL->List Int->List LL
 | 0,_,_,_,_=>[]
 | n + 1,born,gone,L,r =>
  if L.length=s.N then [L]
  else if r.length=s.k L.length then
   if s.gone < gone + (eY (s.k (L.length - 1)) r:Nat) then [] else gen s n born (gone + (eY (s.k (L.length - 1)) r:Nat)) (L ++ [r]) []
  else (if born < s.born then gen s n (born + 1) gone L (r ++ [-1]) else []) ++
   (List.range (s.k (L.length - 1))).flatMap fun b:Nat=>if has r (b:Int) then [] else
    if UY (inter (s.box L.length r.length) (wide s (can s L (L.length - 1) b) (s.tm L.length - s.tm (L.length - 1)))) then gen s n born gone L (r ++ [(b:Int)]) else []
theorem zj {α β:Type} {l:List α} {f:α->List β} (h:∀ a∈l,f a=[]):l.flatMap f=[]:=by
 induction l with
 | nil=>rfl
 | cons a l ih=>rw [List.flatMap_cons,h a (.head _),ih fun b hb=>h b (.tail _ hb)]; rfl
theorem qO {α β:Type} {l:List α} {f g:α->List β} (h:∀ a∈l,f a=g a):l.flatMap f=l.flatMap g:=by
 induction l with
 | nil=>rfl
 | cons a l ih=>rw [List.flatMap_cons,List.flatMap_cons,h a (.head _),ih fun b hb=>h b (.tail _ hb)]
theorem JK {before:Nat} {r x:List Int} (h:x∈me before r):∃ c:Int,x=r ++ [c]/\(c = -1\/∃ b:Nat,b < before/\c=b/\has r c=false):=by
 simp only [me,List.mem_cons,List.mem_flatMap,List.mem_range] at h
 rcases h with h | ⟨b,hb,h⟩
 ·exact ⟨-1,h,.inl rfl⟩
 ·split at h
  ·simp at h
  ·rename_i hn
   simp only [List.mem_singleton] at h
   exact ⟨b,h,.inr ⟨b,hb,rfl,by simpa using hn⟩⟩
theorem vP {before:Nat}:∀ {m:Nat} {r x:List Int},x∈gV before m r->r <+: x/\x.length=r.length + m
 | 0,r,x,h=>by simp only [gV,List.mem_singleton] at h; subst h; exact ⟨List.prefix_refl _,rfl⟩
 | m + 1,r,x,h=>by
  simp only [gV,List.mem_flatMap] at h
  obtain ⟨y,hy,hx⟩:=h
  obtain ⟨c,rfl,_⟩:=JK hy
  obtain ⟨h1,h2⟩:=vP hx
  exact ⟨(List.prefix_append _ _).trans h1,by rw [h2]; simp; omega⟩
def kz (s:PS):Nat->Nat->Nat
 | 0,_=>1
 | m + 1,t=>s.k t + 1 + kz s m (t + 1)
theorem aas (L:LL) (t i:Nat):uT L t i=(t,i) :: (uT L t i).tail:=by cases t <;> simp [uT]
theorem akc (hs:s.Ok):∀ (n:Nat) (L:LL) (r:List Int) (born gone:Int),kz s (s.N - L.length) L.length<=n + r.length->0 < L.length->L.length<=s.N->(∀ t,t < L.length->(L.getD t []).length=s.k t) ->
  (L.length < s.N->r.length<=s.k L.length)->(L.length=s.N->r=[])->born=(eP L:Int) + (eO r:Int)->born<=s.born->gone=(fc L:Int)->(∀ i,i < s.k (L.length - 1)->ne (can s L (L.length - 1) i)) ->
  (∀ i x,r[i]? = some x->x = -1\/0<=x/\x.toNat < s.k (L.length - 1)/\∀ p∈uT L (L.length - 1) x.toNat,tog s (L.length,i) p) ->
  gen s n born gone L r=if L.length=s.N then [L] else (gV (s.k (L.length - 1)) (s.k L.length - r.length) r).flatMap fun r=>if okB s (L ++ [r]) then oU s (s.N - L.length - 1) (L ++ [r]) else []:=by
 intro n
 induction n with
 | zero =>
  intro L r born gone hm hL hN hsh hr hr0 _ _ _ _ _
  exfalso
  by_cases e:L.length=s.N
  ·rw [hr0 e,e,Nat.sub_self] at hm; simp [kz] at hm
  ·obtain ⟨m,YX⟩:∃ m,s.N - L.length=m + 1:=⟨s.N - L.length - 1,by omega⟩
   rw [YX] at hm
   have:=hr (by omega)
   have h1:1<=kz s m (L.length + 1):=by
    have:∀ m t,1<=kz s m t:=by
     intro m
     induction m with
     | zero=>intro t; exact Nat.le_refl _
     | succ m ih=>intro t; have:=ih (t + 1); simp only [kz]; omega
    exact this _ _
   simp only [kz] at hm
   omega
 | succ n ih =>
  intro L r born gone hm hL hN hsh hr hr0 hb Sx hg hcan hch
  rw [gen]
  by_cases e:L.length=s.N
  ·rw [if_pos e,if_pos e]
  rw [if_neg e,if_neg e]
  obtain ⟨m,YX⟩:∃ m,s.N - L.length=m + 1:=⟨s.N - L.length - 1,by omega⟩
  have tY:=hr (by omega)
  rw [YX] at hm
  obtain ⟨t,ht⟩:∃ t,L.length=t + 1:=⟨L.length - 1,by omega⟩
  by_cases e2:r.length=s.k L.length
  ·rw [if_pos e2,e2,Nat.sub_self]
   simp only [gV,List.flatMap_cons,List.flatMap_nil,List.append_nil]
   -- the map is whole
   have Xq:(eP (L ++ [r]):Int)=born:=by rw [qZ hL,hb]; simp
   have hgl:(fc (L ++ [r]):Int)=gone + (eY (s.k (L.length - 1)) r:Nat):=by rw [Ci hL,hsh _ (by omega),hg]; simp
   have hlen:(L ++ [r]).length=L.length + 1:=by simp
   have aDg:∀ i,i < r.length->∀ p∈(uT (L ++ [r]) L.length i).tail,tog s (L.length,i) p:=fun i hi p hp=>by
    rw [ht] at hp ⊢
    simp only [uT,List.tail_cons] at hp
    have hl:qR (L ++ [r]) (t + 1) i=r[i]:=by rw [<- ht,qN,List.getD_eq_getElem?_getD,List.getElem?_eq_getElem hi]; rfl
    rw [hl] at hp
    split at hp
    case isFalse=>simp at hp
    rename_i h0
    rcases hch i _ (List.getElem?_eq_getElem hi) with h1 | ⟨_,_,h1⟩
    ·omega
    ·rw [AZ (by omega)] at hp
     rw [ht,Nat.add_sub_cancel] at h1
     exact h1 p hp
   have aDh:chB s (L ++ [r])=true:=by
    unfold chB
    rw [hlen,Nat.add_sub_cancel,jo]
    simp only [List.all_eq_true,List.mem_range]
    exact fun i hi p hp=>JJ.2 (aDg i hi p hp)
   have hok:okB s (L ++ [r]) = !decide (s.gone < gone + (eY (s.k (L.length - 1)) r:Nat)):=by
    unfold okB
    rw [aDh,Xq,hgl,decide_eq_true Sx,Bool.true_and,Bool.and_true]
    by_cases h:s.gone < gone + (eY (s.k (L.length - 1)) r:Nat)
    ·rw [decide_eq_true h,decide_eq_false (by omega)]; rfl
    ·rw [decide_eq_false h,decide_eq_true (by omega)]; rfl
   rw [hok]
   by_cases hgg:s.gone < gone + (eY (s.k (L.length - 1)) r:Nat)
   ·rw [if_pos hgg,decide_eq_true hgg]; rfl
   rw [if_neg hgg,decide_eq_false hgg]
   simp only [Bool.not_false,if_true]
   have asL:∀ i,i < s.k ((L ++ [r]).length - 1)->ne (can s (L ++ [r]) ((L ++ [r]).length - 1) i):=fun i hi=>by
    rw [hlen,Nat.add_sub_cancel] at hi ⊢
    rw [ht]
    simp only [can]
    have hil:i < r.length:=by omega
    have hl:qR (L ++ [r]) (t + 1) i=r[i]:=by rw [<- ht,qN,List.getD_eq_getElem?_getD,List.getElem?_eq_getElem hil]; rfl
    rw [hl]
    have hlt:t + 1 < s.N:=by omega
    split
    ·rename_i h0
     rw [zi (by omega)]
     rcases hch i _ (List.getElem?_eq_getElem hil) with h1 | ⟨_,h1,h2⟩
     ·omega
     ·rw [ht,Nat.add_sub_cancel] at h1 h2 hcan
      exact (LV hs hlt (by rw [<- ht]; exact hi) (hcan _ h1)).2 h2
    ·intro a ha
     exact (hs.box (t + 1) i hlt (by rw [<- ht]; exact hi) a ha).2.1
   have hih:=ih (L ++ [r]) [] born (gone + (eY (s.k (L.length - 1)) r:Nat)) (by
     rw [hlen]
     have:s.N - (L.length + 1)=m:=by omega
     rw [this]
     simp only [kz] at hm
     rw [e2] at hm
     simp only [List.length_nil]; omega) (by rw [hlen]; omega) (by rw [hlen]; omega) (fun t' ht'=>by
     rw [hlen] at ht'
     by_cases h1:t'=L.length
     ·rw [h1,jo]; exact e2
     ·rw [ku (by omega)]; exact hsh t' (by omega)) (fun _=>Nat.zero_le _) (fun _=>rfl) (by rw [Xq]; simp [eO]) Sx hgl.symm asL (fun i x h=>by simp at h)
   rw [hih,hlen]
   have h1:s.N - L.length - 1=m:=by omega
   rw [h1]
   by_cases h2:L.length + 1=s.N
   ·rw [if_pos h2]
    have:m=0:=by omega
    subst this; rfl
   ·rw [if_neg h2]
    obtain ⟨m',hm'⟩:∃ m',m=m' + 1:=⟨m - 1,by omega⟩
    subst hm'
    simp only [oU,hlen,Nat.add_sub_cancel,List.length_nil,Nat.sub_zero]
    rw [show s.N - (L.length + 1) - 1=m' by omega]
  ·rw [if_neg e2]
   obtain ⟨q,hq⟩:∃ q,s.k L.length - r.length=q + 1:=⟨s.k L.length - r.length - 1,by omega⟩
   have hrl:r.length < s.k L.length:=by omega
   rw [hq]
   simp only [gV,me,List.flatMap_cons,List.flatMap_append,List.flatMap_assoc]
   have hq2:∀ c:Int,s.k L.length - (r ++ [c]).length=q:=fun c=>by simp; omega
   have NY:∀ c:Int,kz s (s.N - L.length) L.length<=n + (r ++ [c]).length:=fun c=>by rw [YX]; simp; omega
   have ag8:∀ (c:Int) (i:Nat) (x:Int),(r ++ [c])[i]? = some x->i < r.length/\r[i]? = some x\/i=r.length/\x=c:=fun c i x h=>by
    by_cases h1:i < r.length
    ·rw [List.getElem?_append_left h1] at h; exact .inl ⟨h1,h⟩
    ·rw [List.getElem?_append_right (by omega)] at h
     have h2:=(List.getElem?_eq_some_iff.1 h).1
     simp at h2
     have:i=r.length:=by omega
     subst this
     simp at h
     exact .inr ⟨rfl,h.symm⟩
   congr 1
   ·by_cases uk:born < s.born
    ·rw [if_pos uk]
     have:=ih L (r ++ [-1]) (born + 1) gone (NY _) hL hN hsh (fun _=>by simp; omega) (fun h=>absurd h e) (by rw [hb]; simp [eO]; omega) (by omega) hg hcan (fun i x h=>by
      rcases ag8 _ _ _ h with ⟨_,h⟩ | ⟨_,h⟩
      ·exact hch i x h
      ·exact .inl h)
     rw [this,if_neg e,hq2]
    ·rw [if_neg uk]
     refine (zj fun x hx=>?_).symm
     have hp:=(vP hx).1
     have aR4:eO (r ++ [-1])<=eO x:=hp.sublist.count_le _
     have aIs:eO (r ++ [-1])=eO r + 1:=by simp [eO]
     have:okB s (L ++ [x])=false:=by
      unfold okB
      rw [qZ hL,decide_eq_false (by push_cast; omega)]
      simp
     rw [this]; rfl
   ·refine qO fun b hb'=>?_
    have hb':=List.mem_range.1 hb'
    by_cases hh:has r (b:Int)=true
    ·rw [if_pos hh,if_pos hh]; rfl
    rw [if_neg hh,if_neg hh]
    simp only [List.flatMap_cons,List.flatMap_nil,List.append_nil]
    have hlt:t + 1 < s.N:=by omega
    have hcb:=hcan b hb'
    have hiff:UY (inter (s.box L.length r.length) (wide s (can s L (L.length - 1) b) (s.tm L.length - s.tm (L.length - 1))))=true↔∀ p∈uT L (L.length - 1) b,tog s (L.length,r.length) p:=by
     rw [Wc]
     rw [ht,Nat.add_sub_cancel] at hcb ⊢
     exact LV hs hlt (by rw [<- ht]; exact hrl) hcb
    by_cases hne:UY (inter (s.box L.length r.length) (wide s (can s L (L.length - 1) b) (s.tm L.length - s.tm (L.length - 1))))=true
    ·rw [if_pos hne]
     have aDi:=hiff.1 hne
     have:=ih L (r ++ [(b:Int)]) born gone (NY _) hL hN hsh (fun _=>by simp; omega) (fun h=>absurd h e) (by
      rw [hb]
      have:eO (r ++ [(b:Int)])=eO r:=by
       simp only [eO,List.count_append]
       have:List.count (-1) [(b:Int)]=0:=by
        rw [List.count_eq_zero]; simp
       omega
      rw [this]) Sx hg hcan (fun i x h=>by
      rcases ag8 _ _ _ h with ⟨_,h⟩ | ⟨h1,h⟩
      ·exact hch i x h
      ·subst h; subst h1; exact .inr ⟨by omega,by simpa using hb',by simpa using aDi⟩)
     rw [this,if_neg e,hq2]
    ·rw [if_neg hne]
     refine (zj fun x hx=>?_).symm
     obtain ⟨hp,Ad⟩:=vP hx
     have hlen:(L ++ [x]).length=L.length + 1:=by simp
     have hxb:x[r.length]? = some (b:Int):=by
      obtain ⟨y,rfl⟩:=hp
      rw [List.getElem?_append_left (by simp)]
      simp
     have:chB s (L ++ [x])=false:=by
      cases hc:chB s (L ++ [x]) with
      | false=>rfl
      | true =>
       exfalso
       refine hne (hiff.2 fun p Yw=>?_)
       unfold chB at hc
       rw [hlen,Nat.add_sub_cancel,jo] at hc
       simp only [List.all_eq_true,List.mem_range] at hc
       have:=hc r.length (by have:=(List.getElem?_eq_some_iff.1 hxb).1; exact this) p (by
        rw [ht]
        simp only [uT,List.tail_cons]
        have hl:qR (L ++ [x]) (t + 1) r.length=(b:Int):=by rw [<- ht,qN,List.getD_eq_getElem?_getD,hxb]; rfl
        rw [hl,if_pos (by omega),AZ (by omega)]
        rw [ht,Nat.add_sub_cancel] at Yw
        simpa using Yw)
       exact JJ.1 this
     have:okB s (L ++ [x])=false:=by unfold okB; rw [this,Bool.and_false]
     rw [this]; rfl
end Go.Low

/- Time that runs back. -/
import Derived.Test.YtadkaccpacpklaaL6LM5
set_option linter.unusedVariables false
set_option linter.unusedSimpArgs false
namespace Go.Low
open Go.Dm (fB kD jg)
variable {s s':PS} {L:LL}
structure Rev (s s':PS):Prop where
 N:s.N=s'.N
 k:∀ t,t < s.N->s'.k (s.N - 1 - t)=s.k t
 tm:∀ t,t < s.N->s'.tm (s.N - 1 - t)=200 - s.tm t
 box:∀ t i,t < s.N->i < s.k t->s'.box (s.N - 1 - t) i=s.box t i
 dV:∀ a,dV s' a=dV s a
 born:s'.born=s.gone
 gone:s'.gone=s.born
theorem Rev.symm (h:Rev s s'):Rev s' s:=by
 have hN:=h.N
 have q:∀ t,t < s'.N->s'.N - 1 - (s'.N - 1 - t)=t:=fun t ht=>by omega
 refine ⟨hN.symm,fun t ht=>?_,fun t ht=>?_,fun t i ht hi=>?_,fun a=>(h.dV a).symm,h.gone.symm,h.born.symm⟩
 ·have:=h.k (s'.N - 1 - t) (by omega)
  rw [hN,q t ht] at this
  exact this.symm
 ·have:=h.tm (s'.N - 1 - t) (by omega)
  rw [hN,q t ht] at this
  omega
 ·have h1:=h.k (s'.N - 1 - t) (by omega)
  rw [hN,q t ht] at h1
  have:=h.box (s'.N - 1 - t) i (by omega) (by omega)
  rw [hN,q t ht] at this
  exact this.symm
def nxI (s:PS) (L:LL) (t j:Nat):Int:=match nx s L t j with | some i=>(i:Int) | none=>-1
def rev (s:PS) (L:LL):LL:=List.replicate (s.k (s.N - 1)) (-1) :: (List.range (s.N - 1)).map fun t'=>(List.range (s.k (s.N - 2 - t'))).map (nxI s L (s.N - 2 - t'))
theorem ab3 (hn:0 < s.N):(rev s L).length=s.N:=by unfold rev; simp; omega
theorem abm {t:Nat} (ht:t + 1 < s.N):(rev s L).getD (s.N - 1 - t) []=(List.range (s.k t)).map (nxI s L t):=by
 obtain ⟨u,hu⟩:∃ u,s.N - 1 - t=u + 1:=⟨s.N - 2 - t,by omega⟩
 have h2:s.N - 2 - u=t:=by omega
 unfold rev
 rw [hu,List.getD_cons_succ,List.getD_eq_getElem?_getD,List.getElem?_map,List.getElem?_range (by omega)]
 simp only [Option.map_some,Option.getD_some,h2]
theorem abx {t j:Nat} (ht:t + 1 < s.N) (hj:j < s.k t):qR (rev s L) (s.N - 1 - t) j=nxI s L t j:=by
 unfold qR
 rw [abm ht,List.getD_eq_getElem?_getD,List.getElem?_map,List.getElem?_range hj]; rfl
theorem aBu (h:wD s L) {t i j:Nat} (ht:t + 1 < s.N) (hi:i < s.k (t + 1)) (e:qR L (t + 1) i=(j:Int)):nx s L t j=some i:=by
 cases hn:nx s L t j with
 | none=>exact absurd e (aXi hn hi)
 | some m =>
  obtain ⟨h1,h2⟩:=aqc hn
  have:=aKB h ht h1 hi (by omega) (h2.trans e.symm)
  rw [this]
theorem abj (h:wD s L) {t i j:Nat} (ht:t + 1 < s.N) (hi:i < s.k (t + 1)):nxI s L t j=(i:Int)↔qR L (t + 1) i=(j:Int):=by
 unfold nxI
 constructor
 ·intro e
  cases hn:nx s L t j with
  | none=>rw [hn] at e; dsimp only at e; omega
  | some m =>
   rw [hn] at e
   dsimp only at e
   have:m=i:=by omega
   subst this
   exact (aqc hn).2
 ·intro e
  rw [aBu h ht hi e]
theorem ae9 (h:wD s L) {t j:Nat} (ht:t + 1 < s.N):nxI s L t j = -1↔has (L.getD (t + 1) []) (j:Int)=false:=by
 unfold nxI
 constructor
 ·intro e
  cases hn:nx s L t j with
  | some m=>rw [hn] at e; dsimp only at e; omega
  | none =>
   cases hh:has (L.getD (t + 1) []) (j:Int) with
   | false=>rfl
   | true =>
    obtain ⟨i,hi,e⟩:=(aFH h ht _ (by omega)).1 hh
    exact absurd e (aXi hn hi)
 ·intro e
  cases hn:nx s L t j with
  | none=>rfl
  | some m =>
   have:=(aFH h ht (j:Int) (by omega)).2 ⟨m,aqc hn⟩
   rw [e] at this; cases this
theorem au0 (L:LL) (t j:Nat):nxI s L t j = -1\/∃ i:Nat,i < s.k (t + 1)/\nxI s L t j=(i:Int)/\qR L (t + 1) i=(j:Int):=by
 unfold nxI
 cases hn:nx s L t j with
 | none=>exact .inl rfl
 | some i=>exact .inr ⟨i,(aqc hn).1,rfl,(aqc hn).2⟩
theorem afB (h:wD s L):∀ {t i:Nat},t < s.N->i < s.k t->(uT (rev s L) (s.N - 1 - t) i).map (fun p=>(s.N - 1 - p.1,p.2))=des s L (s.N - 1 - t) t i:=by
 have key:∀ (m t i:Nat),t + m + 1=s.N->i < s.k t->(uT (rev s L) m i).map (fun p=>(s.N - 1 - p.1,p.2))=des s L m t i:=by
  intro m
  induction m with
  | zero =>
   intro t i ht hi
   have:s.N - 1 - 0=t:=by omega
   simp [uT,des,this]
  | succ m ih =>
   intro t i ht hi
   have h1:s.N - 1 - t=m + 1:=by omega
   have h2:s.N - 1 - (m + 1)=t:=by omega
   have hl:=abx (L:=L) (s:=s) (t:=t) (j:=i) (by omega) hi
   rw [h1] at hl
   simp only [uT,des,List.map_cons,h2]
   congr 1
   rw [hl]
   unfold nxI
   cases hn:nx s L t i with
   | none=>simp
   | some j =>
    have h3:=aqc hn
    dsimp only
    rw [if_pos (by omega),Int.toNat_natCast]
    exact ih (t + 1) j (by omega) h3.1
 intro t i ht hi
 exact key _ t i (by omega) hi
theorem afC (h:wD s L) (R:Rev s s'):∀ (m t i:Nat) (p:Nat×Nat),m<=t->t < s.N->i < s.k t->p∈des s' (rev s L) m (s.N - 1 - t) i->(s.N - 1 - p.1,p.2)∈uT L t i
 | 0,t,i,p,hm,ht,hi,hp=>by
  simp [des] at hp
  subst hp
  have:s.N - 1 - (s.N - 1 - t)=t:=by omega
  dsimp only
  rw [this]; exact aa4 L t i
 | m + 1,t,i,p,hm,ht,hi,hp=>by
  obtain ⟨u,rfl⟩:∃ u,t=u + 1:=⟨t - 1,by omega⟩
  have e1:s.N - 1 - (u + 1) + 1=s.N - 1 - u:=by omega
  simp only [des,List.mem_cons] at hp
  rcases hp with hp | hp
  ·subst hp
   have:s.N - 1 - (s.N - 1 - (u + 1))=u + 1:=by omega
   dsimp only
   rw [this]; exact aa4 L _ i
  ·cases hn:nx s' (rev s L) (s.N - 1 - (u + 1)) i with
   | none=>rw [hn] at hp; simp at hp
   | some j =>
    rw [hn] at hp
    obtain ⟨h1,h2⟩:=aqc hn
    rw [e1] at h1 h2 hp
    rw [R.k u (by omega)] at h1
    rw [abx (by omega) h1] at h2
    have h3:=(abj h ht hi).1 h2
    have h4:=afC h R m u j p (by omega) (by omega) h1 hp
    simp only [uT,List.mem_cons]
    rw [h3,if_pos (by omega)]
    exact .inr (by simpa using h4)
theorem afV (L:LL) (t:Nat):((List.range (s.k t)).map (nxI s L t)).count (-1)=((List.range (s.k t)).filter fun j=>decide (nxI s L t j = -1)).length:=by
 rw [List.count_eq_countP,List.countP_map,<- List.countP_eq_length_filter]
 refine List.countP_congr fun j _=>?_
 simp
theorem aok (h:wD s L) {t:Nat} (ht:t + 1 < s.N):eO ((List.range (s.k t)).map (nxI s L t))=eY (s.k t) (L.getD (t + 1) []):=by
 unfold eO eY
 rw [afV]
 congr 1
 refine List.filter_congr fun j _=>?_
 have:=ae9 (j:=j) h ht
 cases hh:has (L.getD (t + 1) []) (j:Int) with
 | false=>rw [this.2 hh]; rfl
 | true =>
  have:¬ nxI s L t j = -1:=fun e=>by rw [this.1 e] at hh; cases hh
  rw [decide_eq_false this]; rfl
theorem aol (h:wD s L) {t:Nat} (ht:t + 1 < s.N):eY (s.k (t + 1)) ((List.range (s.k t)).map (nxI s L t))=eO (L.getD (t + 1) []):=by
 have hl:=(h.row t ht).1
 have e:L.getD (t + 1) []=(List.range (s.k (t + 1))).map fun i=>qR L (t + 1) i:=by
  refine List.ext_getElem? fun i=>?_
  rw [List.getElem?_map]
  by_cases hi:i < s.k (t + 1)
  ·rw [h.get ht hi,List.getElem?_range hi]; rfl
  ·rw [List.getElem?_eq_none (by omega),List.getElem?_eq_none (by simp; omega)]; rfl
 unfold eO eY
 rw [e,List.count_eq_countP,List.countP_map,<- List.countP_eq_length_filter]
 refine List.countP_congr fun i hi=>?_
 have hi:=List.mem_range.1 hi
 simp only [Function.comp,Bool.not_eq_true',beq_iff_eq]
 constructor
 ·intro hh
  rcases h.afg ht hi with h1 | ⟨h1,h2,_⟩
  ·exact h1
  ·have hx:nxI s L t (qR L (t + 1) i).toNat=(i:Int):=(abj h ht hi).2 (by omega)
   have:has ((List.range (s.k t)).map (nxI s L t)) (i:Int)=true:=zN.2 ⟨(qR L (t + 1) i).toNat,by rw [List.getElem?_map,List.getElem?_range h2]; exact congrArg some hx⟩
   rw [hh] at this; cases this
 ·intro hh
  cases hb:has ((List.range (s.k t)).map (nxI s L t)) (i:Int) with
  | false=>rfl
  | true =>
   obtain ⟨j,hj⟩:=zN.1 hb
   rw [List.getElem?_map] at hj
   cases hr:(List.range (s.k t))[j]? with
   | none=>rw [hr] at hj; cases hj
   | some j' =>
    rw [hr] at hj
    have:=(abj h ht hi).1 (Option.some.inj hj)
    omega
theorem ab4 (f:Nat->Nat):∀ n,((List.range n).map fun t=>f (n - 1 - t)).sum=((List.range n).map f).sum
 | 0=>rfl
 | n + 1=>by
  rw [List.range_succ_eq_map,List.map_cons,List.sum_cons,List.map_map]
  have e:((List.range n).map ((fun t=>f (n + 1 - 1 - t)) ∘ Nat.succ))=(List.range n).map fun t=>f (n - 1 - t):=List.map_congr_left fun t ht=>by
   have:=List.mem_range.1 ht
   simp only [Function.comp]
   congr 1; omega
  rw [e,ab4 f n]
  have:(List.map f (0 :: List.map Nat.succ (List.range n))).sum=((List.range (n + 1)).map f).sum:=by rw [<- List.range_succ_eq_map]
  rw [<- List.range_succ_eq_map,List.range_succ,List.map_append,List.sum_append]
  simp only [Nat.sub_zero,Nat.add_sub_cancel,List.map_cons,List.map_nil,List.sum_cons,List.sum_nil,Nat.add_zero]
  omega
theorem abX (h:0 < L.length):eP L=((List.range (L.length - 1)).map fun t=>eO (L.getD (t + 1) [])).sum:=by
 unfold eP
 congr 1
 refine List.ext_getElem? fun t=>?_
 rw [List.getElem?_map,List.getElem?_map,List.getElem?_drop]
 by_cases ht:t < L.length - 1
 ·rw [List.getElem?_range ht,Nat.add_comm 1 t,List.getElem?_eq_getElem (by omega)]
  show some (eO L[t + 1])=some (eO (L.getD (t + 1) []))
  rw [List.getD_eq_getElem?_getD,List.getElem?_eq_getElem (by omega)]; rfl
 ·rw [List.getElem?_eq_none (by omega),List.getElem?_eq_none (by simp; omega)]; rfl
theorem au1 (h:wD s L) {t:Nat} (ht:t < s.N):(L.getD t []).length=s.k t:=by
 cases t with
 | zero=>rw [h.first]; simp [first]
 | succ t=>exact (h.row t ht).1
theorem ail (hn:0 < s.N) (h:wD s L):eP (rev s L)=fc L:=by
 have hl:=ab3 (L:=L) hn
 rw [abX (by omega),hl]
 unfold fc
 rw [h.len,<- ab4]
 congr 1
 refine List.map_congr_left fun t ht=>?_
 have ht:=List.mem_range.1 ht
 obtain ⟨u,hu⟩:∃ u,s.N - 1 - 1 - t=u:=⟨_,rfl⟩
 have h1:u + 1=s.N - 1 - t:=by omega
 rw [hu,h1,abm (by omega),aok h (by omega),au1 h (by omega)]
theorem aim (hn:0 < s.N) (h:wD s L):fc (rev s L)=eP L:=by
 have hl:=ab3 (L:=L) hn
 rw [abX (by rw [h.len]; exact hn),h.len,<- ab4]
 unfold fc
 rw [hl]
 congr 1
 refine List.map_congr_left fun t ht=>?_
 have ht:=List.mem_range.1 ht
 obtain ⟨u,hu⟩:∃ u,s.N - 1 - 1 - t=u:=⟨_,rfl⟩
 have h1:t + 1=s.N - 1 - u:=by omega
 have h2:((rev s L).getD t []).length=s.k (u + 1):=by
  cases t with
  | zero =>
   have:u + 1=s.N - 1:=by omega
   rw [this]
   unfold rev
   simp
  | succ v =>
   have h3:v + 1=s.N - 1 - (u + 1):=by omega
   rw [h3,abm (by omega)]
   simp
 rw [hu,h1,abm (by omega),h2,aol h (by omega)]
theorem Rev.links (R:Rev s s') (hs:s.Ok) (h:wD s L):wD s' (rev s L):=by
 have hn:=hs.n1
 have hN:=R.N
 have hk:=R.k
 refine ⟨(ab3 hn).trans hN,?_,fun t' ht'=>?_,?_,?_,fun t' ht' i hi p hp=>?_⟩
 ·have:=hk (s.N - 1) (by omega)
  rw [Nat.sub_self] at this
  unfold first rev
  rw [this]; rfl
 ·obtain ⟨t,ht,rfl⟩:∃ t,t + 1 < s.N/\t'=s.N - 1 - (t + 1):=⟨s.N - 1 - t' - 1,by omega,by omega⟩
  have e1:s.N - 1 - (t + 1) + 1=s.N - 1 - t:=by omega
  rw [e1,hk (t + 1) ht,hk t (by omega),abm ht]
  refine ⟨by simp,fun j x hx=>?_⟩
  rw [List.getElem?_map] at hx
  cases hr:(List.range (s.k t))[j]? with
  | none=>rw [hr] at hx; cases hx
  | some j' =>
   have hj:j < s.k t:=by
    have:=(List.getElem?_eq_some_iff.1 hr).1
    simpa using this
   rw [List.getElem?_range hj] at hr
   have:=Option.some.inj hr
   subst this
   rw [List.getElem?_range hj] at hx
   have hx:=Option.some.inj hx
   rcases au0 (s:=s) L t j with h1 | ⟨i,h1,h2,h3⟩
   ·exact .inl (hx.symm.trans h1)
   ·rw [h2] at hx
    subst hx
    refine .inr ⟨by omega,by omega,fun m hm hmx=>?_⟩
    rw [List.getElem?_map,List.getElem?_range (by omega)] at hmx
    have:=(abj h ht h1).1 (Option.some.inj hmx)
    omega
 ·rw [ail hn h,R.born]; exact h.gone
 ·rw [aim hn h,R.gone]; exact h.born
 ·obtain ⟨t,rfl⟩:∃ t,t'=s.N - 1 - t:=⟨s.N - 1 - t',by omega⟩
  by_cases ht:t < s.N
  ·rw [hk t ht] at hi
   have Yw:p∈uT (rev s L) (s.N - 1 - t) i:=List.mem_of_mem_tail hp
   have h1:(s.N - 1 - p.1,p.2)∈des s L (s.N - 1 - t) t i:=by
    rw [<- afB h ht hi]
    exact List.mem_map_of_mem (f:=fun p:Nat×Nat=>(s.N - 1 - p.1,p.2)) Yw
   have h2:=atN (s:=s) (L:=L) (fun _ _=>trivial) (by omega) hi _ h1
   dsimp only at h2
   have h3:=ahU Yw
   have h4:p.1≠s.N - 1 - t:=by
    revert hp
    cases hq:s.N - 1 - t with
    | zero=>simp [uT]
    | succ v =>
     simp only [uT,List.tail_cons]
     split
     ·intro hp; have:=ahU hp; omega
     ·intro hp; cases hp
   have h5:=azp h1
   dsimp only at h5
   rw [aas,List.mem_cons] at h5
   have aa6:p.1=s.N - 1 - (s.N - 1 - p.1):=by omega
   have h6:tog s (s.N - 1 - p.1,p.2) (t,i):=by
    rcases h5 with h5 | h5
    ·have:t=s.N - 1 - p.1:=congrArg Prod.fst h5
     omega
    ·exact h.ch _ h2.1 _ h2.2 _ h5
   intro a ha
   have h7:=h6 a ha
   have b1:=R.box t i ht hi
   have b2:=R.box (s.N - 1 - p.1) p.2 h2.1 h2.2
   have t1:=R.tm t ht
   have t2:=R.tm (s.N - 1 - p.1) h2.1
   rw [<- aa6] at b2 t2
   dsimp only at h7 ⊢
   rw [b1,b2,t1,t2,R.dV a]
   have:200 - s.tm t - (200 - s.tm (s.N - 1 - p.1))=s.tm (s.N - 1 - p.1) - s.tm t:=by omega
   rw [this]
   exact ⟨h7.2,h7.1⟩
  ·have e0:s.N - 1 - t=0:=by omega
   rw [e0] at hp
   simp [uT] at hp
theorem Rev.pos (R:Rev s s') (h:wD s L) {t i:Nat} (ht:t < s.N) (hi:i < s.k t) {a:Nat}:lo (pos s' (rev s L) (s.N - 1 - t) i) a<=lo (pos s L t i) a/\Low.hi (pos s L t i) a<=Low.hi (pos s' (rev s L) (s.N - 1 - t) i) a:=by
 have key:∀ p∈chain s' (rev s L) (s.N - 1 - t) i,(s.N - 1 - p.1,p.2)∈chain s L t i/\p.1 < s.N:=fun p hp=>by
  rcases List.mem_append.1 hp with hp | hp
  ·refine ⟨List.mem_append_right _ ?_,by have:=ahU hp; omega⟩
   rw [<- afB h ht hi]
   exact List.mem_map_of_mem (f:=fun p:Nat×Nat=>(s.N - 1 - p.1,p.2)) hp
  ·have h1:s'.N - 1 - (s.N - 1 - t)=t:=by have:=R.N; omega
   rw [h1] at hp
   have h2:=azo hp
   exact ⟨List.mem_append_left _ (afC h R t t i p (Nat.le_refl _) ht hi hp),by omega⟩
 have aBx:∀ p∈chain s' (rev s L) (s.N - 1 - t) i,s'.box p.1 p.2=s.box (s.N - 1 - p.1) p.2/\Low.dV s' a * dt s' (s.N - 1 - t) p.1=Low.dV s a * dt s t (s.N - 1 - p.1):=fun p hp=>by
  obtain ⟨h1,h2⟩:=key p hp
  have hin:s.N - 1 - p.1 < s.N/\p.2 < s.k (s.N - 1 - p.1):=by
   rcases List.mem_append.1 h1 with hp | hp
   ·exact akX h ht hi _ hp
   ·exact atN (fun _ _=>trivial) (by omega) hi _ hp
  have b2:=R.box (s.N - 1 - p.1) p.2 hin.1 hin.2
  have t1:=R.tm t ht
  have t2:=R.tm (s.N - 1 - p.1) hin.1
  have aa6:s.N - 1 - (s.N - 1 - p.1)=p.1:=by omega
  rw [aa6] at b2 t2
  refine ⟨b2,?_⟩
  rw [R.dV a]
  congr 1
  unfold dt
  rw [t1,t2]
  split
  ·split
   ·have:t=s.N - 1 - p.1:=by omega
    rw [this]; omega
   ·omega
  ·split
   ·omega
   ·omega
 constructor
 ·refine (aEe a _ _ i).2 fun p hp=>?_
  have h1:=(aEe (s:=s) (L:=L) a _ t i).1 (Int.le_refl _) _ (key p hp).1
  have h2:=aBx p hp
  rw [h2.1,h2.2]
  exact h1
 ·refine (aEf a _ _ i).2 fun p hp=>?_
  have h1:=(aEf (s:=s) (L:=L) a _ t i).1 (Int.le_refl _) _ (key p hp).1
  have h2:=aBx p hp
  rw [h2.1,h2.2]
  exact h1
theorem Rev.adk (R:Rev s s') (hs:s.Ok) (hs':s'.Ok) {t i:Nat} (ht:t < s.N) (hi:i < s.k t) (hne:Low.links s≠[]) (a:Nat):lo (ach s' (s.N - 1 - t) i) a<=lo (ach s t i) a/\Low.hi (ach s t i) a<=Low.hi (ach s' (s.N - 1 - t) i) a:=by
 have at2:Low.links s'≠[]:=by
  obtain ⟨L,hL⟩:=List.exists_mem_of_ne_nil _ hne
  exact List.ne_nil_of_mem ((tX hs').2 (R.links hs ((tX hs).1 hL)))
 constructor
 ·refine (aAC hne).2 fun L hL=>?_
  have hI:=(tX hs).1 hL
  have h1:=(aAC (t:=s.N - 1 - t) (i:=i) (a:=a) at2).1 (Int.le_refl _) _ ((tX hs').2 (R.links hs hI))
  have h2:=(R.pos hI ht hi (a:=a)).1
  omega
 ·refine (aAD hne).2 fun L hL=>?_
  have hI:=(tX hs).1 hL
  have h1:=(aAD (t:=s.N - 1 - t) (i:=i) (a:=a) at2).1 (Int.le_refl _) _ ((tX hs').2 (R.links hs hI))
  have h2:=(R.pos hI ht hi (a:=a)).2
  omega
theorem Rev.where (R:Rev s s') (hs:s.Ok) (hs':s'.Ok) {t i:Nat} (ht:t < s.N) (hi:i < s.k t) (hne:Low.links s≠[]):ach s' (s.N - 1 - t) i=ach s t i:=by
 have at2:Low.links s'≠[]:=by
  obtain ⟨L,hL⟩:=List.exists_mem_of_ne_nil _ hne
  exact List.ne_nil_of_mem ((tX hs').2 (R.links hs ((tX hs).1 hL)))
 have hN:=R.N
 have e1:s'.N - 1 - (s.N - 1 - t)=t:=by omega
 have hk:=R.k t ht
 have h1:=fun a=>R.adk hs hs' ht hi hne a
 have h2:=fun a=>R.symm.adk hs' hs (t:=s.N - 1 - t) (i:=i) (by omega) (by omega) at2 a
 rw [e1] at h2
 exact B6.ext (fun a _=>by have:=h1 a; have:=h2 a; omega) fun a _=>by have:=h1 a; have:=h2 a; omega
end Go.Low

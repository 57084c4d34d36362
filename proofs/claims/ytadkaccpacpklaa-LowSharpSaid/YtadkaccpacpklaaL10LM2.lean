/- All links: as they are listed map by map; which these are. -/
import Derived.Test.YtadkaccpacpklaaL10LM1
set_option linter.unusedVariables false
set_option linter.unusedSimpArgs false
namespace Go.Low
variable {s:PS}
def first (s:PS):List Int:=List.replicate (s.k 0) (-1)
def links (s:PS):List LL:=oU s (s.N - 1) [first s]
theorem VT (hs:s.Ok) {n:Nat} (hn:kz s (s.N - 1) 1<=n):gen s n 0 0 [first s] []=links s:=by
 have hb:eP [first s]=0:=rfl
 have hg:fc [first s]=0:=rfl
 have h:=akc hs n [first s] [] 0 0 (by simpa using hn) (by simp) hs.n1 (fun t ht=>by
   have:t=0:=by simp at ht; exact ht
   subst this; simp [first]) (fun _=>Nat.zero_le _) (fun _=>rfl) (by simp [hb,eO]) hs.bn.1 (by simp [hg]) (fun i hi a ha=>(hs.box 0 i hs.n1 (by simpa using hi) a ha).2.1) (fun i x h=>by simp at h)
 rw [h]
 unfold links
 have hlen:[first s].length=1:=rfl
 rw [hlen]
 by_cases e:1=s.N
 ·rw [if_pos e,<- e]; rfl
 ·rw [if_neg e]
  obtain ⟨m,hm⟩:∃ m,s.N - 1=m + 1:=⟨s.N - 2,by have:=hs.n1; omega⟩
  rw [hm]
  simp only [oU,hlen,List.length_nil,Nat.sub_zero,Nat.add_sub_cancel]
def Row (before m:Nat) (r:List Int):Prop:=r.length=m/\∀ (i:Nat) (x:Int),r[i]? = some x->x = -1\/(0<=x/\x.toNat < before/\∀ j:Nat,j < i->r[j]? ≠ some x)
theorem zN {r:List Int} {b:Int}:has r b=true↔∃ i:Nat,r[i]? = some b:=by
 unfold has
 rw [List.contains_iff_mem,List.mem_iff_getElem?]
theorem AE {before:Nat}:∀ {m:Nat} {r x:List Int},x∈gV before m r↔r <+: x/\x.length=r.length + m/\∀ (i:Nat) (c:Int),r.length<=i->x[i]? = some c->c = -1\/(0<=c/\c.toNat < before/\∀ j:Nat,j < i->x[j]? ≠ some c)
 | 0,r,x=>by
  simp only [gV,List.mem_singleton,Nat.add_zero]
  constructor
  ·rintro rfl
   exact ⟨List.prefix_refl _,rfl,fun i c hi h=>by have:=(List.getElem?_eq_some_iff.1 h).1; omega⟩
  ·rintro ⟨h1,h2,_⟩
   exact (h1.eq_of_length h2.symm).symm
 | m + 1,r,x=>by
  simp only [gV,List.mem_flatMap]
  constructor
  ·rintro ⟨y,hy,hx⟩
   obtain ⟨c,rfl,hc⟩:=JK hy
   obtain ⟨h1,h2,h3⟩:=AE.1 hx
   refine ⟨(List.prefix_append _ _).trans h1,by rw [h2]; simp; omega,fun i d hi hd=>?_⟩
   by_cases hi2:i=r.length
   ·subst hi2
    have hd2:d=c:=by
     obtain ⟨z,rfl⟩:=h1
     rw [List.getElem?_append_left (by simp)] at hd
     simpa using hd.symm
    subst hd2
    rcases hc with hc | ⟨b,hb,rfl,hh⟩
    ·exact .inl hc
    ·refine .inr ⟨by omega,by simpa using hb,fun j hj zZ=>?_⟩
     obtain ⟨z,rfl⟩:=h1
     rw [List.getElem?_append_left (by simp; omega),List.getElem?_append_left hj] at zZ
     have:has r (b:Int)=true:=zN.2 ⟨j,zZ⟩
     rw [hh] at this; cases this
   ·exact h3 i d (by simp; omega) hd
  ·rintro ⟨h1,h2,h3⟩
   obtain ⟨z,rfl⟩:=h1
   have hz:z.length=m + 1:=by simp at h2; omega
   obtain ⟨c,z,rfl⟩:∃ c z',z=c :: z':=by cases z with
    | nil=>cases hz
    | cons c z=>exact ⟨c,z,rfl⟩
   refine ⟨r ++ [c],?_,AE.2 ⟨by rw [show r ++ c :: z=(r ++ [c]) ++ z by simp]; exact List.prefix_append _ _,by simp at hz ⊢; omega,fun i d hi hd=>h3 i d (by simp at hi; omega) hd⟩⟩
   simp only [me,List.mem_cons,List.mem_flatMap,List.mem_range]
   rcases h3 r.length c (Nat.le_refl _) (by rw [List.getElem?_append_right (Nat.le_refl _)]; simp) with h | ⟨h4,h5,h6⟩
   ·exact .inl (by rw [h])
   ·refine .inr ⟨c.toNat,h5,?_⟩
    have hc:((c.toNat:Nat):Int)=c:=by omega
    rw [hc]
    have hn:has r c≠true:=fun h=>by
     obtain ⟨j,hj⟩:=zN.1 h
     have hjl:=(List.getElem?_eq_some_iff.1 hj).1
     exact h6 j hjl (by rw [List.getElem?_append_left hjl]; exact hj)
    rw [if_neg hn]
    exact .head _
theorem NZ {before m:Nat} {x:List Int}:x∈gV before m []↔Row before m x:=by
 rw [AE]
 simp only [List.nil_prefix,true_and,List.length_nil,Nat.zero_add,Nat.zero_le,true_implies]
 rfl
structure wD (s:PS) (L:LL):Prop where
 len:L.length=s.N
 first:L.getD 0 []=first s
 row:∀ t,t + 1 < s.N->Row (s.k t) (s.k (t + 1)) (L.getD (t + 1) [])
 born:(eP L:Int)<=s.born
 gone:(fc L:Int)<=s.gone
 ch:∀ t,t < s.N->∀ i,i < s.k t->∀ p∈(uT L t i).tail,tog s (t,i) p
theorem acG {L M:LL} (h:L <+: M):eP L<=eP M:=by
 obtain ⟨z,rfl⟩:=h
 cases L with
 | nil=>exact Nat.zero_le _
 | cons a L=>simp [eP]
theorem acH {L M:LL} (h:L <+: M):fc L<=fc M:=by
 obtain ⟨z,rfl⟩:=h
 revert L
 induction z with
 | nil=>intro L; simp
 | cons a z ih =>
  intro L
  rw [show L ++ a :: z=(L ++ [a]) ++ z by simp]
  refine Nat.le_trans ?_ ih
  cases L with
  | nil=>exact Nat.zero_le _
  | cons b L=>rw [Ci (by simp)]; omega
theorem anu {L:LL}:chB s L=true↔∀ i,i < (L.getD (L.length - 1) []).length->∀ p∈(uT L (L.length - 1) i).tail,tog s (L.length - 1,i) p:=by
 unfold chB
 simp only [List.all_eq_true,List.mem_range,JJ]
theorem aff {L:LL}:okB s L=true↔(eP L:Int)<=s.born/\(fc L:Int)<=s.gone/\chB s L=true:=by
 unfold okB
 simp only [Bool.and_eq_true,decide_eq_true_eq,and_assoc]
theorem Rt:∀ {m:Nat} {L x:LL},0 < L.length->(x∈oU s m L↔L <+: x/\x.length=L.length + m /\
    (∀ t,L.length<=t + 1->t + 1 < L.length + m->Row (s.k t) (s.k (t + 1)) (x.getD (t + 1) []))/\(0 < m->(eP x:Int)<=s.born/\(fc x:Int)<=s.gone) /\
    (∀ t,L.length<=t->t < L.length + m->∀ i,i < s.k t->∀ p∈(uT x t i).tail,tog s (t,i) p))
  | 0,L,x,hL=>by
    simp only [oU,List.mem_singleton,Nat.add_zero]
    constructor
    · rintro rfl
      exact ⟨List.prefix_refl _,rfl,fun t h1 h2=>by omega,fun h=>absurd h (Nat.lt_irrefl _),fun t h1 h2=>by omega⟩
    · rintro ⟨h1,h2,_⟩
      exact (h1.eq_of_length h2.symm).symm
  | m + 1,L,x,hL=>by
    simp only [oU,List.mem_flatMap]
    obtain ⟨t0,Rj⟩:∃ t,L.length=t + 1:=⟨L.length - 1,by omega⟩
    constructor
    · rintro ⟨r,hr,hx⟩
      split at hx
      case isFalse=>simp at hx
      rename_i hok
      have hr:=NZ.1 hr
      obtain ⟨h1,h2,h3,h4,h5⟩:=(Rt (by simp)).1 hx
      have hlen:(L ++ [r]).length=L.length + 1:=by simp
      rw [hlen] at h2 h3 h5
      have hxr:x.getD L.length []=r:=by
        obtain ⟨z,rfl⟩:=h1
        rw [ku (by omega),jo]
      refine ⟨(List.prefix_append _ _).trans h1,by omega,fun t q1 q2=>?_,fun _=>?_,fun t q1 q2=>?_⟩
      · by_cases e:t + 1=L.length
        · rw [e,hxr,<- e]
          rw [<- e,Nat.add_sub_cancel] at hr
          exact hr
        · exact h3 t (by omega) (by omega)
      · cases m with
        | zero =>
          simp only [oU,List.mem_singleton] at hx
          subst hx
          have:=aff.1 hok
          exact ⟨this.1,this.2.1⟩
        | succ m=>exact h4 (by omega)
      · by_cases e:t=L.length
        · subst e
          intro i hi p hp
          have hch:=anu.1 (aff.1 hok).2.2
          rw [hlen,Nat.add_sub_cancel,jo] at hch
          refine hch i (by rw [hr.1]; exact hi) p ?_
          obtain ⟨z,rfl⟩:=h1
          rwa [AZ (by omega)] at hp
        · exact h5 t (by omega) (by omega)
    · rintro ⟨h1,h2,h3,h4,h5⟩
      obtain ⟨z,rfl⟩:=h1
      have hz:z.length=m + 1:=by simp at h2; omega
      obtain ⟨r,z,rfl⟩:∃ c z',z=c :: z':=by cases z with
        | nil=>cases hz
        | cons c z=>exact ⟨c,z,rfl⟩
      have hxr:(L ++ r :: z).getD L.length []=r:=by
        rw [show L ++ r :: z=(L ++ [r]) ++ z by simp,ku (by simp),jo]
      have hrow:Row (s.k (L.length - 1)) (s.k L.length) r:=by
        have:=h3 t0 (by omega) (by omega)
        rw [<- Rj,hxr] at this
        rw [Rj,Nat.add_sub_cancel,<- Rj]; exact this
      have hpre:(L ++ [r]) <+: (L ++ r :: z):=by rw [show L ++ r :: z=(L ++ [r]) ++ z by simp]; exact List.prefix_append _ _
      have hlen:(L ++ [r]).length=L.length + 1:=by simp
      have h4:=h4 (by omega)
      have hok:okB s (L ++ [r])=true:=by
        refine aff.2 ⟨?_,?_,anu.2 ?_⟩
        · have:=acG hpre; omega
        · have:=acH hpre; omega
        · rw [hlen,Nat.add_sub_cancel,jo]
          intro i hi p hp
          refine h5 L.length (Nat.le_refl _) (by omega) i (by rw [<- hrow.1]; exact hi) p ?_
          rw [show L ++ r :: z=(L ++ [r]) ++ z by simp,AZ (by omega)]
          exact hp
      refine ⟨r,NZ.2 hrow,?_⟩
      rw [if_pos hok]
      refine (Rt (by simp)).2 ⟨hpre,by simp at hz ⊢; omega,fun t q1 q2=>h3 t (by rw [hlen] at q1; omega) (by rw [hlen] at q2; omega),fun _=>h4,fun t q1 q2=>h5 t (by rw [hlen] at q1; omega) (by rw [hlen] at q2; omega)⟩
theorem tX (hs:s.Ok) {L:LL}:L∈links s↔wD s L:=by
 unfold links
 rw [Rt (by simp)]
 have h1:[first s].length=1:=rfl
 rw [h1]
 have hn:=hs.n1
 constructor
 ·rintro ⟨q1,q2,q3,q4,q5⟩
  obtain ⟨z,rfl⟩:=q1
  refine ⟨by omega,rfl,fun t ht=>q3 t (by omega) (by omega),?_,?_,fun t ht i hi p hp=>?_⟩
  ·by_cases e:0 < s.N - 1
   ·exact (q4 e).1
   ·have:z=[]:=by
     have:([first s] ++ z).length=1:=by omega
     simpa using this
    subst this
    exact hs.bn.1
  ·by_cases e:0 < s.N - 1
   ·exact (q4 e).2
   ·have:z=[]:=by
     have:([first s] ++ z).length=1:=by omega
     simpa using this
    subst this
    exact hs.gn.1
  ·cases t with
   | zero=>simp [uT] at hp
   | succ t=>exact q5 (t + 1) (by omega) (by omega) i hi p hp
 ·rintro ⟨q1,q2,q3,q4,q5,q6⟩
  refine ⟨?_,by omega,fun t h1 h2=>q3 t (by omega),fun _=>⟨q4,q5⟩,fun t h1 h2=>q6 t (by omega)⟩
  cases L with
  | nil=>simp at q1; omega
  | cons a L =>
   have:a=first s:=q2
   subst this
   exact ⟨L,rfl⟩
end Go.Low

/- One of these for each. -/
import Derived.Test.YtadkaccpacpklaaL5LM3
set_option linter.unusedVariables false
set_option linter.unusedSimpArgs false
namespace Go.Low
variable {s:PS} {L:LL}
theorem alc {p:Nat->Bool} {j0:Nat}:∀ {n:Nat},j0 < n->p j0=true->(∀ j,j < n->j≠j0->p j=false)->(List.range n).countP p=1
 | n + 1,h0,hp,h=>by
  rw [List.range_succ,List.countP_append,List.countP_cons,List.countP_nil]
  by_cases e:j0=n
  ·subst e
   have:(List.range j0).countP p=0:=List.countP_eq_zero.2 fun j hj=>by rw [h j (by have:=List.mem_range.1 hj; omega) (by have:=List.mem_range.1 hj; omega)]; simp
   rw [this,hp]; rfl
  ·rw [alc (n:=n) (by omega) hp fun j hj hne=>h j (by omega) hne,h n (by omega) (fun e'=>e e'.symm)]; rfl
theorem sum_add {α:Type} (f g:α->Nat):∀ l:List α,(l.map fun x=>f x + g x).sum=(l.map f).sum + (l.map g).sum
 | []=>rfl
 | a :: l=>by simp only [List.map_cons,List.sum_cons,sum_add f g l]; omega
theorem aFG {α:Type} (p:α->Bool):∀ l:List α,(l.map fun x=>if p x=true then 1 else 0).sum=l.countP p
 | []=>rfl
 | a :: l=>by simp only [List.map_cons,List.sum_cons,aFG p l,List.countP_cons]; omega
theorem atQ {α:Type} {qs:List (α->Bool)}:∀ {l:List α},(∀ x∈l,qs.countP (fun q=>q x)=1)->(qs.map fun q=>l.countP q).sum=l.length
 | [],_=>by
  have:(qs.map fun q=>([]:List α).countP q)=qs.map fun _=>0:=rfl
  rw [this]
  induction qs with
  | nil=>rfl
  | cons a qs ih=>simp only [List.map_cons,List.sum_cons] at ih ⊢; rw [ih (fun x hx=>by cases hx) rfl]; rfl
 | a :: l,h=>by
  have ih:=atQ (qs:=qs) (l:=l) fun x hx=>h x (.tail _ hx)
  have h1:=h a (.head _)
  have e:(qs.map fun q=>(a :: l).countP q)=qs.map fun q=>l.countP q + (if q a=true then 1 else 0):=List.map_congr_left fun q _=>by rw [List.countP_cons]
  have e2:(qs.map fun q=>if q a=true then 1 else 0).sum=qs.countP fun q=>q a:=aFG (fun q:α->Bool=>q a) qs
  rw [e,sum_add,ih,e2,h1,List.length_cons]
theorem aKw {N:Nat} (h0:0 < N):∀ {l:List Nat},l.sum=N->l.countP (fun c=>decide (c=N))<=1/\l.countP (fun c=>decide (¬ c=0))≠0/\(l.countP (fun c=>decide (c=N))=1↔l.countP (fun c=>decide (¬ c=0))=1):=by
 have A:∀ l:List Nat,l.countP (fun c=>decide (c=N))<=l.countP (fun c=>decide (¬ c=0))/\l.countP (fun c=>decide (c=N)) * N + (l.countP (fun c=>decide (¬ c=0)) - l.countP (fun c=>decide (c=N)))<=l.sum:=by
  intro l
  induction l with
  | nil=>simp
  | cons a l ih =>
   simp only [List.countP_cons,List.sum_cons]
   by_cases e:a=N
   ·subst e
    have:¬ a=0:=by omega
    simp only [this,decide_true,if_true,not_false_eq_true]
    rw [Nat.add_mul,Nat.one_mul]
    omega
   ·by_cases z:a=0
    ·subst z; simp only [e,decide_false,not_true_eq_false,Nat.add_zero,Nat.zero_add,Bool.false_eq_true,if_false]
     exact ih
    ·simp only [e,z,decide_false,decide_true,not_false_eq_true,if_true,Bool.false_eq_true,if_false,Nat.add_zero]
     omega
 have B:∀ l:List Nat,(l.countP (fun c=>decide (¬ c=0))=0->l.sum=0)/\(l.countP (fun c=>decide (¬ c=0))=1->l.sum∈l):=by
  intro l
  induction l with
  | nil=>exact ⟨fun _=>rfl,fun h=>by cases h⟩
  | cons a l ih =>
   simp only [List.countP_cons,List.sum_cons]
   by_cases z:a=0
   ·subst z
    simp only [not_true_eq_false,decide_false,Bool.false_eq_true,if_false,Nat.add_zero,Nat.zero_add]
    exact ⟨ih.1,fun h=>.tail _ (ih.2 h)⟩
   ·simp only [z,not_false_eq_true,decide_true,if_true]
    refine ⟨fun h=>by omega,fun h=>?_⟩
    have:l.countP (fun c=>decide (¬ c=0))=0:=by omega
    rw [ih.1 this,Nat.add_zero]; exact .head _
 intro l hl
 have hA:=A l
 have hB:=B l
 generalize hS:l.countP (fun c=>decide (c=N))=S at hA ⊢
 generalize hP:l.countP (fun c=>decide (¬ c=0))=P at hA hB ⊢
 rw [hl] at hA hB
 have h1:S<=1:=by
  have:S * N<=1 * N:=by omega
  exact Nat.le_of_mul_le_mul_right this h0
 refine ⟨h1,fun h=>by have:=hB.1 h; omega,fun h=>?_,fun h=>?_⟩
 ·subst h; omega
 ·have hm:=hB.2 h
  have:0 < l.countP (fun c=>decide (c=N)):=List.countP_pos_iff.2 ⟨N,hm,by simp⟩
  omega
def aPE (t i before:Nat):List (LL->Bool):=((List.range before).map fun (j:Nat) (L:LL)=>decide (qR L (t + 1) i=(j:Int))) ++ [fun L=>decide (qR L (t + 1) i = -1)]
theorem aKz (h:wD s L) {t i:Nat} (ht:t + 1 < s.N) (hi:i < s.k (t + 1)):(aPE t i (s.k t)).countP (fun q=>q L)=1:=by
 unfold aPE
 rw [List.countP_append,List.countP_map,List.countP_cons,List.countP_nil]
 show (List.range (s.k t)).countP (fun j:Nat=>decide (qR L (t + 1) i=(j:Int))) + _=1
 rcases h.afg ht hi with h1 | ⟨h1,h2,_⟩
 ·have:(List.range (s.k t)).countP (fun j:Nat=>decide (qR L (t + 1) i=(j:Int)))=0:=List.countP_eq_zero.2 fun j _=>by rw [decide_eq_true_eq]; omega
  rw [this]
  show 0 + (0 + if decide (qR L (t + 1) i = -1)=true then 1 else 0)=1
  rw [h1]; rfl
 ·have:¬ (qR L (t + 1) i = -1):=by omega
  rw [alc (p:=fun j:Nat=>decide (qR L (t + 1) i=(j:Int))) h2 (decide_eq_true (by omega)) fun j _ hne=>decide_eq_false (by omega)]
  show 1 + (0 + if decide (qR L (t + 1) i = -1)=true then 1 else 0)=1
  rw [decide_eq_false this]; rfl
def aPG (t k many:Nat):List (LL->Bool):=(fun L=>!has (L.getD (t + 1) []) (k:Int)) :: (List.range many).map fun (i:Nat) (L:LL)=>decide (qR L (t + 1) i=(k:Int))
theorem aFH (h:wD s L) {t:Nat} (ht:t + 1 < s.N) (b:Int) (hb:0<=b):has (L.getD (t + 1) []) b=true↔∃ i,i < s.k (t + 1)/\qR L (t + 1) i=b:=by
 rw [zN]
 constructor
 ·rintro ⟨i,hi⟩
  have hl:=(h.row t ht).1
  have hlt:=(List.getElem?_eq_some_iff.1 hi).1
  refine ⟨i,by omega,?_⟩
  have:=h.get ht (i:=i) (by omega)
  rw [this] at hi
  exact Option.some.inj hi
 ·rintro ⟨i,hi,e⟩
  exact ⟨i,by rw [h.get ht hi,e]⟩
theorem aKB (h:wD s L) {t i j:Nat} (ht:t + 1 < s.N) (hi:i < s.k (t + 1)) (hj:j < s.k (t + 1)) (h0:0<=qR L (t + 1) i) (e:qR L (t + 1) i=qR L (t + 1) j):i=j:=by
 rcases Nat.lt_trichotomy i j with q | q | q
 ·rcases h.afg ht hj with h1 | h1
  ·omega
  ·exact absurd e (h1.2.2 i q)
 ·exact q
 ·rcases h.afg ht hi with h1 | h1
  ·omega
  ·exact absurd e.symm (h1.2.2 j q)
theorem aKA (h:wD s L) {t k:Nat} (ht:t + 1 < s.N):(aPG t k (s.k (t + 1))).countP (fun q=>q L)=1:=by
 unfold aPG
 rw [List.countP_cons,List.countP_map]
 show (List.range (s.k (t + 1))).countP (fun i=>decide (qR L (t + 1) i=(k:Int))) + (if (!has (L.getD (t + 1) []) (k:Int))=true then 1 else 0)=1
 cases hh:has (L.getD (t + 1) []) (k:Int) with
 | true =>
  obtain ⟨i,hi,e⟩:=(aFH h ht _ (by omega)).1 hh
  rw [alc (p:=fun i=>decide (qR L (t + 1) i=(k:Int))) hi (decide_eq_true e) fun j hj hne=>decide_eq_false fun e'=>hne (aKB h ht hj hi (by rw [e']; omega) (e'.trans e.symm))]; rfl
 | false =>
  have:(List.range (s.k (t + 1))).countP (fun i=>decide (qR L (t + 1) i=(k:Int)))=0:=List.countP_eq_zero.2 fun j hj=>by
   rw [decide_eq_true_eq]
   intro e
   have:=(aFH h ht (k:Int) (by omega)).2 ⟨j,List.mem_range.1 hj,e⟩
   rw [hh] at this; cases this
  rw [this]; rfl
end Go.Low

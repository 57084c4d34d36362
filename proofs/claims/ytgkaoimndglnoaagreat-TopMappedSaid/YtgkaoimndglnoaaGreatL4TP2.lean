/- The bounds of the index of a day. -/
import Derived.Test.YtgkaoimndglnoaaGreatL4TP1
set_option linter.unusedVariables false
set_option linter.unusedSimpArgs false
namespace Go.Dm
set_option maxRecDepth 100000
theorem CU {mps:List bg} {I:Type} {step:(aa mps).den->I->RO mps} {l r:List I}:∀ {x y:(aa mps).den},cJ step x l = .next y->cJ step x (l ++ r)=cJ step y r:=by
 induction l with
 | nil =>
  intro x y h
  cases (show RO.next x=RO.next y from h)
  rfl
 | cons a l ih =>
  intro x y h
  show cJ step x (a :: (l ++ r))=_
  cases hs:step x a with
  | next x' =>
   simp only [cJ,hs] at h ⊢
   exact ih h
  | KU id x'=>simp only [cJ,hs] at h; cases h
  | ret x'=>simp only [cJ,hs] at h; cases h
  | bP T τ d x'=>simp only [cJ,hs] at h; cases h
  | bad=>simp only [cJ,hs] at h; cases h
theorem tJ {mps:List bg} {I:Type} {step:(aa mps).den->I->RO mps} {g:Nat->I} {F:Nat->(aa mps).den}:∀ (n:Nat),(∀ j,j < n->step (F j) (g j) = .next (F (j + 1)))->cJ step (F 0) ((List.range n).map g) = .next (F n)
 | 0,_=>rfl
 | n + 1,h=>by
  rw [List.range_succ,List.map_append,CU (tJ n fun j hj=>h j (by omega))]
  simp only [List.map,cJ,h n (by omega)]
theorem Va {mps:List bg} {β:Type} {o:RO mps} {x:(aa mps).den} {f:(aa mps).den->β} {g:β} (h:o = .next x):eo o f g=f x:=by rw [h]; rfl
structure vi (s:ju):Prop where
 hgt:0<=s.1/\s.1<=s.2.1/\s.2.1<=3000
 gra:-3000<=s.2.2.1/\s.2.2.1<=s.2.2.2.1/\s.2.2.2.1<=3000
 KW:0<=KW s/\KW s<=100
 rea:0<=s.2.2.2.2.2.1/\s.2.2.2.2.2.1<=200
 n:(cq s).n<=12
 day:∀ j,j < (cq s).n->0<=((cq s).g j).1/\((cq s).g j).1<=400
 idx:∀ j,j < (cq s).n -> -2000<=((cq s).g j).2.1/\((cq s).g j).2.1<=((cq s).g j).2.2.1/\((cq s).g j).2.2.1<=2000
theorem KC {s:ju} (h:stB s=true):vi s:=by
 unfold stB at h
 rw [Bool.and_eq_true] at h
 obtain ⟨h1,h2⟩:=h
 unfold stR at h2
 simp only [Bool.and_eq_true] at h2
 obtain ⟨a1,a2,a3,a4,a5,a6,a7⟩:=h2
 refine ⟨acq a1,acq a2,rW a3,rW a4,?_,fun j hj=>?_,fun j hj=>?_⟩
 ·have:=of_decide_eq_true a7; omega
 ·have:=iR h1 hj
  unfold ckC at this
  exact rW (Bool.and_eq_true .. ▸ this).1
 ·have:=iR h1 hj
  unfold ckC at this
  exact acq (Bool.and_eq_true .. ▸ this).2
theorem HW {a b:Int} (ha:0<=a/\a<=400) (hb:0<=b/\b<=400):0<=AF a b/\AF a b<=400:=by unfold AF; omega
theorem ah2 (a b c:Int):AF a b<=AF c a + AF c b:=by unfold AF; omega
theorem Se {d x:Int} (hd:0<=d/\d<=100) (hx:0<=x/\x<=400):0<=d * x/\d * x<=40000/\W (d * x)=d * x:=by
 have a1:0<=d * x:=Int.mul_nonneg hd.1 hx.1
 have a2:d * x<=100 * 400:=Int.mul_le_mul hd.2 hx.2 hx.1 (by omega)
 exact ⟨a1,by omega,eU ⟨by omega,by omega⟩⟩
def KD (s:ju) (a b:Int):Int:=KW s * AF a b
def iK (s:ju) (i k:Nat):Bool:=decide (((cq s).g k).2.2.1 < ((cq s).g i).2.1 - KD s ((cq s).g i).1 ((cq s).g k).1) || decide (((cq s).g i).2.2.1 < ((cq s).g k).2.1 - KD s ((cq s).g i).1 ((cq s).g k).1)
def AgB (s:ju):Prop:=∀ i k,i < k->k < (cq s).n->iK s i k=false
theorem atd {s:ju} (h:vi s) {i k:Nat} (hi:i < (cq s).n) (hk:k < (cq s).n):Mb (no_index (rX s,((cq s).g i,((cq s).g k,()))))=some (iK s i k,()):=by
 have a1:=h.day i hi
 have a2:=h.day k hk
 have a3:=h.idx i hi
 have a4:=h.idx k hk
 obtain ⟨b1,b2,b3⟩:=Se h.KW (HW a1 a2)
 unfold Mb aei
 refine (cI (acy ⟨a1.1,by omega⟩ ⟨a2.1,by omega⟩)).trans ?_
 unfold iK KD
 have e1:W ((rX s).2.2.2.2.1 * AF ((cq s).g i).1 ((cq s).g k).1)=KW s * AF ((cq s).g i).1 ((cq s).g k).1:=b3
 simp only [e1]
 rw [eU (n:=((cq s).g i).2.1 - KW s * AF ((cq s).g i).1 ((cq s).g k).1) ⟨by omega,by omega⟩,eU (n:=((cq s).g k).2.1 - KW s * AF ((cq s).g i).1 ((cq s).g k).1) ⟨by omega,by omega⟩]
 cases decide (((cq s).g k).2.2.1 < ((cq s).g i).2.1 - KW s * AF ((cq s).g i).1 ((cq s).g k).1) <;> rfl
theorem Pc {s:ju} (h:vi s) (ha:AgB s) {i:Nat} (hi:i < (cq s).n) :
  nC (no_index ((),((0:Int),((0:Int),(false,((i:Int),((),(cq s,((((cq s).n:Nat):Int),((i:Int),((cq s).g i,())))))))))))  (no_index (W ((i:Int) + 1),(rX s,()))) = .exit 2 (rX s,()):=by
 unfold nC
 have hn:=h.n
 rw [ec hi (by omega)]
 refine cX (ps:=gy) ((cq s).n - (i + 1)) dw (fun j=>(((i + 1 + j:Nat):Int),(rX s,()))) (by unfold dw; omega) (fun j hj=>?_) ?_
 ·unfold rC rB
  have hk:i + 1 + j < (cq s).n:=by omega
  refine (cn (decide_eq_true (dW hk))).trans ?_
  refine (cn (decide_eq_true (bO hk))).trans ?_
  refine (cI (atd h hi hk)).trans ?_
  refine (cR (ha i (i + 1 + j) (by omega) hk)).trans ?_
  rw [ec hk (by omega)]
  rfl
 ·unfold rC rB
  exact cR (decide_eq_false (by show ¬ (((i + 1 + ((cq s).n - (i + 1)):Nat):Int) < (((cq s).n:Nat):Int)); omega))
theorem ate {s:ju} (h:vi s) (ha:AgB s):FD (no_index (rX s,()))=some ((0:Int),((0:Int),(false,()))):=by
 have hn:=h.n
 have e:FC (no_index ((),((0:Int),((0:Int),(false,(cq s,((((cq s).n:Nat):Int),()))))))) (no_index ((0:Int),(rX s,()))) = .exit 0 ((0:Int),((0:Int),(false,()))):=by
  unfold FC
  refine cX (ps:=kn) (cq s).n dw (fun j=>((j:Int),(rX s,()))) (by unfold dw; omega) (fun j hj=>?_) ?_
  ·unfold BW BV
   refine (cn (decide_eq_true (dW hj))).trans ?_
   refine (cn (decide_eq_true (bO hj))).trans ?_
   have e1:=Pc h ha hj
   refine (OZ rfl e1).trans ((gV e1).trans ?_)
   rw [ec hj (by omega)]
  ·unfold BW BV
   exact cR (decide_eq_false (by show ¬ ((((cq s).n:Nat):Int) < (((cq s).n:Nat):Int)); omega))
 unfold FD aem
 exact gV e
end Go.Dm

/- LowFits. -/
import Derived.Test.YtadkaccpacpklaaL15LP24
set_option linter.unusedVariables false
set_option linter.unusedSimpArgs false
namespace Go.Dm
set_option maxRecDepth 100000
open Go.Low
variable {s:tS.den} {A X Y D:cT}
theorem atm (h:Ov s A X Y D) {u i:Nat} (hu:u + 1 < s.1.n) (hi:i < (s.1.g (u + 1)).2.1.n):okI s A X Y D (u + 1) i=(bx3 (tv X Y D (u + 1) i) ((s.1.g (u + 1)).2.1.g i) && (nrI s A X Y D u i && ayW (A.g (u + 1)).1 i)):=by
 have hl:=h.link hu hi
 show (_ && (decide (ap A (u + 1) i < 0) || (Wv s (tv X Y D (u + 1) i) (tv X Y D u (ap A (u + 1) i).toNat) (hr s u) && !has ((aV (A.g (u + 1)).1).take i) (ap A (u + 1) i))))=(_ && ((decide (ap A (u + 1) i < 0) || Wv s (tv X Y D (u + 1) i) (tv X Y D u (ap A (u + 1) i).toNat) (mT s (u + 1) - mT s u)) && (!decide (0<=ap A (u + 1) i) || !has ((aV (A.g (u + 1)).1).take i) (ap A (u + 1) i))))
 by_cases c:ap A (u + 1) i < 0
 ·have c':¬ (0<=ap A (u + 1) i):=by omega
  rw [decide_eq_true c,decide_eq_false c']; rfl
 ·have c':0<=ap A (u + 1) i:=by omega
  rw [decide_eq_false c,decide_eq_true c']; rfl
theorem ayX (h:Ov s A X Y D):ati s A X Y D=atl s A X Y D:=by
 unfold ati atl
 rw [<- Bool.and_assoc ((List.range s.1.n).all (bxT s X Y D))]
 congr 1
 rw [Bool.eq_iff_iff,Bool.and_eq_true]
 constructor
 ·intro hf
  refine ⟨JL fun t ht=>JL fun i hi=>?_,JL fun u hu=>?_⟩
  ·have:=mQ (mQ hf ht) hi
   unfold okI at this
   rw [Bool.and_eq_true] at this
   exact this.1
  ·have Qo:u + 1 < s.1.n:=by omega
   have hk:∀ i,i < (s.1.g (u + 1)).2.1.n->nrI s A X Y D u i=true/\ayW (A.g (u + 1)).1 i=true:=fun i hi=>by
    have:=mQ (mQ hf Qo) hi
    rw [atm h Qo hi,Bool.and_eq_true,Bool.and_eq_true] at this
    exact this.2
   rw [Bool.and_eq_true]
   exact ⟨JL fun i hi=>(hk i hi).1,JL fun i hi=>(hk i (by rw [<- h.a.k _ Qo]; exact hi)).2⟩
 ·rintro ⟨h1,h2⟩
  refine JL fun t ht=>JL fun i hi=>?_
  cases t with
  | zero=>unfold okI; rw [mQ (mQ h1 ht) hi]; rfl
  | succ u =>
   have:=mQ h2 (j:=u) (by omega)
   rw [Bool.and_eq_true] at this
   rw [atm h ht hi,mQ (mQ h1 ht) hi,mQ this.1 hi,mQ this.2 (j:=i) (by rw [h.a.k _ ht]; exact hi)]; rfl
end Go.Dm

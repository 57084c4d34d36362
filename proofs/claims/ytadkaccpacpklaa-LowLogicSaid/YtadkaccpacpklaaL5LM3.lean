/- Links of a suite that is wider. -/
import Derived.Test.YtadkaccpacpklaaL5LM2
set_option linter.unusedVariables false
set_option linter.unusedSimpArgs false
namespace Go.Low
variable {s s':PS} {L:LL}
theorem wD.get (h:wD s L) {t i:Nat} (ht:t + 1 < s.N) (hi:i < s.k (t + 1)):(L.getD (t + 1) [])[i]? = some (qR L (t + 1) i):=by
 have hl:=(h.row t ht).1
 unfold qR
 rw [List.getD_eq_getElem?_getD (l:=L.getD (t + 1) []),List.getElem?_eq_getElem (by omega)]
 rfl
theorem wD.afg (h:wD s L) {t i:Nat} (ht:t + 1 < s.N) (hi:i < s.k (t + 1)):qR L (t + 1) i = -1\/(0<=qR L (t + 1) i/\(qR L (t + 1) i).toNat < s.k t/\∀ j:Nat,j < i->qR L (t + 1) j≠qR L (t + 1) i):=by
 rcases (h.row t ht).2 i _ (h.get ht hi) with h1 | ⟨h1,h2,h3⟩
 ·exact .inl h1
 ·refine .inr ⟨h1,h2,fun j hj e=>h3 j hj ?_⟩
  rw [<- e]
  exact h.get ht (by omega)
end Go.Low

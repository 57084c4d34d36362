/- Links of a suite that is wider. -/
import Derived.Test.YtadkaccpacpklaaL10LM2
set_option linter.unusedVariables false
set_option linter.unusedSimpArgs false
namespace Go.Low
variable {s s':PS} {L:LL}
theorem wD.get (h:wD s L) {t i:Nat} (ht:t + 1 < s.N) (hi:i < s.k (t + 1)):(L.getD (t + 1) [])[i]? = some (qR L (t + 1) i):=by
 have hl:=(h.row t ht).1
 unfold qR
 rw [List.getD_eq_getElem?_getD (l:=L.getD (t + 1) []),List.getElem?_eq_getElem (by omega)]
 rfl
theorem wD.afg (h:wD s L) {t i:Nat} (ht:t + 1 < s.N) (hi:i < s.k (t + 1)):qR L (t + 1) i = -1\/(0<=qR L (t + 1) i/\(qR L (t + 1) i).toNat < s.k t/\∀ j:Nat,j < i->qR L (t + 1) j≠qR L (t + 1) i):=by
 rcases (h.row t ht).2 i _ (h.get ht hi) with h1 | ⟨h1,h2,h3⟩
 ·exact .inl h1
 ·refine .inr ⟨h1,h2,fun j hj e=>h3 j hj ?_⟩
  rw [<- e]
  exact h.get ht (by omega)
theorem akX (h:wD s L):∀ {t i:Nat},t < s.N->i < s.k t->∀ p∈uT L t i,p.1 < s.N/\p.2 < s.k p.1
 | 0,i,ht,hi,p,hp=>by simp [uT] at hp; subst hp; exact ⟨ht,hi⟩
 | t + 1,i,ht,hi,p,hp=>by
  simp only [uT,List.mem_cons] at hp
  rcases hp with hp | hp
  ·subst hp; exact ⟨ht,hi⟩
  ·split at hp
   ·rename_i h0
    rcases h.afg ht hi with h1 | h1
    ·omega
    ·exact akX h (by omega) h1.2.1 p hp
   ·simp at hp
end Go.Low

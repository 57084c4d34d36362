/- One of these for each. -/
import Derived.Test.YtadkaccpacpklaaL6LM3
set_option linter.unusedVariables false
set_option linter.unusedSimpArgs false
namespace Go.Low
variable {s:PS} {L:LL}
theorem aFH (h:wD s L) {t:Nat} (ht:t + 1 < s.N) (b:Int) (hb:0<=b):has (L.getD (t + 1) []) b=true↔∃ i,i < s.k (t + 1)/\qR L (t + 1) i=b:=by
 rw [zN]
 constructor
 ·rintro ⟨i,hi⟩
  have hl:=(h.row t ht).1
  have hlt:=(List.getElem?_eq_some_iff.1 hi).1
  refine ⟨i,by omega,?_⟩
  have:=h.get ht (i:=i) (by omega)
  rw [this] at hi
  exact Option.some.inj hi
 ·rintro ⟨i,hi,e⟩
  exact ⟨i,by rw [h.get ht hi,e]⟩
theorem aKB (h:wD s L) {t i j:Nat} (ht:t + 1 < s.N) (hi:i < s.k (t + 1)) (hj:j < s.k (t + 1)) (h0:0<=qR L (t + 1) i) (e:qR L (t + 1) i=qR L (t + 1) j):i=j:=by
 rcases Nat.lt_trichotomy i j with q | q | q
 ·rcases h.afg ht hj with h1 | h1
  ·omega
  ·exact absurd e (h1.2.2 i q)
 ·exact q
 ·rcases h.afg ht hi with h1 | h1
  ·omega
  ·exact absurd e.symm (h1.2.2 j q)
end Go.Low

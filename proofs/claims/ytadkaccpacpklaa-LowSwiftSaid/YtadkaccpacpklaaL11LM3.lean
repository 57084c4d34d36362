/- Links of a suite that is wider. -/
import Derived.Test.YtadkaccpacpklaaL11LM2
set_option linter.unusedVariables false
set_option linter.unusedSimpArgs false
namespace Go.Low
variable {s s' : PS} {L : LL}
theorem IsLinks.get (h : IsLinks s L) {t i : Nat} (ht : t + 1 < s.N) (hi : i < s.k (t + 1)) : (L.getD (t + 1) [])[i]? = some (lnk L (t + 1) i) := by
 have hl := (h.row t ht).1
 unfold lnk
 rw [List.getD_eq_getElem?_getD (l := L.getD (t + 1) []), List.getElem?_eq_getElem (by omega)]
 rfl
theorem IsLinks.lnk_or (h : IsLinks s L) {t i : Nat} (ht : t + 1 < s.N) (hi : i < s.k (t + 1)) : lnk L (t + 1) i = -1 ∨ (0 ≤ lnk L (t + 1) i ∧ (lnk L (t + 1) i).toNat < s.k t ∧ ∀ j : Nat, j < i → lnk L (t + 1) j ≠ lnk L (t + 1) i) := by
 rcases (h.row t ht).2 i _ (h.get ht hi) with h1 | ⟨h1, h2, h3⟩
 ·exact .inl h1
 ·refine .inr ⟨h1, h2, fun j hj e => h3 j hj ?_⟩
  rw [← e]
  exact h.get ht (by omega)
theorem anc_in (h : IsLinks s L) : ∀ {t i : Nat}, t < s.N → i < s.k t → ∀ p ∈ anc L t i, p.1 < s.N ∧ p.2 < s.k p.1
 | 0, i, ht, hi, p, hp => by simp [anc] at hp; subst hp; exact ⟨ht, hi⟩
 | t + 1, i, ht, hi, p, hp => by
  simp only [anc, List.mem_cons] at hp
  rcases hp with hp | hp
  ·subst hp; exact ⟨ht, hi⟩
  ·split at hp
   ·rename_i h0
    rcases h.lnk_or ht hi with h1 | h1
    ·omega
    ·exact anc_in h (by omega) h1.2.1 p hp
   ·simp at hp
theorem links_mono (hs : s.Ok) (hs' : s'.Ok) (hN : s.N = s'.N) (hk : ∀ t, t < s.N → s.k t = s'.k t) (htm : s.tm = s'.tm) (hr : ∀ a, rate s a ≤ rate s' a) (hb : s.born ≤ s'.born) (hg : s.gone ≤ s'.gone)
  (hx : ∀ t i, t < s.N → i < s.k t → ∀ a, a < 3 → lo (s'.box t i) a ≤ lo (s.box t i) a ∧ hi (s.box t i) a ≤ hi (s'.box t i) a) (h : L ∈ links s) : L ∈ links s' := by
 have h := (mem_links hs).1 h
 have hn := hs.n1
 refine (mem_links hs').2 ⟨h.len.trans hN, ?_, fun t ht => ?_, by have := h.born; omega, by have := h.gone; omega, fun t ht i hi p hp => ?_⟩
 ·rw [h.first]; unfold Go.Low.first; rw [hk 0 hn]
 ·have := h.row t (by omega)
  rwa [hk t (by omega), hk (t + 1) (by omega)] at this
 ·have ht' : t < s.N := by omega
  have hi' : i < s.k t := by rw [hk t ht']; exact hi
  have hp' : p ∈ anc L t i := List.mem_of_mem_tail hp
  have h1 := h.ch t ht' i hi' p hp
  have h2 := anc_in h ht' hi' p hp'
  have h3 := anc_le hp'
  have h4 : 0 ≤ s.tm t - s.tm p.1 := by have := hs.tm_le h3 ht'; omega
  intro a ha
  have q1 := h1 a ha
  have q2 := hx t i ht' hi' a ha
  have q3 := hx p.1 p.2 h2.1 h2.2 a ha
  have q4 : rate s a * (s.tm t - s.tm p.1) ≤ rate s' a * (s.tm t - s.tm p.1) := Int.mul_le_mul_of_nonneg_right (hr a) h4
  rw [← htm]
  dsimp only at q1 ⊢
  omega
end Go.Low

/- The law KiteBlown. -/
import Derived.Test.YtlfgdpjompacjaaL8NP26
set_option linter.unusedVariables false
set_option linter.unusedSimpArgs false
namespace Go.Dm
set_option maxRecDepth 100000

theorem FitT.top {f : flightT} (hf : flightB f = true) {V : truthT} (h : FitT f V) : topOk f V.2.2.1 = true ∧ f.2.2.2.2.2.1 ≤ V.2.2.1 ∧ V.2.2.1 ≤ f.2.2.2.2.2.2.1 := by
  have v := h.val hf
  obtain ⟨m1, m2, m3⟩ := mem_trips.1 v.mem
  have v' : ValT (setTop f V.2.2.1 V.2.2.1) (spR (setTop f V.2.2.1 V.2.2.1) false).g (spR (setTop f V.2.2.1 V.2.2.1) true).g (tripOf V) :=
    ⟨mem_trips.2 ⟨m1, m2, Int.le_refl _, Int.le_refl _⟩, v.min, v.east, v.north⟩
  obtain ⟨r, e, _⟩ := fst_le v'
  refine ⟨?_, m3⟩
  show (fst0 (setTop f V.2.2.1 V.2.2.1)).isSome = true
  unfold fst0
  rw [e]; rfl
theorem FitT.ok {f : flightT} (hf : flightB f = true) {V : truthT} (h : FitT f V) {L : Nat} (hL : L < f.1.n) (north : Bool) : okN f (L : Int) north (ofV V L north) = true := by
  obtain ⟨r, e, _⟩ := h.wish hf hL north
  unfold okN
  rw [e]; rfl
theorem layS_g (f : flightT) (L : Nat) (north : Bool) : layS f (L : Int) north = (spR f north).g L := by unfold layS; rw [Int.toNat_natCast]
theorem FitT.bd {f : flightT} (hf : flightB f = true) {V : truthT} (h : FitT f V) {L : Nat} (hL : L < f.1.n) (north : Bool) :
    ((wiE f north L).1 ≤ ofV V L north ∧ ofV V L north ≤ (wiE f north L).2.1) ∧ ∀ high, okN f (L : Int) north (endW f (L : Int) north high) = true ∧ (layS f (L : Int) north).1 ≤ endW f (L : Int) north high ∧ endW f (L : Int) north high ≤ (layS f (L : Int) north).2.1 := by
  have hw := h.wind north hL
  rw [← layS_g f L north] at hw
  exact end_ok hw.1 hw.2 (h.ok hf hL north)
end Go.Dm


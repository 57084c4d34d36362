/- The theorem of landings. -/
import Derived.Test.YtlfgdpjompacjaaL15NP23
set_option linter.unusedVariables false
set_option linter.unusedSimpArgs false
namespace Go.Dm
set_option maxRecDepth 100000

theorem fineB_s {f : flightT} {u d t : Int} {e n : rowI} (h : fineB f u d t e n = true) : (u, d, t) ∈ trips f ∧ (∀ j, j < f.1.n → (spT f false j).1 ≤ (e.g j).1 ∧ (e.g j).1 ≤ (spT f false j).2.1) ∧ ∀ j, j < f.1.n → (spT f true j).1 ≤ (n.g j).1 ∧ (n.g j).1 ≤ (spT f true j).2.1 := by
  simp only [fineB, listB, Bool.and_eq_true, decide_eq_true_eq] at h
  obtain ⟨h1, h2, h3, h4, ⟨h5, h6⟩, h7, h8⟩ := h
  refine ⟨mem_trips.2 ⟨inB_t h2, inB_t h3, inB_t h4⟩, fun j hj => ?_, fun j hj => ?_⟩
  · exact inB_t (List.all_eq_true.1 h6 j (by simp; omega))
  · exact inB_t (List.all_eq_true.1 h8 j (by simp; omega))
end Go.Dm


/- first, and the reference's search. -/
import Derived.Test.YtlfgdpjompacjaaL11NP17
set_option linter.unusedVariables false
set_option linter.unusedSimpArgs false
namespace Go.Dm
set_option maxRecDepth 100000

theorem trip_bd {f : flightT} (hf : flightB f = true) {x : Int × Int × Int} (hx : x ∈ trips f) : (50 ≤ x.1 ∧ x.1 ≤ 1000) ∧ (50 ≤ x.2.1 ∧ x.2.1 ≤ 1000) := by
  obtain ⟨_, _, h2, h3, _⟩ := flightB_t hf
  unfold trips at hx
  simp only [List.mem_flatMap, List.mem_map] at hx
  obtain ⟨u, hu, d, hd, t, ht, rfl⟩ := hx
  have := span3xmem hu
  have := span3xmem hd
  simp only
  omega
/-! the reference -/
section
variable {f : flightT} {se sn : Sl spanI}
theorem total_e (f : flightT) (u d t : Int) : sums (fun j => ((times f u d t f.1.n).g j).1) f.1.n = flown f u d t := by
  unfold flown
  exact sums_congr fun j hj => by rw [times_g f hj]
end
end Go.Dm


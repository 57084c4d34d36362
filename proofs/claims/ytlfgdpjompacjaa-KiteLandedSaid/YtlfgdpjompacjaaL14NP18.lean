/- first, and the reference's search. -/
import Derived.Test.YtlfgdpjompacjaaL14NP17
set_option linter.unusedVariables false
set_option linter.unusedSimpArgs false
namespace Go.Dm
set_option maxRecDepth 100000

def zeroT : truthT := ((0 : Int), ((0 : Int), ((0 : Int), ((⟨0, fun _ => ((0 : Int), ())⟩ : rowI), ((⟨0, fun _ => ((0 : Int), ())⟩ : rowI), ())))))
theorem trip_bd {f : flightT} (hf : flightB f = true) {x : Int × Int × Int} (hx : x ∈ trips f) : (50 ≤ x.1 ∧ x.1 ≤ 1000) ∧ (50 ≤ x.2.1 ∧ x.2.1 ≤ 1000) := by
  obtain ⟨_, _, h2, h3, _⟩ := flightB_t hf
  unfold trips at hx
  simp only [List.mem_flatMap, List.mem_map] at hx
  obtain ⟨u, hu, d, hd, t, ht, rfl⟩ := hx
  have := span3xmem hu
  have := span3xmem hd
  simp only
  omega
/-! the reference -/
section
variable {f : flightT} {se sn : Sl spanI}
end
end Go.Dm


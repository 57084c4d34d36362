/- The first truth that fits, by the rule. -/
import Derived.Test.YtlfgdpjompacjaaL14NP16
set_option linter.unusedVariables false
set_option linter.unusedSimpArgs false
namespace Go.Dm
set_option maxRecDepth 100000

def spT (f : flightT) (north : Bool) (j : Nat) : spanI := bif north then spN f j else spE f j
def spR (f : flightT) (north : Bool) : Sl spanI := tab s0I (spT f north) f.1.n
theorem spR_n (f : flightT) (north : Bool) : (spR f north).n = f.1.n := tab_n0' rfl where
  tab_n0' {s0 : Sl spanI} (h : s0.n = 0) {y : Nat → spanI} {j : Nat} : (tab s0 y j).n = j := by rw [tab_n, h, Nat.zero_add]
theorem spR_g (f : flightT) (north : Bool) {j : Nat} (h : j < f.1.n) : (spR f north).g j = spT f north j := tab_g0 (s0 := s0I) rfl h
end Go.Dm


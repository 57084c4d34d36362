/- The rows of winds, least and greatest. -/
import Derived.Test.YtlfgdpjompacjaaL14NP12
set_option linter.unusedVariables false
set_option linter.unusedSimpArgs false
namespace Go.Dm
set_option maxRecDepth 100000

def rowW (g : Nat → Int) (n : Nat) : rowI := tab ⟨0, fun _ => ((0 : Int), ())⟩ (fun j => (g j, ())) n
theorem rowW_n (g : Nat → Int) (n : Nat) : (rowW g n).n = n := by unfold rowW; rw [tab_n]; show 0 + n = n; omega
theorem rowW_g (g : Nat → Int) {i n : Nat} (h : i < n) : (rowW g n).g i = (g i, ()) := tab_g0 (s0 := ⟨0, fun _ => ((0 : Int), ())⟩) rfl h
theorem rowW_s (g : Nat → Int) (n : Nat) : rowW g (n + 1) = snoc (rowW g n) (g n, ()) := by unfold rowW; rw [tab]
end Go.Dm


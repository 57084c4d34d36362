/- Levels, and what is above a height. -/
import Derived.Test.YtlfgdpjompacjaaL5NP3
set_option linter.unusedVariables false
set_option linter.unusedSimpArgs false
namespace Go.Dm
set_option maxRecDepth 100000

abbrev rowS : Type := Sl (Int × Int × Unit)
def e0 : rowI := ⟨0, fun _ => ((0 : Int), ())⟩
theorem M51xself (a : rowS) (h : a.n ≤ 140737488355328) : M51 (a, (a, ())) = some (true, ()) := by
  unfold M51 Q51
  have hl : L51x0 (a, (a, ())) ((0 : Int), ()) = .exit 0 () := by
    unfold L51x0
    refine iterQ_steps (ps := vs51x0) a.n big (fun j => ((j : Int), ())) (big_lt h) (fun j hj => ?_) ?_
    · have e1 : ((j : Int) < ((a.n : Nat) : Int)) := by omega
      have e3 : W ((j : Int) + 1) = ((j + 1 : Nat) : Int) := by rw [W_id ⟨by omega, by omega⟩]; rfl
      unfold S51x0 Z51x0
      simp [e1, e3]
    · unfold S51x0 Z51x0
      simp
  simp [hl]
/-! the first of which something holds -/
end Go.Dm


/- Blow, and the reference's list. -/
import Derived.Test.YtlfgdpjompacjaaL11NP15
set_option linter.unusedVariables false
set_option linter.unusedSimpArgs false
namespace Go.Dm
set_option maxRecDepth 100000

def wayI (north : Bool) : Int := bif north then 1 else 0
/-! the reference -/
theorem M100xle {a b : rowI} (h : a.n ≤ b.n) (hb : a.n ≤ 140737488355328) : M100 (no_index (a, (b, ()))) = some (sums (fun j => W ((a.g j).1 * (b.g j).1)) a.n, ()) := by
  have : L100x0 (no_index (a, (b, ()))) (no_index ((0 : Int), ((0 : Int), ()))) = .exit 0 (sums (fun j => W ((a.g j).1 * (b.g j).1)) a.n, ()) := by
    unfold L100x0
    refine iterQ_steps (ps := vs100x0) a.n big (fun j => (sums (fun j => W ((a.g j).1 * (b.g j).1)) j, ((j : Int), ()))) (big_lt (by omega)) (fun j hj => ?_) ?_
    · have e1 : ((j : Int) < ((a.n : Nat) : Int)) := by omega
      have e2 : ((j : Int) < ((b.n : Nat) : Int)) := by omega
      have e3 : W ((j : Int) + 1) = ((j + 1 : Nat) : Int) := by rw [W_id ⟨by omega, by omega⟩]; rfl
      unfold S100x0 Z100x0
      simp only [e1, e2, e3, decide_true, cond_true, Int.toNat_natCast, Int.natCast_nonneg, and_self, sums]
    · unfold S100x0 Z100x0
      simp
  unfold M100 Q100
  simp only [this]
  rfl
section
variable {f : flightT} {u d t : Int} {sp : Sl spanI} {fd : spanI} {tm : rowI}
end
end Go.Dm


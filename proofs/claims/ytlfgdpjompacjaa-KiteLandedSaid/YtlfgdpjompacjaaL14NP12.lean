/- The least and the greatest of a list; the reference's way to widen a span. -/
import Derived.Test.YtlfgdpjompacjaaL14NP11
set_option linter.unusedVariables false
set_option linter.unusedSimpArgs false
namespace Go.Dm
set_option maxRecDepth 100000

theorem mn_e (a b : Int) : mn a b = min a b := by unfold mn; split <;> omega
theorem mx_e (a b : Int) : mx a b = max a b := by unfold mx; split <;> omega
def minR (a : rowI) : Nat → Int
  | 0 => (a.g 0).1
  | j + 1 => min (minR a j) (a.g j).1
def maxR (a : rowI) : Nat → Int
  | 0 => (a.g 0).1
  | j + 1 => max (maxR a j) (a.g j).1
theorem M97xe {a : rowI} (h0 : 0 < a.n) (h : a.n ≤ 140737488355328) : M97 (a, ()) = some (minR a a.n, ()) := by
  have : L97x0 (a, (((a.n : Nat) : Int), ())) ((a.g 0).1, ((0 : Int), ())) = .exit 0 (minR a a.n, ()) := by
    unfold L97x0
    refine iterQ_steps (ps := vs97x0) a.n big (fun j => (minR a j, ((j : Int), ()))) (big_lt (by omega)) (fun j hj => ?_) ?_
    · have e1 : ((j : Int) < ((a.n : Nat) : Int)) := by omega
      have e3 : W ((j : Int) + 1) = ((j + 1 : Nat) : Int) := by rw [W_id ⟨by omega, by omega⟩]; rfl
      unfold S97x0 Z97x0
      simp only [e1, e3, mn_e, decide_true, cond_true, Int.toNat_natCast, Int.natCast_nonneg, and_self, minR]
    · unfold S97x0 Z97x0
      simp
  have e : (0 : Int) < ((a.n : Nat) : Int) := by omega
  unfold M97 Q97
  simp only [this, e]
  simp
theorem M98xe {a : rowI} (h0 : 0 < a.n) (h : a.n ≤ 140737488355328) : M98 (a, ()) = some (maxR a a.n, ()) := by
  have : L98x0 (a, (((a.n : Nat) : Int), ())) ((a.g 0).1, ((0 : Int), ())) = .exit 0 (maxR a a.n, ()) := by
    unfold L98x0
    refine iterQ_steps (ps := vs98x0) a.n big (fun j => (maxR a j, ((j : Int), ()))) (big_lt (by omega)) (fun j hj => ?_) ?_
    · have e1 : ((j : Int) < ((a.n : Nat) : Int)) := by omega
      have e3 : W ((j : Int) + 1) = ((j + 1 : Nat) : Int) := by rw [W_id ⟨by omega, by omega⟩]; rfl
      unfold S98x0 Z98x0
      simp only [e1, e3, mx_e, decide_true, cond_true, Int.toNat_natCast, Int.natCast_nonneg, and_self, maxR]
    · unfold S98x0 Z98x0
      simp
  have e : (0 : Int) < ((a.n : Nat) : Int) := by omega
  unfold M98 Q98
  simp only [this, e]
  simp
end Go.Dm


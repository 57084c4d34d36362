/- Heights of marks. -/
import Derived.Test.YtlfgdpjompacjaaL7NP2
set_option linter.unusedVariables false
set_option linter.unusedSimpArgs false
namespace Go.Dm
set_option maxRecDepth 100000

abbrev rowI : Type := Sl (Int × Unit)
def rise (t : traceT) (u : rowI) (j : Nat) : Int := W (Int.tdiv (W ((W ((W ((W ((5464 : Int) + (u.g j).1)) + (u.g (j + 1)).1)) * (W ((t.2.2.1.g j).1 - (t.2.2.1.g (j + 1)).1)))) * (2927 : Int))) (W ((1000 : Int) * (W ((t.2.2.1.g j).1 + (t.2.2.1.g (j + 1)).1)))))
def hs (t : traceT) (b : Int) (u : rowI) : Nat → Int
  | 0 => b
  | j + 1 => W (hs t b u j + rise t u j)
/-! truths of a trace -/
/-! lists that are equal -/
theorem M25xe {x : (a25).den} (h : x.1.n ≤ 140737488355328) : M25 x = some (decide (x.1.n = x.2.1.n) && (List.range x.1.n).all (fun j => decide ((x.1.g j).1 = (x.2.1.g j).1)), ()) := by
  unfold M25 Q25
  by_cases hu : x.1.n = x.2.1.n
  · have e : (((x.1.n : Nat) : Int) = ((x.2.1.n : Nat) : Int)) := by omega
    have hl : L25x0 (x.1, (x.2.1, ())) ((0 : Int), ()) = bif (List.range x.1.n).all (fun j => decide ((x.1.g j).1 = (x.2.1.g j).1)) then .exit 0 () else .ret (false, ()) := by
      unfold L25x0
      refine iterQ_all (ps := vs25x0) (f := fun j => ((j : Int), ())) (big_lt h) (fun j hj hc => ?_) fun _ => ?_
      · have e1 : ((j : Int) < ((x.1.n : Nat) : Int)) := by omega
        have e2 : ((j : Int) < ((x.2.1.n : Nat) : Int)) := by omega
        have e3 : W ((j : Int) + 1) = ((j + 1 : Nat) : Int) := by rw [W_id ⟨by omega, by omega⟩]; rfl
        unfold S25x0 Z25x0
        simp only [e1, e2, e3, decide_true, cond_true, Int.toNat_natCast, Int.natCast_nonneg, and_self]
        by_cases hh : (x.1.g j).1 = (x.2.1.g j).1 <;> simp [hh]
      · unfold S25x0 Z25x0
        simp
    rw [hl]
    simp only [e, hu, decide_true, Bool.not_true, cond_false, Bool.true_and]
    cases (List.range x.2.1.n).all fun j => decide ((x.1.g j).1 = (x.2.1.g j).1) <;> simp
  · have e : ¬ (((x.1.n : Nat) : Int) = ((x.2.1.n : Nat) : Int)) := by omega
    simp [e, hu]
end Go.Dm


/- Levels, and what is above a height. -/
import Derived.Test.YtlfgdpjompacjaaL8NP3
set_option linter.unusedVariables false
set_option linter.unusedSimpArgs false
namespace Go.Dm
set_option maxRecDepth 100000

abbrev rowS : Type := Sl (Int × Int × Unit)
def e0 : rowI := ⟨0, fun _ => ((0 : Int), ())⟩
def eS : rowS := ⟨0, fun _ => ((0 : Int), ((0 : Int), ()))⟩
def cold (t : traceT) (j : Nat) : rowI := tab e0 (fun j => ((t.2.2.1.g j).2.1, ())) j
def warm (t : traceT) (j : Nat) : rowI := tab e0 (fun j => (t.2.2.1.g j).2.2) j
theorem cold_n (t : traceT) (j : Nat) : (cold t j).n = j := by unfold cold; rw [tab_n]; show 0 + j = j; omega
theorem warm_n (t : traceT) (j : Nat) : (warm t j).n = j := by unfold warm; rw [tab_n]; show 0 + j = j; omega
def lowR (t : traceT) : rowI := hrow t t.1 (cold t t.2.2.1.n) (t.2.2.1.n - 1)
def highR (t : traceT) : rowI := hrow t t.2.1 (warm t t.2.2.1.n) (t.2.2.1.n - 1)
def spans (t : traceT) (j : Nat) : rowS := tab eS (fun j => (((lowR t).g j).1, (highR t).g j)) j
theorem spans_n (t : traceT) (j : Nat) : (spans t j).n = j := by unfold spans; rw [tab_n]; show 0 + j = j; omega
theorem spans_g (t : traceT) {i j : Nat} (h : i < j) : (spans t j).g i = (((lowR t).g i).1, (highR t).g i) := tab_g0 (s0 := eS) rfl h

theorem L40x0_e (t : traceT) (h : t.2.2.1.n ≤ 100) :
    L40x0 ((), (t.2.2.1, (((t.2.2.1.n : Nat) : Int), (t, ())))) (e0, (e0, ((0 : Int), ()))) = .exit 0 (cold t t.2.2.1.n, (warm t t.2.2.1.n, ())) := by
  unfold L40x0
  refine iterQ_steps (ps := vs40x0) t.2.2.1.n big (fun j => (cold t j, (warm t j, ((j : Int), ())))) (big_lt (by omega)) (fun j hj => ?_) ?_
  · have e1 : ((j : Int) < ((t.2.2.1.n : Nat) : Int)) := by omega
    have e3 : W ((j : Int) + 1) = ((j + 1 : Nat) : Int) := by rw [W_id ⟨by omega, by omega⟩]; rfl
    have e4 : ((cold t j).n + 1) * 8 ≤ 140737488355328 := by rw [cold_n]; omega
    have e5 : ((warm t j).n + 1) * 8 ≤ 140737488355328 := by rw [warm_n]; omega
    unfold S40x0 Z40x0
    simp only [e1, e3, e4, e5, decide_true, cond_true, Int.toNat_natCast, Int.natCast_nonneg, and_self]
    rfl
  · unfold S40x0 Z40x0
    simp
theorem L40x1_e {t : traceT} (h : 1 ≤ t.2.2.1.n ∧ t.2.2.1.n ≤ 100) :
    L40x1 (lowR t, (highR t, (((t.2.2.1.n : Nat) : Int), ()))) (eS, ((0 : Int), ())) = .exit 2 (spans t t.2.2.1.n, ()) := by
  unfold L40x1
  refine iterQ_steps (ps := vs40x1) t.2.2.1.n big (fun j => (spans t j, ((j : Int), ()))) (big_lt (by omega)) (fun j hj => ?_) ?_
  · have e1 : ((j : Int) < ((t.2.2.1.n : Nat) : Int)) := by omega
    have e3 : W ((j : Int) + 1) = ((j + 1 : Nat) : Int) := by rw [W_id ⟨by omega, by omega⟩]; rfl
    have e4 : ((spans t j).n + 1) * 16 ≤ 140737488355328 := by rw [spans_n]; omega
    have e5 : ((j : Int) < (((lowR t).n : Nat) : Int)) := by unfold lowR; rw [hrow_n]; omega
    have e6 : ((j : Int) < (((highR t).n : Nat) : Int)) := by unfold highR; rw [hrow_n]; omega
    unfold S40x1 Z40x1
    simp only [e1, e3, e4, e5, e6, decide_true, cond_true, Int.toNat_natCast, Int.natCast_nonneg, and_self]
    rfl
  · unfold S40x1 Z40x1
    simp
theorem M40xe {x : (a40).den} (h : x.1.2.2.1.n ≤ 100) : M40 x = some (bif traceB x.1 then (spans x.1 x.1.2.2.1.n, ((0 : Int), ())) else (eS, ((2 : Int), ()))) := by
  unfold M40 Q40
  have q0 : p72 (x.1, ()) = true := p72xe (by show x.1.2.2.1.n ≤ _; omega)
  have q1 : v72 (x.1, ()) = (traceB x.1, ()) := v72xe (by show x.1.2.2.1.n ≤ _; omega)
  simp only [cq72, cq74, q0, q1, cond_true]
  cases ht : traceB x.1 with
  | false => simp [cq72, cq74, eS]
  | true =>
    obtain ⟨_, _, h2, h3⟩ := traceB_t ht
    have k := L40x0_e x.1 h
    have k1 := L40x1_e (t := x.1) ⟨h2, h⟩
    unfold e0 at k
    unfold eS lowR highR at k1
    have c1 := v74xe (x := (x.1, (x.1.1, (cold x.1 x.1.2.2.1.n, ())))) ht (cold_n _ _)
    have c2 := v74xe (x := (x.1, (x.1.2.1, (warm x.1 x.1.2.2.1.n, ())))) ht (warm_n _ _)
    have c3 := p74xe (x := (x.1, (x.1.1, (cold x.1 x.1.2.2.1.n, ())))) ht (cold_n _ _)
    have c4 := p74xe (x := (x.1, (x.1.2.1, (warm x.1 x.1.2.2.1.n, ())))) ht (warm_n _ _)
    simp only [cq72, cq74, Bool.not_true, cond_false, k, xe40x0e0, xe40x1e2, cond_true, c1, c2, c3, c4]
    simp only [cq72, cq74, k1, xe40x1e2, cond_true]
/-! the first of which something holds -/
end Go.Dm


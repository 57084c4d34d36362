/- Heights of marks. -/
import Derived.Test.YtlfgdpjompacjaaL8NP2
set_option linter.unusedVariables false
set_option linter.unusedSimpArgs false
namespace Go.Dm
set_option maxRecDepth 100000

abbrev rowI : Type := Sl (Int × Unit)
def rise (t : traceT) (u : rowI) (j : Nat) : Int := W (Int.tdiv (W ((W ((W ((W ((5464 : Int) + (u.g j).1)) + (u.g (j + 1)).1)) * (W ((t.2.2.1.g j).1 - (t.2.2.1.g (j + 1)).1)))) * (2927 : Int))) (W ((1000 : Int) * (W ((t.2.2.1.g j).1 + (t.2.2.1.g (j + 1)).1)))))
def hs (t : traceT) (b : Int) (u : rowI) : Nat → Int
  | 0 => b
  | j + 1 => W (hs t b u j + rise t u j)
def out0 (b : Int) : rowI := ⟨1, fun i => List.getD [(b, ())] i (b, ())⟩
def hrow (t : traceT) (b : Int) (u : rowI) (j : Nat) : rowI := tab (out0 b) (fun i => (hs t b u (i + 1), ())) j
theorem hrow_n (t : traceT) (b : Int) (u : rowI) (j : Nat) : (hrow t b u j).n = j + 1 := by unfold hrow; rw [tab_n]; show 1 + j = j + 1; omega
theorem hrow_g (t : traceT) (b : Int) (u : rowI) {i j : Nat} (h : i ≤ j) : (hrow t b u j).g i = (hs t b u i, ()) := by
  unfold hrow
  cases i with
  | zero => rw [tab_old (by show 0 < 1; omega)]; rfl
  | succ i =>
    have := tab_g (s0 := out0 b) (y := fun i => (hs t b u (i + 1), ())) (i := i) (j := j) (by omega)
    rw [show (out0 b).n + i = i + 1 by show 1 + i = i + 1; omega] at this
    exact this

theorem press_ne {t : traceT} (h : traceB t = true) {i : Nat} (hi : i + 1 < t.2.2.1.n) : W ((1000 : Int) * (W ((t.2.2.1.g i).1 + (t.2.2.1.g (i + 1)).1))) ≠ 0 := by
  obtain ⟨h1, _, _⟩ := traceB_t h
  have a := mark_bd h1 i (by omega)
  have b := mark_bd h1 (i + 1) hi
  rw [W_id (n := (t.2.2.1.g i).1 + (t.2.2.1.g (i + 1)).1) ⟨by omega, by omega⟩, W_id ⟨by omega, by omega⟩]
  omega

theorem L74xe {t : traceT} (b : Int) {u : rowI} (h : traceB t = true) (hu : u.n = t.2.2.1.n) :
    L74x0 (u, ((), (t, ()))) (b, (out0 b, ((1 : Int), ()))) = .exit 0 (hrow t b u (t.2.2.1.n - 1), ()) := by
  obtain ⟨h1, _, h2, h3⟩ := traceB_t h
  unfold L74x0
  refine iterQ_steps (ps := vs74x0) (t.2.2.1.n - 1) big (fun j => (hs t b u j, (hrow t b u j, ((j + 1 : Nat) : Int), ()))) (by unfold big; omega) (fun j hj => ?_) ?_
  · have e1 : (((j + 1 : Nat) : Int) < ((t.2.2.1.n : Nat) : Int)) := by omega
    have e2 : W (((j + 1 : Nat) : Int) - 1) = (j : Int) := by rw [W_id ⟨by omega, by omega⟩]; omega
    have e3 : W (((j + 1 : Nat) : Int) + 1) = ((j + 1 + 1 : Nat) : Int) := by rw [W_id ⟨by omega, by omega⟩]; rfl
    have e4 : ((j : Int) < ((t.2.2.1.n : Nat) : Int)) := by omega
    have e5 := press_ne h (i := j) (by omega)
    have e6 : (hrow t b u j).n + 1 ≤ 17 := by rw [hrow_n]; omega
    have e7 : ((hrow t b u j).n + 1) * 8 ≤ 140737488355328 := by omega
    unfold S74x0 Z74x0
    simp only [hu, e1, e2, e3, e4, e5, e7, decide_true, decide_false, cond_true, cond_false, Int.toNat_natCast, Int.natCast_nonneg, and_self]
    rfl
  · have e1 : ¬ (((t.2.2.1.n - 1 + 1 : Nat) : Int) < ((t.2.2.1.n : Nat) : Int)) := by omega
    unfold S74x0 Z74x0
    simp only [e1, decide_false, cond_false]
theorem M74xe {x : (a74).den} (h : traceB x.1 = true) (hu : x.2.2.1.n = x.1.2.2.1.n) : M74 x = some (hrow x.1 x.2.1 x.2.2.1 (x.1.2.2.1.n - 1), ()) := by
  unfold M74 Q74
  have := L74xe (t := x.1) x.2.1 (u := x.2.2.1) h hu
  unfold out0 at this
  rw [this]
  simp
theorem p74xe {x : (a74).den} (h : traceB x.1 = true) (hu : x.2.2.1.n = x.1.2.2.1.n) : p74 x = true := by simp [p74, M74xe h hu]
theorem v74xe {x : (a74).den} (h : traceB x.1 = true) (hu : x.2.2.1.n = x.1.2.2.1.n) : v74 x = (hrow x.1 x.2.1 x.2.2.1 (x.1.2.2.1.n - 1), ()) := by simp [v74, M74xe h hu]

/-! truths of a trace -/
/-! lists that are equal -/
end Go.Dm


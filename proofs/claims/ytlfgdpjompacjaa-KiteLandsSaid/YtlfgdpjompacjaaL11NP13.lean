/- The rows of winds, least and greatest. -/
import Derived.Test.YtlfgdpjompacjaaL11NP12
set_option linter.unusedVariables false
set_option linter.unusedSimpArgs false
namespace Go.Dm
set_option maxRecDepth 100000

def rowW (g : Nat → Int) (n : Nat) : rowI := tab ⟨0, fun _ => ((0 : Int), ())⟩ (fun j => (g j, ())) n
theorem rowW_n (g : Nat → Int) (n : Nat) : (rowW g n).n = n := by unfold rowW; rw [tab_n]; show 0 + n = n; omega
theorem rowW_g (g : Nat → Int) {i n : Nat} (h : i < n) : (rowW g n).g i = (g i, ()) := tab_g0 (s0 := ⟨0, fun _ => ((0 : Int), ())⟩) rfl h
theorem rowW_s (g : Nat → Int) (n : Nat) : rowW g (n + 1) = snoc (rowW g n) (g n, ()) := by unfold rowW; rw [tab]
theorem L49i_e (f : flightT) (h : f.1.n ≤ 8) (b : Bool) (up down top : Int) (l : rowI) (o1 o2 : Int × Int × Int × Int × Int × Int × Unit) :
    L49x0x0x0x0 ((), ((), ((), (b, (up, (down, (top, (l, (f, (o1, (o2, ()))))))))))) (rowW (fun j => (spE f j).1) 0, (rowW (fun j => (spE f j).2.1) 0, (rowW (fun j => (spN f j).1) 0, (rowW (fun j => (spN f j).2.1) 0, ((0 : Int), ()))))) =
      .exit 6 (rowW (fun j => (spE f j).1) f.1.n, (rowW (fun j => (spE f j).2.1) f.1.n, (rowW (fun j => (spN f j).1) f.1.n, (rowW (fun j => (spN f j).2.1) f.1.n, ())))) := by
  unfold L49x0x0x0x0
  refine iterQ_steps (ps := vs49x0x0x0x0) f.1.n big (fun j => (rowW (fun j => (spE f j).1) j, (rowW (fun j => (spE f j).2.1) j, (rowW (fun j => (spN f j).1) j, (rowW (fun j => (spN f j).2.1) j, ((j : Int), ())))))) (big_lt (by omega)) (fun j hj => ?_) ?_
  · have e1 : ((j : Int) < ((f.1.n : Nat) : Int)) := by omega
    have e3 : W ((j : Int) + 1) = ((j + 1 : Nat) : Int) := by rw [W_id ⟨by omega, by omega⟩]; rfl
    have e7 : (j + 1) * 8 ≤ 140737488355328 := by omega
    unfold S49x0x0x0x0 Z49x0x0x0x0
    simp only [rowW_n, e1, e3, e7, decide_true, cond_true, Int.toNat_natCast, Int.natCast_nonneg, and_self, rowW_s]
    rfl
  · unfold S49x0x0x0x0 Z49x0x0x0x0
    simp
end Go.Dm


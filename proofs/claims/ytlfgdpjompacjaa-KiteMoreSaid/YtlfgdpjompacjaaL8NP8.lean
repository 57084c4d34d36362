/- KitePlays. -/
import Derived.Test.YtlfgdpjompacjaaL8NP7
set_option linter.unusedVariables false
set_option linter.unusedSimpArgs false
namespace Go.Dm
set_option maxRecDepth 100000

abbrev spanI : Type := Int × Int × Unit
def s0I : Sl spanI := ⟨0, fun _ => ((0 : Int), ((0 : Int), ()))⟩
def spE (f : flightT) (j : Nat) : spanI := ((f.1.g j).2.1, ((f.1.g j).2.2.1, ()))
def spN (f : flightT) (j : Nat) : spanI := (f.1.g j).2.2.2
theorem L94xe {F : (Ty.fn (.cons tI .nil) T6).den} {sp : Nat → spanI} {n : Nat} (hn : n ≤ 8) (hF : ∀ j : Nat, j < n → F ((j : Int), ()) = (true, (sp j, ()))) :
    L94x0 (F, ((n : Int), ())) (s0I, ((0 : Int), ())) = .exit 0 (tab s0I sp n, ()) := by
  unfold L94x0
  refine iterQ_steps (ps := vs94x0) n big (fun j => (tab s0I sp j, ((j : Int), ()))) (big_lt (by omega)) (fun j hj => ?_) ?_
  · have e1 : ((j : Int) < ((n : Nat) : Int)) := by omega
    have e3 : W ((j : Int) + 1) = ((j + 1 : Nat) : Int) := by rw [W_id ⟨by omega, by omega⟩]; rfl
    have e6 : (tab s0I sp j).n + 1 ≤ 17 := by rw [tab_n]; show 0 + j + 1 ≤ 17; omega
    have e7 : ((tab s0I sp j).n + 1) * 16 ≤ 140737488355328 := by omega
    unfold S94x0 Z94x0
    simp only [hF j hj, e1, e3, e7, decide_true, cond_true]
    rfl
  · unfold S94x0 Z94x0
    simp
theorem p116xe (f : flightT) (up down top : Int) {j : Nat} (h : j < f.1.n) : p116 (fly f up down top, ((j : Int), ())) = true := by
  have e1 : ((j : Int) < ((f.1.n : Nat) : Int)) := by omega
  simp [cq116, p116, M116, Q116, fly, e1]
theorem v116xe (f : flightT) (up down top : Int) {j : Nat} (h : j < f.1.n) : v116 (fly f up down top, ((j : Int), ())) = (spE f j, ()) := by
  have e1 : ((j : Int) < ((f.1.n : Nat) : Int)) := by omega
  simp [cq116, v116, M116, Q116, fly, e1, spE]
theorem p117xe (f : flightT) (up down top : Int) {j : Nat} (h : j < f.1.n) : p117 (fly f up down top, ((j : Int), ())) = true := by
  have e1 : ((j : Int) < ((f.1.n : Nat) : Int)) := by omega
  simp [cq117, p117, M117, Q117, fly, e1]
theorem v117xe (f : flightT) (up down top : Int) {j : Nat} (h : j < f.1.n) : v117 (fly f up down top, ((j : Int), ())) = (spN f j, ()) := by
  have e1 : ((j : Int) < ((f.1.n : Nat) : Int)) := by omega
  simp [cq117, v117, M117, Q117, fly, e1, spN]
def eachIn (a : rowI) (b : Nat → spanI) (j : Nat) : Bool := inB (a.g j).1 (b j).1 (b j).2.1
end Go.Dm


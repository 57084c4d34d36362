/- KitePlays. -/
import Derived.Test.YtlfgdpjompacjaaL14NP7
set_option linter.unusedVariables false
set_option linter.unusedSimpArgs false
namespace Go.Dm
set_option maxRecDepth 100000

abbrev spanI : Type := Int × Int × Unit
def s0I : Sl spanI := ⟨0, fun _ => ((0 : Int), ((0 : Int), ()))⟩
def spE (f : flightT) (j : Nat) : spanI := ((f.1.g j).2.1, ((f.1.g j).2.2.1, ()))
def spN (f : flightT) (j : Nat) : spanI := (f.1.g j).2.2.2
theorem L94xe {F : (Ty.fn (.cons tI .nil) T6).den} {sp : Nat → spanI} {n : Nat} (hn : n ≤ 8) (hF : ∀ j : Nat, j < n → F ((j : Int), ()) = (true, (sp j, ()))) :
    L94x0 (F, ((n : Int), ())) (s0I, ((0 : Int), ())) = .exit 0 (tab s0I sp n, ()) := by
  unfold L94x0
  refine iterQ_steps (ps := vs94x0) n big (fun j => (tab s0I sp j, ((j : Int), ()))) (big_lt (by omega)) (fun j hj => ?_) ?_
  · have e1 : ((j : Int) < ((n : Nat) : Int)) := by omega
    have e3 : W ((j : Int) + 1) = ((j + 1 : Nat) : Int) := by rw [W_id ⟨by omega, by omega⟩]; rfl
    have e6 : (tab s0I sp j).n + 1 ≤ 17 := by rw [tab_n]; show 0 + j + 1 ≤ 17; omega
    have e7 : ((tab s0I sp j).n + 1) * 16 ≤ 140737488355328 := by omega
    unfold S94x0 Z94x0
    simp only [hF j hj, e1, e3, e7, decide_true, cond_true]
    rfl
  · unfold S94x0 Z94x0
    simp
theorem p116xe (f : flightT) (up down top : Int) {j : Nat} (h : j < f.1.n) : p116 (fly f up down top, ((j : Int), ())) = true := by
  have e1 : ((j : Int) < ((f.1.n : Nat) : Int)) := by omega
  simp [cq116, p116, M116, Q116, fly, e1]
theorem v116xe (f : flightT) (up down top : Int) {j : Nat} (h : j < f.1.n) : v116 (fly f up down top, ((j : Int), ())) = (spE f j, ()) := by
  have e1 : ((j : Int) < ((f.1.n : Nat) : Int)) := by omega
  simp [cq116, v116, M116, Q116, fly, e1, spE]
theorem p117xe (f : flightT) (up down top : Int) {j : Nat} (h : j < f.1.n) : p117 (fly f up down top, ((j : Int), ())) = true := by
  have e1 : ((j : Int) < ((f.1.n : Nat) : Int)) := by omega
  simp [cq117, p117, M117, Q117, fly, e1]
theorem v117xe (f : flightT) (up down top : Int) {j : Nat} (h : j < f.1.n) : v117 (fly f up down top, ((j : Int), ())) = (spN f j, ()) := by
  have e1 : ((j : Int) < ((f.1.n : Nat) : Int)) := by omega
  simp [cq117, v117, M117, Q117, fly, e1, spN]
theorem M94x0 (f : flightT) (up down top : Int) (h : f.1.n ≤ 8) : M94 (fly f up down top, ((0 : Int), ())) = some (tab s0I (spE f) f.1.n, ()) := by
  have := L94xe (F := fun y1 => ((p116 (fly f up down top, y1)), (v116 (fly f up down top, y1)))) (sp := spE f) h fun j hj => by simp only [cq116, p116xe f up down top hj, v116xe f up down top hj]
  unfold s0I at this
  unfold M94 Q94
  have e : (fly f up down top).1.n = f.1.n := rfl
  have e1 : ((0 : Int) < 2 ∧ (0 : Int) ≤ 0) := by omega
  have e2 : Int.toNat 0 * 1 < 2 := by decide
  simp only [cq116, e, e1, e2, decide_true, cond_true]
  simp only [cq116, show Int.toNat 0 * 1 = 0 from rfl, List.getD_cons_zero]
  simp only [cq116, this, xe94x0e0, cond_true]
  rfl
theorem M94x1 (f : flightT) (up down top : Int) (h : f.1.n ≤ 8) : M94 (fly f up down top, ((1 : Int), ())) = some (tab s0I (spN f) f.1.n, ()) := by
  have := L94xe (F := fun y1 => ((p117 (fly f up down top, y1)), (v117 (fly f up down top, y1)))) (sp := spN f) h fun j hj => by simp only [cq117, p117xe f up down top hj, v117xe f up down top hj]
  unfold s0I at this
  unfold M94 Q94
  have e : (fly f up down top).1.n = f.1.n := rfl
  have e1 : ((1 : Int) < 2 ∧ (0 : Int) ≤ 1) := by omega
  have e2 : Int.toNat 1 * 1 < 2 := by decide
  simp only [cq117, e, e1, e2, decide_true, cond_true]
  simp only [cq117, show Int.toNat 1 * 1 = 1 from rfl, List.getD_cons_succ, List.getD_cons_zero]
  simp only [cq117, this, xe94x0e0, cond_true]
  rfl

def eachIn (a : rowI) (b : Nat → spanI) (j : Nat) : Bool := inB (a.g j).1 (b j).1 (b j).2.1
theorem M120xe {a : rowI} {b : Sl spanI} {F : (Ty.fn T7 T3).den} (hF : ∀ (x : Int) (s : spanI), F (x, (s, ())) = (true, (inB x s.1 s.2.1, ()))) (h : a.n ≤ 140737488355328) :
    M120 (a, (b, (F, ()))) = some (decide (a.n = b.n) && (List.range a.n).all (eachIn a b.g), ()) := by
  unfold M120 Q120
  by_cases e : a.n = b.n
  · have : L120x0 (b, (F, (a, (((a.n : Nat) : Int), ())))) ((0 : Int), ()) = bif (List.range a.n).all (eachIn a b.g) then .exit 0 () else .ret (false, ()) := by
      unfold L120x0
      refine iterQ_all (ps := vs120x0) (f := fun j => ((j : Int), ())) (big_lt h) (fun j hj _ => ?_) fun _ => ?_
      · have e1 : ((j : Int) < ((a.n : Nat) : Int)) := by omega
        have e3 : W ((j : Int) + 1) = ((j + 1 : Nat) : Int) := by rw [W_id ⟨by omega, by omega⟩]; rfl
        have e4 : ((j : Int) < ((b.n : Nat) : Int)) := by omega
        unfold S120x0 Z120x0
        simp only [e1, e3, e4, hF, decide_true, cond_true, Int.toNat_natCast, Int.natCast_nonneg, and_self]
        unfold eachIn
        cases inB (a.g j).1 (b.g j).1 (b.g j).2.1 <;> simp
      · unfold S120x0 Z120x0
        simp
    simp only [this]
    cases (List.range a.n).all (eachIn a b.g) <;> simp [e]
  · have e' : ¬ ((a.n : Nat) : Int) = ((b.n : Nat) : Int) := by omega
    simp [e, e']
theorem p120xe {a : rowI} {b : Sl spanI} {F : (Ty.fn T7 T3).den} (hF : ∀ (x : Int) (s : spanI), F (x, (s, ())) = (true, (inB x s.1 s.2.1, ()))) (h : a.n ≤ 140737488355328) : p120 (a, (b, (F, ()))) = true := by simp [p120, M120xe hF h]
theorem v120xe {a : rowI} {b : Sl spanI} {F : (Ty.fn T7 T3).den} (hF : ∀ (x : Int) (s : spanI), F (x, (s, ())) = (true, (inB x s.1 s.2.1, ()))) (h : a.n ≤ 140737488355328) : v120 (a, (b, (F, ()))) = (decide (a.n = b.n) && (List.range a.n).all (eachIn a b.g), ()) := by simp [v120, M120xe hF h]
theorem p119xe (x : (a119).den) : p119 x = true := by simp [cq73, cq119, p119, M119, Q119, p73xe]
theorem v119xe (x : (a119).den) : v119 x = (inB x.1 x.2.1.1 x.2.1.2.1, ()) := by simp [cq73, cq119, v119, M119, Q119, p73xe, v73xe]

def truthFC (f : flightT) (e n : rowI) (j : Nat) : Bool := eachIn e (spE f) j && eachIn n (spN f) j
def truthF (f : flightT) (up down top : Int) (e n : rowI) : Bool := decide (e.n = f.1.n) && (decide (n.n = f.1.n) && ((List.range f.1.n).all (truthFC f e n) && (inB up f.2.1 f.2.2.1 && (inB down f.2.2.2.1 f.2.2.2.2.1 && inB top f.2.2.2.2.2.1 f.2.2.2.2.2.2.1))))
theorem M57xe (f : flightT) {up down top : Int} {e n : rowI} (h : f.1.n ≤ 140737488355328) :
    M57 (f, ((up, (down, (top, (e, (n, ()))))), ())) = some (truthF f up down top e n, ()) := by
  unfold M57 Q57 truthF
  by_cases h1 : e.n = f.1.n
  · by_cases h2 : n.n = f.1.n
    · have : L57x0 ((), ((), (f, ((up, (down, (top, (e, (n, ()))))), ())))) ((0 : Int), ()) = bif (List.range f.1.n).all (truthFC f e n) then .exit 0 () else .ret (false, ()) := by
        unfold L57x0
        refine iterQ_all (ps := vs57x0) (f := fun j => ((j : Int), ())) (big_lt h) (fun j hj _ => ?_) fun _ => ?_
        · have e1 : ((j : Int) < ((f.1.n : Nat) : Int)) := by omega
          have e3 : W ((j : Int) + 1) = ((j + 1 : Nat) : Int) := by rw [W_id ⟨by omega, by omega⟩]; rfl
          unfold S57x0 Z57x0
          simp only [cq75, h1, h2, p75xe, v75xe, e1, e3, decide_true, cond_true, Int.toNat_natCast, Int.natCast_nonneg, and_self]
          unfold truthFC eachIn spE spN
          cases h3 : inB (e.g j).1 (f.1.g j).2.1 (f.1.g j).2.2.1 with
          | false => simp
          | true => cases h4 : inB (n.g j).1 (f.1.g j).2.2.2.1 (f.1.g j).2.2.2.2.1 <;> simp
        · unfold S57x0 Z57x0
          simp
      simp only [cq75, this, h1, h2, decide_true, Bool.not_true, cond_false, Bool.true_and]
      cases (List.range f.1.n).all (truthFC f e n) with
      | false => simp
      | true =>
        simp only [cq75, p75xe, v75xe, cond_true]
        cases inB up f.2.1 f.2.2.1 with
        | false => simp
        | true => cases inB down f.2.2.2.1 f.2.2.2.2.1 <;> simp
    · have e' : ¬ ((n.n : Nat) : Int) = ((f.1.n : Nat) : Int) := by omega
      simp [cq75, h1, h2, e']
  · have e' : ¬ ((e.n : Nat) : Int) = ((f.1.n : Nat) : Int) := by omega
    simp [cq75, h1, e']
end Go.Dm


/- Flights. -/
import Derived.Test.YtlfgdpjompacjaaL8NP5
set_option linter.unusedVariables false
set_option linter.unusedSimpArgs false
namespace Go.Dm
set_option maxRecDepth 100000

abbrev layerT : Type := Int × Int × Int × Int × Int × Unit
abbrev flightT : Type := Sl layerT × Int × Int × Int × Int × Int × Int × Int × Int × Int × Int × Int × Int × Unit
def windB (a b : Int) : Bool := spanB a b (-100) 100 && decide (W (b - a) ≤ 8)
def speedB (a b : Int) : Bool := spanB a b 50 1000 && decide (W (b - a) ≤ 3)
theorem M113xe (x : (a113).den) : M113 x = some (windB x.1.1 x.1.2.1, ()) := by
  unfold M113 Q113 windB
  simp only [cq104, p104xe, v104xe, cond_true]
  cases spanB x.1.1 x.1.2.1 (-100) 100 <;> simp
theorem p113xe (x : (a113).den) : p113 x = true := by simp [p113, M113xe]
theorem v113xe (x : (a113).den) : v113 x = (windB x.1.1 x.1.2.1, ()) := by simp [v113, M113xe]
theorem M114xe (x : (a114).den) : M114 x = some (speedB x.1.1 x.1.2.1, ()) := by
  unfold M114 Q114 speedB
  simp only [cq104, p104xe, v104xe, cond_true]
  cases spanB x.1.1 x.1.2.1 50 1000 <;> simp
theorem p114xe (x : (a114).den) : p114 x = true := by simp [p114, M114xe]
theorem v114xe (x : (a114).den) : v114 x = (speedB x.1.1 x.1.2.1, ()) := by simp [v114, M114xe]
theorem M89xe (x : (a89).den) : M89 x = some (windB x.1.1 x.1.2.1, ()) := by
  unfold M89 Q89 windB
  simp only [cq68, p68xe, v68xe, cond_true]
  cases spanB x.1.1 x.1.2.1 (-100) 100 <;> simp
theorem p89xe (x : (a89).den) : p89 x = true := by simp [p89, M89xe]
theorem v89xe (x : (a89).den) : v89 x = (windB x.1.1 x.1.2.1, ()) := by simp [v89, M89xe]
theorem M90xe (x : (a90).den) : M90 x = some (speedB x.1.1 x.1.2.1, ()) := by
  unfold M90 Q90 speedB
  simp only [cq68, p68xe, v68xe, cond_true]
  cases spanB x.1.1 x.1.2.1 50 1000 <;> simp
theorem p90xe (x : (a90).den) : p90 x = true := by simp [p90, M90xe]
theorem v90xe (x : (a90).den) : v90 x = (speedB x.1.1 x.1.2.1, ()) := by simp [v90, M90xe]

def layerC (f : flightT) (j : Nat) : Bool := inB (f.1.g j).1 1 3000 && (windB (f.1.g j).2.1 (f.1.g j).2.2.1 && windB (f.1.g j).2.2.2.1 (f.1.g j).2.2.2.2.1)
def headB (f : flightT) : Bool := inB (f.1.n : Int) 1 4 && (speedB f.2.1 f.2.2.1 && (speedB f.2.2.2.1 f.2.2.2.2.1 && (spanB f.2.2.2.2.2.1 f.2.2.2.2.2.2.1 1 (f.1.n : Int) && (spanB f.2.2.2.2.2.2.2.1 f.2.2.2.2.2.2.2.2.1 (-100000) 100000 && (spanB f.2.2.2.2.2.2.2.2.2.1 f.2.2.2.2.2.2.2.2.2.2.1 (-100000) 100000 && spanB f.2.2.2.2.2.2.2.2.2.2.2.1 f.2.2.2.2.2.2.2.2.2.2.2.2.1 0 100000)))))
def flightB (f : flightT) : Bool := (List.range f.1.n).all (layerC f) && headB f

theorem L92xe (f : flightT) (h : f.1.n ≤ 140737488355328) :
    L92x0 ((), (f.1, (((f.1.n : Nat) : Int), (f, ())))) ((0 : Int), ()) = bif (List.range f.1.n).all (layerC f) then .exit 0 () else .ret (false, ()) := by
  unfold L92x0
  refine iterQ_all (ps := vs92x0) (f := fun j => ((j : Int), ())) (big_lt h) (fun j hj _ => ?_) fun _ => ?_
  · have e1 : ((j : Int) < ((f.1.n : Nat) : Int)) := by omega
    have e3 : W ((j : Int) + 1) = ((j + 1 : Nat) : Int) := by rw [W_id ⟨by omega, by omega⟩]; rfl
    unfold S92x0 Z92x0
    simp only [cq102, cq113, p102xe, v102xe, p113xe, v113xe, e1, e3, decide_true, cond_true, Int.toNat_natCast, Int.natCast_nonneg, and_self]
    unfold layerC
    cases h1 : inB (f.1.g j).1 1 3000 with
    | false => simp
    | true =>
      cases h2 : windB (f.1.g j).2.1 (f.1.g j).2.2.1 with
      | false => simp
      | true => cases h3 : windB (f.1.g j).2.2.2.1 (f.1.g j).2.2.2.2.1 <;> simp [cq102, cq113, h3]
  · unfold S92x0 Z92x0
    simp
theorem M92xe {x : (a92).den} (h : x.1.1.n ≤ 140737488355328) : M92 x = some (flightB x.1, ()) := by
  unfold M92 Q92 flightB headB
  rw [L92xe x.1 h]
  cases h1 : (List.range x.1.1.n).all (layerC x.1) with
  | false => simp
  | true =>
    simp only [cq102, cq104, cq114, p102xe, v102xe, p114xe, v114xe, p104xe, v104xe, cond_true]
    cases inB (x.1.1.n : Int) 1 4 with
    | false => simp
    | true =>
    cases speedB x.1.2.1 x.1.2.2.1 with
    | false => simp
    | true =>
    cases speedB x.1.2.2.2.1 x.1.2.2.2.2.1 with
    | false => simp
    | true =>
    cases spanB x.1.2.2.2.2.2.1 x.1.2.2.2.2.2.2.1 1 (x.1.1.n : Int) with
    | false => simp
    | true =>
    cases spanB x.1.2.2.2.2.2.2.2.1 x.1.2.2.2.2.2.2.2.2.1 (-100000) 100000 with
    | false => simp
    | true =>
    cases spanB x.1.2.2.2.2.2.2.2.2.2.1 x.1.2.2.2.2.2.2.2.2.2.2.1 (-100000) 100000 <;> simp
theorem L38xe (f : flightT) (h : f.1.n ≤ 140737488355328) :
    L38x0 ((), (f, ())) ((0 : Int), ()) = bif (List.range f.1.n).all (layerC f) then .exit 0 () else .ret (false, ()) := by
  unfold L38x0
  refine iterQ_all (ps := vs38x0) (f := fun j => ((j : Int), ())) (big_lt h) (fun j hj _ => ?_) fun _ => ?_
  · have e1 : ((j : Int) < ((f.1.n : Nat) : Int)) := by omega
    have e3 : W ((j : Int) + 1) = ((j + 1 : Nat) : Int) := by rw [W_id ⟨by omega, by omega⟩]; rfl
    unfold S38x0 Z38x0
    simp only [cq75, cq89, p75xe, v75xe, p89xe, v89xe, e1, e3, decide_true, cond_true, Int.toNat_natCast, Int.natCast_nonneg, and_self]
    unfold layerC
    cases h1 : inB (f.1.g j).1 1 3000 with
    | false => simp
    | true =>
      cases h2 : windB (f.1.g j).2.1 (f.1.g j).2.2.1 with
      | false => simp
      | true => cases h3 : windB (f.1.g j).2.2.2.1 (f.1.g j).2.2.2.2.1 <;> simp [cq75, cq89, h3]
  · unfold S38x0 Z38x0
    simp
theorem M38xe {x : (a38).den} (h : x.1.1.n ≤ 140737488355328) : M38 x = some (flightB x.1, ()) := by
  unfold M38 Q38 flightB headB
  rw [L38xe x.1 h]
  cases h1 : (List.range x.1.1.n).all (layerC x.1) with
  | false => simp
  | true =>
    simp only [cq68, cq75, cq90, p75xe, v75xe, p90xe, v90xe, p68xe, v68xe, cond_true]
    cases inB (x.1.1.n : Int) 1 4 with
    | false => simp
    | true =>
    cases speedB x.1.2.1 x.1.2.2.1 with
    | false => simp
    | true =>
    cases speedB x.1.2.2.2.1 x.1.2.2.2.2.1 with
    | false => simp
    | true =>
    cases spanB x.1.2.2.2.2.2.1 x.1.2.2.2.2.2.2.1 1 (x.1.1.n : Int) with
    | false => simp
    | true =>
    cases spanB x.1.2.2.2.2.2.2.2.1 x.1.2.2.2.2.2.2.2.2.1 (-100000) 100000 with
    | false => simp
    | true =>
    cases spanB x.1.2.2.2.2.2.2.2.2.2.1 x.1.2.2.2.2.2.2.2.2.2.2.1 (-100000) 100000 <;> simp
theorem windB_t {a b : Int} (h : windB a b = true) : -100 ≤ a ∧ a ≤ b ∧ b ≤ 100 := by
  simp only [windB, Bool.and_eq_true] at h
  exact spanB_t h.1
theorem speedB_t {a b : Int} (h : speedB a b = true) : 50 ≤ a ∧ a ≤ b ∧ b ≤ 1000 ∧ b - a ≤ 3 := by
  simp only [speedB, Bool.and_eq_true, decide_eq_true_eq] at h
  have h1 := spanB_t h.1
  have h2 := h.2
  rw [W_id ⟨by omega, by omega⟩] at h2
  exact ⟨h1.1, h1.2.1, h1.2.2, h2⟩
theorem flightB_t {f : flightT} (h : flightB f = true) : (∀ i, i < f.1.n → layerC f i = true) ∧ (1 ≤ f.1.n ∧ f.1.n ≤ 4) ∧
    (50 ≤ f.2.1 ∧ f.2.1 ≤ f.2.2.1 ∧ f.2.2.1 ≤ 1000 ∧ f.2.2.1 - f.2.1 ≤ 3) ∧ (50 ≤ f.2.2.2.1 ∧ f.2.2.2.1 ≤ f.2.2.2.2.1 ∧ f.2.2.2.2.1 ≤ 1000 ∧ f.2.2.2.2.1 - f.2.2.2.1 ≤ 3) ∧
    (1 ≤ f.2.2.2.2.2.1 ∧ f.2.2.2.2.2.1 ≤ f.2.2.2.2.2.2.1 ∧ f.2.2.2.2.2.2.1 ≤ (f.1.n : Int)) := by
  simp only [flightB, headB, Bool.and_eq_true] at h
  obtain ⟨h1, h2, h3, h4, h5, _⟩ := h
  have h2 := inB_t h2
  exact ⟨fun i hi => List.all_eq_true.1 h1 i (by simpa using hi), by omega, speedB_t h3, speedB_t h4, spanB_t h5⟩
end Go.Dm


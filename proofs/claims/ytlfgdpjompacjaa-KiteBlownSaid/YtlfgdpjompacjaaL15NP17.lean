/- The first truth that fits, by the rule. -/
import Derived.Test.YtlfgdpjompacjaaL15NP16
set_option linter.unusedVariables false
set_option linter.unusedSimpArgs false
namespace Go.Dm
set_option maxRecDepth 100000

def spT (f : flightT) (north : Bool) (j : Nat) : spanI := bif north then spN f j else spE f j
def spR (f : flightT) (north : Bool) : Sl spanI := tab s0I (spT f north) f.1.n
theorem spR_n (f : flightT) (north : Bool) : (spR f north).n = f.1.n := tab_n0' rfl where
  tab_n0' {s0 : Sl spanI} (h : s0.n = 0) {y : Nat → spanI} {j : Nat} : (tab s0 y j).n = j := by rw [tab_n, h, Nat.zero_add]
theorem spR_g (f : flightT) (north : Bool) {j : Nat} (h : j < f.1.n) : (spR f north).g j = spT f north j := tab_g0 (s0 := s0I) rfl h
theorem R94xe (f : flightT) (u d t : Int) (north : Bool) (h : f.1.n ≤ 8) : R94 (no_index (fly f u d t, (wayI north, ()))) = some (spR f north) := by
  cases north with
  | false =>
    have := L94xe (F := fun y1 => ((p116 (fly f u d t, y1)), (v116 (fly f u d t, y1)))) (sp := spE f) h fun j hj => by simp only [p116xe f u d t hj, v116xe f u d t hj]
    unfold s0I at this
    have e : (fly f u d t).1.n = f.1.n := rfl
    have e1 : ((0 : Int) < 2 ∧ (0 : Int) ≤ 0) := by omega
    have e2 : Int.toNat 0 * 1 < 2 := by decide
    unfold R94 X94
    simp only [wayI, e, e1, e2, decide_true, cond_true, cond_false]
    simp only [show Int.toNat 0 * 1 = 0 from rfl, List.getD_cons_zero]
    simp only [this, xe94x0e0, cond_true]
    rfl
  | true =>
    have := L94xe (F := fun y1 => ((p117 (fly f u d t, y1)), (v117 (fly f u d t, y1)))) (sp := spN f) h fun j hj => by simp only [p117xe f u d t hj, v117xe f u d t hj]
    unfold s0I at this
    have e : (fly f u d t).1.n = f.1.n := rfl
    have e1 : ((1 : Int) < 2 ∧ (0 : Int) ≤ 1) := by omega
    have e2 : Int.toNat 1 * 1 < 2 := by decide
    unfold R94 X94
    simp only [wayI, e, e1, e2, decide_true, cond_true, cond_false]
    simp only [show Int.toNat 1 * 1 = 1 from rfl, List.getD_cons_succ, List.getD_cons_zero]
    simp only [this, xe94x0e0, cond_true]
    rfl

/-- A trip's speeds and top, and its winds. -/
abbrev tripT : Type := (Int × Int × Int) × List Int × List Int
def minB (f : flightT) (x : Int × Int × Int) : Bool := inB (flown f x.1 x.2.1 x.2.2) f.2.2.2.2.2.2.2.2.2.2.2.1 f.2.2.2.2.2.2.2.2.2.2.2.2.1
/-- The first winds of a trip, in both directions. -/
def tryT (f : flightT) (se sn : Nat → spanI) (x : Int × Int × Int) : Option tripT :=
  bif minB f x then match goD f x.1 x.2.1 x.2.2 false se with
    | some a => match goD f x.1 x.2.1 x.2.2 true sn with
      | some b => some (x, (a, b))
      | none => none
    | none => none
  else none
def IsTruth (V : truthT) (r : tripT) : Prop := V.1 = r.1.1 ∧ V.2.1 = r.1.2.1 ∧ V.2.2.1 = r.1.2.2 ∧ IsRow V.2.2.2.1 r.2.1 ∧ IsRow V.2.2.2.2.1 r.2.2
/-- The spans of a direction, when a layer's wind there is to lie in another one. -/
def wishR (f : flightT) (north : Bool) (w : Int × Int × Int × Int × Unit) : Sl spanI := bif decide (wayI north = w.2.1) then setSl (spR f north) (Int.toNat w.1) w.2.2 else spR f north
def wishOK (f : flightT) (w : Int × Int × Int × Int × Unit) : Prop := (0 ≤ w.1 ∧ w.1 < (f.1.n : Int)) ∧ -100 ≤ w.2.2.1 ∧ w.2.2.2.1 ≤ 100
theorem wish_sp {f : flightT} (hf : flightB f = true) {w : Int × Int × Int × Int × Unit} (hw : wishOK f w) (north : Bool) : spOK f (wishR f north w) := by
  have key : ∀ j, j < f.1.n → -100 ≤ ((spR f north).g j).1 ∧ ((spR f north).g j).2.1 ≤ 100 := fun j hj => by
    have := wind_bd hf hj
    rw [spR_g f north hj]
    unfold spT
    cases north
    · simp only [cond_false]; omega
    · simp only [cond_true]; omega
  unfold wishR
  cases decide (wayI north = w.2.1) with
  | false => exact ⟨spR_n f north, fun j hj => key j (by rw [← spR_n f north]; exact hj)⟩
  | true =>
    refine ⟨spR_n f north, fun j hj => ?_⟩
    rw [cond_true, setSl_g]
    cases Nat.beq j (Int.toNat w.1) with
    | true => exact hw.2
    | false => exact key j (by rw [← spR_n f north]; exact hj)
theorem blt0 {n : Nat} (h : 0 < n) : Nat.blt 0 n = true := by rw [Nat.blt_eq]; exact h
/-- What one trip comes to. -/
def TryOK (f : flightT) (se sn : Nat → spanI) (x : Int × Int × Int) (o : GO r109 (objPats ps109)) : Prop :=
  (tryT f se sn x = none ∧ o = .ok () ()) ∨ ∃ (V : truthT) (r : tripT), tryT f se sn x = some r ∧ IsTruth V r ∧ o = .pan 152 T71 V ()
theorem U109xe {f : flightT} (hf : flightB f = true) {u d t : Int} (hu : 50 ≤ u ∧ u ≤ 1000) (hd : 50 ≤ d ∧ d ≤ 1000) {w : Int × Int × Int × Int × Unit} (hw : wishOK f w) :
    TryOK f (wishR f false w).g (wishR f true w).g (u, d, t) (U109 (no_index (fly f u d t, (w, ())))) := by
  have hn4 := (flightB_t hf).2.1
  have e96 : M96 (no_index (fly f u d t, ())) = some (flown f u d t, ()) := M96xe f (by omega) (by omega) (by omega)
  have e73 : M73 (no_index (flown f u d t, ((f.2.2.2.2.2.2.2.2.2.2.2.1, (f.2.2.2.2.2.2.2.2.2.2.2.2.1, ())), ()))) = some (minB f (u, d, t), ()) := M73xe _
  have r0 : R94 (no_index (fly f u d t, ((0 : Int), ()))) = some (spR f false) := R94xe f u d t false (by omega)
  have r1 : R94 (no_index (fly f u d t, ((1 : Int), ()))) = some (spR f true) := R94xe f u d t true (by omega)
  have b0 : Nat.blt 0 (spR f false).n = true := blt0 (by rw [spR_n]; omega)
  have b1 : Nat.blt 0 (spR f true).n = true := blt0 (by rw [spR_n]; omega)
  have i0 : ((0 : Int) ≤ w.1) ∧ w.1 < (((spR f false).n : Nat) : Int) := by rw [spR_n]; exact hw.1
  have i1 : ((0 : Int) ≤ w.1) ∧ w.1 < (((spR f true).n : Nat) : Int) := by rw [spR_n]; exact hw.1
  obtain ⟨V0, m0, h0⟩ := M122xe hf (t := t) hu hd false (wish_sp hf hw false)
  obtain ⟨V1, m1, h1⟩ := M122xe hf (t := t) hu hd true (wish_sp hf hw true)
  have m0 : M122 (no_index (fly f u d t, ((0 : Int), (wishR f false w, ())))) = some (V0, ((goD f u d t false (wishR f false w).g).isSome, ())) := m0
  have m1 : M122 (no_index (fly f u d t, ((1 : Int), (wishR f true w, ())))) = some (V1, ((goD f u d t true (wishR f true w).g).isSome, ())) := m1
  have st : U109 (no_index (fly f u d t, (w, ()))) = bif minB f (u, d, t) then bif (goD f u d t false (wishR f false w).g).isSome then bif (goD f u d t true (wishR f true w).g).isSome then .pan 152 T71 (u, (d, (t, (V0, (V1, ()))))) () else .ok () () else .ok () () else .ok () () := by
    have x1 : (fly f u d t).2.2.2.2.2.2.2.2.2.2.2.1 = f.2.2.2.2.2.2.2.2.2.2.2.1 := rfl
    have x2 : (fly f u d t).2.2.2.2.2.2.2.2.2.2.2.2.1 = f.2.2.2.2.2.2.2.2.2.2.2.2.1 := rfl
    unfold U109 Q109
    simp only [e96, cl_some, x1, x2, e73]
    cases minB f (u, d, t) with
    | false => rfl
    | true =>
      simp only [r0, r1, b0, b1, i0, i1, cl_some, Bool.not_true, cond_false, cond_true, and_self, decide_true]
      by_cases q0 : (0 : Int) = w.2.1
      · have q1 : ¬ (1 : Int) = w.2.1 := by omega
        have w0 : wishR f false w = setSl (spR f false) (Int.toNat w.1) w.2.2 := by unfold wishR; rw [show wayI false = 0 from rfl, decide_eq_true q0]; rfl
        have w1 : wishR f true w = spR f true := by unfold wishR; rw [show wayI true = 1 from rfl, decide_eq_false q1]; rfl
        rw [w0] at m0 ⊢
        rw [w1] at m1 ⊢
        simp only [q0, q1, decide_true, decide_false, cond_true, cond_false]
        rw [← q0]
        simp only [m0, m1, cl_some]
        cases (goD f u d t false (setSl (spR f false) (Int.toNat w.1) w.2.2).g).isSome with
        | false => rfl
        | true => cases (goD f u d t true (spR f true).g).isSome <;> rfl
      · by_cases q1 : (1 : Int) = w.2.1
        · have w0 : wishR f false w = spR f false := by unfold wishR; rw [show wayI false = 0 from rfl, decide_eq_false q0]; rfl
          have w1 : wishR f true w = setSl (spR f true) (Int.toNat w.1) w.2.2 := by unfold wishR; rw [show wayI true = 1 from rfl, decide_eq_true q1]; rfl
          rw [w0] at m0 ⊢
          rw [w1] at m1 ⊢
          simp only [q0, q1, decide_true, decide_false, cond_true, cond_false, m0, cl_some]
          cases (goD f u d t false (spR f false).g).isSome with
          | false => rfl
          | true =>
            rw [← q1]
            simp only [m1, cl_some, Bool.not_true, cond_false]
            cases (goD f u d t true (setSl (spR f true) (Int.toNat w.1) w.2.2).g).isSome <;> rfl
        · have w0 : wishR f false w = spR f false := by unfold wishR; rw [show wayI false = 0 from rfl, decide_eq_false q0]; rfl
          have w1 : wishR f true w = spR f true := by unfold wishR; rw [show wayI true = 1 from rfl, decide_eq_false q1]; rfl
          rw [w0] at m0 ⊢
          rw [w1] at m1 ⊢
          simp only [q0, q1, decide_false, cond_false, m0, m1, cl_some]
          cases (goD f u d t false (spR f false).g).isSome with
          | false => rfl
          | true => cases (goD f u d t true (spR f true).g).isSome <;> rfl
  unfold TryOK tryT
  rw [st]
  cases minB f (u, d, t) with
  | false => exact .inl ⟨rfl, rfl⟩
  | true =>
    cases g0 : goD f u d t false (wishR f false w).g with
    | none => exact .inl ⟨rfl, rfl⟩
    | some a =>
      cases g1 : goD f u d t true (wishR f true w).g with
      | none => exact .inl ⟨rfl, rfl⟩
      | some b => exact .inr ⟨_, _, rfl, ⟨rfl, rfl, rfl, h0 a g0, h1 b g1⟩, rfl⟩
end Go.Dm


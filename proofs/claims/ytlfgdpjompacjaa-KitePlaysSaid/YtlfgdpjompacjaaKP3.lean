/- Heights of marks. -/
import Derived.Test.YtlfgdpjompacjaaKP2
set_option linter.unusedVariables false
set_option linter.unusedSimpArgs false
namespace Go.Dm
set_option maxRecDepth 100000

abbrev rowI : Type := Sl (Int × Unit)
def rise (t : traceT) (u : rowI) (j : Nat) : Int := W (Int.tdiv (W ((W ((W ((W ((5464 : Int) + (u.g j).1)) + (u.g (j + 1)).1)) * (W ((t.2.2.1.g j).1 - (t.2.2.1.g (j + 1)).1)))) * (2927 : Int))) (W ((1000 : Int) * (W ((t.2.2.1.g j).1 + (t.2.2.1.g (j + 1)).1)))))
def hs (t : traceT) (b : Int) (u : rowI) : Nat → Int
  | 0 => b
  | j + 1 => W (hs t b u j + rise t u j)
def out0 (b : Int) : rowI := ⟨1, fun i => List.getD [(b, ())] i (b, ())⟩
def hrow (t : traceT) (b : Int) (u : rowI) (j : Nat) : rowI := tab (out0 b) (fun i => (hs t b u (i + 1), ())) j
theorem hrow_n (t : traceT) (b : Int) (u : rowI) (j : Nat) : (hrow t b u j).n = j + 1 := by unfold hrow; rw [tab_n]; show 1 + j = j + 1; omega
theorem hrow_g (t : traceT) (b : Int) (u : rowI) {i j : Nat} (h : i ≤ j) : (hrow t b u j).g i = (hs t b u i, ()) := by
  unfold hrow
  cases i with
  | zero => rw [tab_old (by show 0 < 1; omega)]; rfl
  | succ i =>
    have := tab_g (s0 := out0 b) (y := fun i => (hs t b u (i + 1), ())) (i := i) (j := j) (by omega)
    rw [show (out0 b).n + i = i + 1 by show 1 + i = i + 1; omega] at this
    exact this

theorem press_ne {t : traceT} (h : traceB t = true) {i : Nat} (hi : i + 1 < t.2.2.1.n) : W ((1000 : Int) * (W ((t.2.2.1.g i).1 + (t.2.2.1.g (i + 1)).1))) ≠ 0 := by
  obtain ⟨h1, _, _⟩ := traceB_t h
  have a := mark_bd h1 i (by omega)
  have b := mark_bd h1 (i + 1) hi
  rw [W_id (n := (t.2.2.1.g i).1 + (t.2.2.1.g (i + 1)).1) ⟨by omega, by omega⟩, W_id ⟨by omega, by omega⟩]
  omega

theorem L74xe {t : traceT} (b : Int) {u : rowI} (h : traceB t = true) (hu : u.n = t.2.2.1.n) :
    L74x0 (u, ((), (t, ()))) (b, (out0 b, ((1 : Int), ()))) = .exit 0 (hrow t b u (t.2.2.1.n - 1), ()) := by
  obtain ⟨h1, _, h2, h3⟩ := traceB_t h
  unfold L74x0
  refine iterQ_steps (ps := vs74x0) (t.2.2.1.n - 1) big (fun j => (hs t b u j, (hrow t b u j, ((j + 1 : Nat) : Int), ()))) (by unfold big; omega) (fun j hj => ?_) ?_
  · have e1 : (((j + 1 : Nat) : Int) < ((t.2.2.1.n : Nat) : Int)) := by omega
    have e2 : W (((j + 1 : Nat) : Int) - 1) = (j : Int) := by rw [W_id ⟨by omega, by omega⟩]; omega
    have e3 : W (((j + 1 : Nat) : Int) + 1) = ((j + 1 + 1 : Nat) : Int) := by rw [W_id ⟨by omega, by omega⟩]; rfl
    have e4 : ((j : Int) < ((t.2.2.1.n : Nat) : Int)) := by omega
    have e5 := press_ne h (i := j) (by omega)
    have e6 : (hrow t b u j).n + 1 ≤ 17 := by rw [hrow_n]; omega
    have e7 : ((hrow t b u j).n + 1) * 8 ≤ 140737488355328 := by omega
    unfold S74x0 Z74x0
    simp only [hu, e1, e2, e3, e4, e5, e7, decide_true, decide_false, cond_true, cond_false, Int.toNat_natCast, Int.natCast_nonneg, and_self]
    rfl
  · have e1 : ¬ (((t.2.2.1.n - 1 + 1 : Nat) : Int) < ((t.2.2.1.n : Nat) : Int)) := by omega
    unfold S74x0 Z74x0
    simp only [e1, decide_false, cond_false]
theorem M74xe {x : (a74).den} (h : traceB x.1 = true) (hu : x.2.2.1.n = x.1.2.2.1.n) : M74 x = some (hrow x.1 x.2.1 x.2.2.1 (x.1.2.2.1.n - 1), ()) := by
  unfold M74 Q74
  have := L74xe (t := x.1) x.2.1 (u := x.2.2.1) h hu
  unfold out0 at this
  rw [this]
  simp
theorem p74xe {x : (a74).den} (h : traceB x.1 = true) (hu : x.2.2.1.n = x.1.2.2.1.n) : p74 x = true := by simp [p74, M74xe h hu]
theorem v74xe {x : (a74).den} (h : traceB x.1 = true) (hu : x.2.2.1.n = x.1.2.2.1.n) : v74 x = (hrow x.1 x.2.1 x.2.2.1 (x.1.2.2.1.n - 1), ()) := by simp [v74, M74xe h hu]

theorem L26xe {t : traceT} (b : Int) {u : rowI} (h : traceB t = true) (hu : u.n = t.2.2.1.n) :
    L26x0 (u, ((), (t, ()))) (out0 b, ((1 : Int), ())) = .exit 0 (hrow t b u (t.2.2.1.n - 1), ()) := by
  obtain ⟨h1, _, h2, h3⟩ := traceB_t h
  unfold L26x0
  refine iterQ_steps (ps := vs26x0) (t.2.2.1.n - 1) big (fun j => (hrow t b u j, ((j + 1 : Nat) : Int), ())) (by unfold big; omega) (fun j hj => ?_) ?_
  · have e1 : (((j + 1 : Nat) : Int) < ((t.2.2.1.n : Nat) : Int)) := by omega
    have e2 : W (((j + 1 : Nat) : Int) - 1) = (j : Int) := by rw [W_id ⟨by omega, by omega⟩]; omega
    have e3 : W (((j + 1 : Nat) : Int) + 1) = ((j + 1 + 1 : Nat) : Int) := by rw [W_id ⟨by omega, by omega⟩]; rfl
    have e4 : ((j : Int) < ((t.2.2.1.n : Nat) : Int)) := by omega
    have e5 := press_ne h (i := j) (by omega)
    have e6 : (hrow t b u j).n + 1 ≤ 17 := by rw [hrow_n]; omega
    have e7 : ((hrow t b u j).n + 1) * 8 ≤ 140737488355328 := by omega
    have e8 : (j : Int) < (((hrow t b u j).n : Nat) : Int) := by rw [hrow_n]; omega
    have e9 := hrow_g t b u (Nat.le_refl j)
    unfold S26x0 Z26x0
    simp only [hu, e1, e2, e3, e4, e5, e7, e8, e9, decide_true, decide_false, cond_true, cond_false, Int.toNat_natCast, Int.natCast_nonneg, and_self]
    rfl
  · have e1 : ¬ (((t.2.2.1.n - 1 + 1 : Nat) : Int) < ((t.2.2.1.n : Nat) : Int)) := by omega
    unfold S26x0 Z26x0
    simp only [e1, decide_false, cond_false]
theorem M26xe {x : (a26).den} (h : traceB x.1 = true) (hu : x.2.2.1.n = x.1.2.2.1.n) : M26 x = some (hrow x.1 x.2.1 x.2.2.1 (x.1.2.2.1.n - 1), ()) := by
  unfold M26 Q26
  have := L26xe (t := x.1) x.2.1 (u := x.2.2.1) h hu
  unfold out0 at this
  rw [this]
  simp
theorem p26xe {x : (a26).den} (h : traceB x.1 = true) (hu : x.2.2.1.n = x.1.2.2.1.n) : p26 x = true := by simp [p26, M26xe h hu]
theorem v26xe {x : (a26).den} (h : traceB x.1 = true) (hu : x.2.2.1.n = x.1.2.2.1.n) : v26 x = (hrow x.1 x.2.1 x.2.2.1 (x.1.2.2.1.n - 1), ()) := by simp [v26, M26xe h hu]

/-! truths of a trace -/
def tempC (t : traceT) (u : rowI) (j : Nat) : Bool := inB (u.g j).1 (t.2.2.1.g j).2.1 (t.2.2.1.g j).2.2.1
def markedB (t : traceT) (b : Int) (u : rowI) : Bool := decide (u.n = t.2.2.1.n) && ((List.range u.n).all (tempC t u) && inB b t.1 t.2.1)

theorem L24xe {t : traceT} {b : Int} {u : rowI} (hu : u.n = t.2.2.1.n) (h : u.n ≤ 140737488355328) :
    L24x0 (b, (u, ((), (t, ())))) ((0 : Int), ()) = bif (List.range u.n).all (tempC t u) then .exit 0 () else .ret (false, ()) := by
  unfold L24x0
  refine iterQ_all (ps := vs24x0) (f := fun j => ((j : Int), ())) (big_lt h) (fun j hj hc => ?_) fun _ => ?_
  · have e1 : ((j : Int) < ((u.n : Nat) : Int)) := by omega
    have e2 : ((j : Int) < ((t.2.2.1.n : Nat) : Int)) := by omega
    have e3 : W ((j : Int) + 1) = ((j + 1 : Nat) : Int) := by rw [W_id ⟨by omega, by omega⟩]; rfl
    unfold S24x0 Z24x0
    simp only [p75xe, v75xe, e1, e2, e3, decide_true, cond_true, Int.toNat_natCast, Int.natCast_nonneg, and_self]
    unfold tempC
    cases inB (u.g j).1 (t.2.2.1.g j).2.1 (t.2.2.1.g j).2.2.1 <;> simp
  · unfold S24x0 Z24x0
    simp
theorem M24xe {x : (a24).den} (h : x.2.2.1.n ≤ 140737488355328) : M24 x = some (markedB x.1 x.2.1 x.2.2.1, ()) := by
  unfold M24 Q24 markedB
  by_cases hu : x.2.2.1.n = x.1.2.2.1.n
  · have e : (((x.2.2.1.n : Nat) : Int) = ((x.1.2.2.1.n : Nat) : Int)) := by omega
    rw [L24xe hu h]
    simp only [e, hu, decide_true, Bool.not_true, cond_false, Bool.true_and]
    cases h1 : (List.range x.1.2.2.1.n).all (tempC x.1 x.2.2.1) with
    | false => simp
    | true => simp [p75xe, v75xe]
  · have e : ¬ (((x.2.2.1.n : Nat) : Int) = ((x.1.2.2.1.n : Nat) : Int)) := by omega
    simp [e, hu]
theorem p24xe {x : (a24).den} (h : x.2.2.1.n ≤ 140737488355328) : p24 x = true := by simp [p24, M24xe h]
theorem v24xe {x : (a24).den} (h : x.2.2.1.n ≤ 140737488355328) : v24 x = (markedB x.1 x.2.1 x.2.2.1, ()) := by simp [v24, M24xe h]

theorem L22xe {t : traceT} {b : Int} {u : rowI} (hu : u.n = t.2.2.1.n) (h : u.n ≤ 140737488355328) :
    L22x0 (b, (u, ((), (u, (((u.n : Nat) : Int), (t, ())))))) ((0 : Int), ()) = bif (List.range u.n).all (tempC t u) then .exit 0 () else .ret (⟨0, fun _ => ((0 : Int), ())⟩, ((2 : Int), ())) := by
  unfold L22x0
  refine iterQ_all (ps := vs22x0) (f := fun j => ((j : Int), ())) (big_lt h) (fun j hj hc => ?_) fun _ => ?_
  · have e1 : ((j : Int) < ((u.n : Nat) : Int)) := by omega
    have e2 : ((j : Int) < ((t.2.2.1.n : Nat) : Int)) := by omega
    have e3 : W ((j : Int) + 1) = ((j + 1 : Nat) : Int) := by rw [W_id ⟨by omega, by omega⟩]; rfl
    unfold S22x0 Z22x0
    simp only [p73xe, v73xe, e1, e2, e3, decide_true, cond_true, Int.toNat_natCast, Int.natCast_nonneg, and_self]
    unfold tempC
    cases inB (u.g j).1 (t.2.2.1.g j).2.1 (t.2.2.1.g j).2.2.1 <;> simp
  · unfold S22x0 Z22x0
    simp
theorem M22xe {x : (a22).den} (h0 : x.1.2.2.1.n ≤ 140737488355328) (h : x.2.2.1.n ≤ 140737488355328) :
    M22 x = some (bif traceB x.1 && markedB x.1 x.2.1 x.2.2.1 then (hrow x.1 x.2.1 x.2.2.1 (x.1.2.2.1.n - 1), ((0 : Int), ())) else (⟨0, fun _ => ((0 : Int), ())⟩, (2, ()))) := by
  unfold M22 Q22 markedB
  have e0 : p72 (x.1, ()) = true := p72xe h0
  have e1 : v72 (x.1, ()) = (traceB x.1, ()) := v72xe h0
  simp only [e0, e1, p73xe, v73xe, cond_true]
  cases ht : traceB x.1 with
  | false => simp
  | true =>
    simp only [Bool.not_true, cond_false, Bool.true_and]
    cases hb : inB x.2.1 x.1.1 x.1.2.1 with
    | false => simp
    | true =>
      simp only [Bool.not_true, cond_false]
      by_cases hu : x.2.2.1.n = x.1.2.2.1.n
      · have e : (((x.2.2.1.n : Nat) : Int) = ((x.1.2.2.1.n : Nat) : Int)) := by omega
        rw [L22xe hu h]
        simp only [e, hu, decide_true, Bool.not_true, cond_false, Bool.true_and]
        cases h1 : (List.range x.1.2.2.1.n).all (tempC x.1 x.2.2.1) with
        | false => simp
        | true =>
          have q1 : p74 (x.1, x.2) = true := p74xe ht hu
          have q2 : v74 (x.1, x.2) = _ := v74xe ht hu
          simp [q1, q2]
      · have e : ¬ (((x.2.2.1.n : Nat) : Int) = ((x.1.2.2.1.n : Nat) : Int)) := by omega
        simp [e, hu]

/-! lists that are equal -/
theorem M25xe {x : (a25).den} (h : x.1.n ≤ 140737488355328) : M25 x = some (decide (x.1.n = x.2.1.n) && (List.range x.1.n).all (fun j => decide ((x.1.g j).1 = (x.2.1.g j).1)), ()) := by
  unfold M25 Q25
  by_cases hu : x.1.n = x.2.1.n
  · have e : (((x.1.n : Nat) : Int) = ((x.2.1.n : Nat) : Int)) := by omega
    have hl : L25x0 (x.1, (x.2.1, ())) ((0 : Int), ()) = bif (List.range x.1.n).all (fun j => decide ((x.1.g j).1 = (x.2.1.g j).1)) then .exit 0 () else .ret (false, ()) := by
      unfold L25x0
      refine iterQ_all (ps := vs25x0) (f := fun j => ((j : Int), ())) (big_lt h) (fun j hj hc => ?_) fun _ => ?_
      · have e1 : ((j : Int) < ((x.1.n : Nat) : Int)) := by omega
        have e2 : ((j : Int) < ((x.2.1.n : Nat) : Int)) := by omega
        have e3 : W ((j : Int) + 1) = ((j + 1 : Nat) : Int) := by rw [W_id ⟨by omega, by omega⟩]; rfl
        unfold S25x0 Z25x0
        simp only [e1, e2, e3, decide_true, cond_true, Int.toNat_natCast, Int.natCast_nonneg, and_self]
        by_cases hh : (x.1.g j).1 = (x.2.1.g j).1 <;> simp [hh]
      · unfold S25x0 Z25x0
        simp
    rw [hl]
    simp only [e, hu, decide_true, Bool.not_true, cond_false, Bool.true_and]
    cases (List.range x.2.1.n).all fun j => decide ((x.1.g j).1 = (x.2.1.g j).1) <;> simp
  · have e : ¬ (((x.1.n : Nat) : Int) = ((x.2.1.n : Nat) : Int)) := by omega
    simp [e, hu]
theorem same_self (a : rowI) (h : a.n ≤ 140737488355328) : p25 (a, (a, ())) = true ∧ v25 (a, (a, ())) = (true, ()) := by
  have : M25 (a, (a, ())) = some (true, ()) := by rw [M25xe h]; simp
  simp [p25, v25, this]

theorem M21xe (x : (a21).den) : M21 x = some (decide (((x.1.2.2.1.n : Nat) : Int) ≤ 11), ()) := by
  unfold M21 Q21
  simp
theorem p21xe (x : (a21).den) : p21 x = true := by simp [p21, M21xe]
theorem v21xe (x : (a21).den) : v21 x = (decide (((x.1.2.2.1.n : Nat) : Int) ≤ 11), ()) := by simp [v21, M21xe]

/-- KiteRises. -/
theorem law4 (x : (a4).den) : M4 x = some (true, ()) := by
  unfold M4 Q4
  simp only [p21xe, v21xe, known_p, known_v, cond_true]
  by_cases h0 : ((x.1.2.2.1.n : Nat) : Int) ≤ 11
  · by_cases h1 : (11 : Int) < ((x.2.2.1.n : Nat) : Int)
    · simp [h0, h1]
    · have b0 : x.1.2.2.1.n ≤ 140737488355328 := by omega
      have b1 : x.2.2.1.n ≤ 140737488355328 := by omega
      have m := M22xe (x := (x.1, x.2)) b0 b1
      have q1 : p22 (x.1, x.2) = true := by simp [p22, m]
      have q2 : p23 (x.1, ()) = true := p23xe b0
      have q3 : v23 (x.1, ()) = (traceB x.1, ()) := v23xe b0
      have q4 : p24 (x.1, x.2) = true := p24xe b1
      have q5 : v24 (x.1, x.2) = (markedB x.1 x.2.1 x.2.2.1, ()) := v24xe b1
      simp only [h0, h1, q1, q2, q3, q4, q5, decide_true, decide_false, Bool.not_true, cond_true, cond_false]
      cases ht : traceB x.1 with
      | false =>
        have q6 : v22 (x.1, x.2) = (⟨0, fun _ => ((0 : Int), ())⟩, (2, ())) := by simp [v22, m, ht]
        simp [q6]
      | true =>
        cases hk : markedB x.1 x.2.1 x.2.2.1 with
        | false =>
          have q6 : v22 (x.1, x.2) = (⟨0, fun _ => ((0 : Int), ())⟩, (2, ())) := by simp [v22, m, ht, hk]
          simp [q6]
        | true =>
          have hu : x.2.2.1.n = x.1.2.2.1.n := by
            simp only [markedB, Bool.and_eq_true, decide_eq_true_eq] at hk
            exact hk.1
          have q6 : v22 (x.1, x.2) = (hrow x.1 x.2.1 x.2.2.1 (x.1.2.2.1.n - 1), ((0 : Int), ())) := by simp [v22, m, ht, hk]
          have q7 : p26 (x.1, x.2) = true := p26xe ht hu
          have q8 : v26 (x.1, x.2) = _ := v26xe ht hu
          obtain ⟨s1, s2⟩ := same_self (hrow x.1 x.2.1 x.2.2.1 (x.1.2.2.1.n - 1)) (by rw [hrow_n]; omega)
          simp only [q6, q7, q8, s1, s2, decide_true, Bool.not_true, cond_true, cond_false]
  · simp [h0]
end Go.Dm

/- Rounds of an inspector: which are as defined. -/
import Derived.Test.YtiapgkbnjpkagaaL8WP0
set_option linter.unusedVariables false
set_option linter.unusedSimpArgs false
namespace Go.Dm
set_option maxRecDepth 100000

abbrev rowI : Type := Sl (Int × Unit)
abbrev spanT : Type := Int × Int × Unit
abbrev wrT : Type := Int × Sl spanT × Sl (Sl spanT × Unit) × Unit

theorem M60xe (x lo hi : Int) : M60 (no_index (x, (lo, (hi, ())))) = some (inB x lo hi, ()) := by
  unfold M60 Q60 inB
  by_cases h1 : lo ≤ x <;> simp [h1]
theorem M63xe (x lo hi : Int) : M63 (no_index (x, (lo, (hi, ())))) = some (inB x lo hi, ()) := by
  unfold M63 Q63 inB
  by_cases h1 : lo ≤ x <;> simp [h1]
def spanC (s : spanT) : Bool := decide (0 ≤ s.1 ∧ s.1 ≤ s.2.1 ∧ s.2.1 ≤ 60)
theorem M98xe (s : spanT) : M98 (no_index (s, ())) = some (!spanC s, ()) := by
  unfold M98 Q98 spanC
  by_cases h1 : s.1 < 0
  · have h1' : ¬ (0 ≤ s.1) := by omega
    simp [h1, h1']
  · have h1' : 0 ≤ s.1 := by omega
    by_cases h2 : s.2.1 < s.1
    · have h2' : ¬ (s.1 ≤ s.2.1) := by omega
      simp [h1, h1', h2, h2']
    · have h2' : s.1 ≤ s.2.1 := by omega
      by_cases h3 : 60 < s.2.1
      · have h3' : ¬ (s.2.1 ≤ 60) := by omega
        simp [h1, h1', h2, h2', h3, h3']
      · have h3' : s.2.1 ≤ 60 := by omega
        simp [h1, h1', h2, h2', h3, h3']
theorem p98xe (s : spanT) : p98 (no_index (s, ())) = true := by unfold p98; rw [M98xe]; rfl
theorem v98xe (s : spanT) : v98 (no_index (s, ())) = (!spanC s, ()) := by unfold v98; rw [M98xe]; rfl
theorem M76xe (s : spanT) : M76 (no_index (s, ((60 : Int), ()))) = some (spanC s, ()) := by
  unfold M76 Q76 spanC
  by_cases h1 : 0 ≤ s.1 <;> by_cases h2 : s.1 ≤ s.2.1 <;> simp [h1, h2]

/-- The first of a row for which something holds. -/
def fstI (c : Nat → Bool) (n : Nat) : Int := match fstN c n with
  | some k => k
  | none => -1
theorem fstI_dec (c : Nat → Bool) (n : Nat) : decide ((0 : Int) ≤ fstI c n) = (List.range n).any c := by
  unfold fstI
  cases h : fstN c n with
  | none =>
    have : (List.range n).any c = false := by
      rw [List.any_eq_false]
      intro j hj
      simp [fstN_none h j (by simpa using hj)]
    simp [this]
  | some k =>
    obtain ⟨k1, k2, _⟩ := fstN_some h
    have : (List.range n).any c = true := List.any_eq_true.2 ⟨k, by simpa using k1, k2⟩
    simp [this]
theorem M104xe {s : Sl spanT} {F : (Ty.den T1) × Unit → Bool × (Ty.den T3)} {c : spanT → Bool} (hF : ∀ y, F (y, ()) = (true, (c y, ()))) (h : s.n ≤ 140737488355328) :
    M104 (s, (F, ())) = some (fstI (fun j => c (s.g j)) s.n, ()) := by
  have : L104x0 (no_index (s, (F, (((s.n : Nat) : Int), ())))) (no_index ((0 : Int), ())) = match fstN (fun j => c (s.g j)) s.n with | some k => .ret ((k : Int), ()) | none => .exit 0 () := by
    unfold L104x0
    refine iterQ_find (ps := vs104x0) (f := fun j => ((j : Int), ())) (big_lt h) (fun j hj _ => ?_) fun _ => ?_
    · unfold S104x0 Z104x0
      simp only [lt_ok hj, idx_ok hj, W_nat hj h, hF, decide_true, cond_true, and_self, Int.toNat_natCast]
    · unfold S104x0 Z104x0
      simp
  unfold M104 Q104 fstI
  simp only [this]
  cases fstN (fun j => c (s.g j)) s.n <;> simp
theorem M97xe {s : Sl spanT} {F : (Ty.den T1) × Unit → Bool × (Ty.den T3)} {c : spanT → Bool} (hF : ∀ y, F (y, ()) = (true, (c y, ()))) (h : s.n ≤ 140737488355328) :
    M97 (s, (F, ())) = some ((List.range s.n).any (fun j => c (s.g j)), ()) := by
  unfold M97 Q97
  rw [M104xe hF h]
  simp only [cl_some, fstI_dec]

def staC (r : wrT) (j : Nat) : Bool := inB (r.2.1.g j).1 0 10 && inB (r.2.1.g j).2.1 0 400
def rowC (r : wrT) (j : Nat) : Bool := decide ((r.2.2.1.g j).1.n = r.2.2.1.n) && (List.range (r.2.2.1.g j).1.n).all fun k => spanC ((r.2.2.1.g j).1.g k)
def roundB (r : wrT) : Bool := inB r.1 0 400 && (inB (r.2.1.n : Int) 1 6 && (decide (r.2.2.1.n = r.2.1.n + 1) && ((List.range r.2.1.n).all (staC r) && (List.range r.2.2.1.n).all (rowC r))))
/-- No list is long. -/
def smallR (r : wrT) : Prop := r.2.1.n ≤ 9 ∧ r.2.2.1.n ≤ 10 ∧ ∀ j, j < r.2.2.1.n → (r.2.2.1.g j).1.n ≤ 10

theorem not_any {c : Nat → Bool} (n : Nat) : (List.range n).any (fun j => !c j) = !(List.range n).all c := by
  rw [List.any_eq_not_all_not]; simp
theorem M97xsp (s : Sl spanT) (h : s.n ≤ 140737488355328) (F : (Ty.den T1) × Unit → Bool × (Ty.den T3)) (hF : F = fun y => (p98 y, v98 y)) : M97 (no_index (s, (F, ()))) = some (!(List.range s.n).all (fun k => spanC (s.g k)), ()) := by
  rw [M97xe (c := fun y => !spanC y) (fun y => by rw [hF]; simp only [p98xe, v98xe]) h, not_any]
theorem L77x0_e (r : wrT) (h : r.2.1.n ≤ 140737488355328) : L77x0 (no_index ((), (r.2.1, (((r.2.1.n : Nat) : Int), (r, ()))))) (no_index ((0 : Int), ())) = bif (List.range r.2.1.n).all (staC r) then .exit 0 () else .ret (false, ()) := by
  unfold L77x0
  refine iterQ_all (ps := vs77x0) (f := fun j => ((j : Int), ())) (big_lt h) (fun j hj _ => ?_) fun _ => ?_
  · unfold S77x0 Z77x0 staC
    simp only [lt_ok hj, idx_ok hj, W_nat hj h, decide_true, cond_true, and_self, Int.toNat_natCast, M60xe, cl_some]
    cases inB (r.2.1.g j).1 0 10 <;> cases inB (r.2.1.g j).2.1 0 400 <;> rfl
  · unfold S77x0 Z77x0
    simp
theorem L77x1_e (r : wrT) (h : r.2.2.1.n ≤ 140737488355328) (h' : ∀ j, j < r.2.2.1.n → (r.2.2.1.g j).1.n ≤ 140737488355328) : L77x1 (no_index ((), (r.2.2.1, (((r.2.2.1.n : Nat) : Int), (r, ()))))) (no_index ((0 : Int), ())) = bif (List.range r.2.2.1.n).all (rowC r) then .exit 2 () else .ret (false, ()) := by
  unfold L77x1
  refine iterQ_all (ps := vs77x1) (f := fun j => ((j : Int), ())) (big_lt h) (fun j hj _ => ?_) fun _ => ?_
  · unfold S77x1 Z77x1 rowC
    simp only [lt_ok hj, idx_ok hj, W_nat hj h, decide_true, cond_true, and_self, Int.toNat_natCast, M97xsp (r.2.2.1.g j).1 (h' j hj) _ rfl, cl_some, v97, Option.getD_some, Int.natCast_inj]
    cases decide ((r.2.2.1.g j).1.n = r.2.2.1.n) <;> cases (List.range (r.2.2.1.g j).1.n).all (fun k => spanC ((r.2.2.1.g j).1.g k)) <;> rfl
  · unfold S77x1 Z77x1
    simp
theorem M77xe {r : wrT} (h : smallR r) : M77 (no_index (r, ())) = some (roundB r, ()) := by
  obtain ⟨h1, h2, h3⟩ := h
  unfold M77 Q77 roundB
  simp only [M60xe, cl_some, L77x0_e r (by omega), L77x1_e r (by omega) (fun j hj => by have := h3 j hj; omega)]
  have hw : W (((r.2.1.n : Nat) : Int) + 1) = ((r.2.1.n + 1 : Nat) : Int) := by rw [W_id ⟨by omega, by omega⟩]; rfl
  rw [hw]
  simp only [Int.natCast_inj]
  cases inB r.1 0 400 with
  | false => rfl
  | true =>
  cases inB (r.2.1.n : Int) 1 6 with
  | false => rfl
  | true =>
  cases decide (r.2.2.1.n = r.2.1.n + 1) with
  | false => rfl
  | true =>
  cases (List.range r.2.1.n).all (staC r) <;> cases (List.range r.2.2.1.n).all (rowC r) <;> rfl

theorem L39x0_e (r : wrT) (h : r.2.1.n ≤ 140737488355328) : L39x0 (no_index ((), (r, ()))) (no_index ((0 : Int), ())) = bif (List.range r.2.1.n).all (staC r) then .exit 0 () else .ret (false, ()) := by
  unfold L39x0
  refine iterQ_all (ps := vs39x0) (f := fun j => ((j : Int), ())) (big_lt h) (fun j hj _ => ?_) fun _ => ?_
  · unfold S39x0 Z39x0 staC
    simp only [lt_ok hj, idx_ok hj, W_nat hj h, decide_true, cond_true, and_self, Int.toNat_natCast, M63xe, cl_some]
    cases inB (r.2.1.g j).1 0 10 <;> cases inB (r.2.1.g j).2.1 0 400 <;> rfl
  · unfold S39x0 Z39x0
    simp
theorem L39x1_0_e (r : wrT) {j : Nat} (hj : j < r.2.2.1.n) (h : (r.2.2.1.g j).1.n ≤ 140737488355328) : L39x1x0 (no_index ((), ((j : Int), (r, ())))) (no_index ((0 : Int), ())) = bif (List.range (r.2.2.1.g j).1.n).all (fun k => spanC ((r.2.2.1.g j).1.g k)) then .exit 4 () else .ret (false, ()) := by
  unfold L39x1x0
  refine iterQ_all (ps := vs39x1x0) (f := fun k => ((k : Int), ())) (big_lt h) (fun k hk _ => ?_) fun _ => ?_
  · unfold S39x1x0 Z39x1x0
    simp only [lt_ok hj, idx_ok hj, lt_ok hk, idx_ok hk, W_nat hk h, decide_true, cond_true, and_self, Int.toNat_natCast, M76xe, cl_some]
    cases spanC ((r.2.2.1.g j).1.g k) <;> rfl
  · unfold S39x1x0 Z39x1x0
    simp [lt_ok hj]
theorem L39x1_e (r : wrT) (h : r.2.2.1.n ≤ 140737488355328) (h' : ∀ j, j < r.2.2.1.n → (r.2.2.1.g j).1.n ≤ 140737488355328) : L39x1 (no_index ((), (r, ()))) (no_index ((0 : Int), ())) = bif (List.range r.2.2.1.n).all (rowC r) then .exit 2 () else .ret (false, ()) := by
  unfold L39x1
  refine iterQ_all (ps := vs39x1) (f := fun j => ((j : Int), ())) (big_lt h) (fun j hj _ => ?_) fun _ => ?_
  · unfold S39x1 Z39x1 rowC
    simp only [lt_ok hj, idx_ok hj, W_nat hj h, decide_true, cond_true, and_self, Int.toNat_natCast, L39x1_0_e r hj (h' j hj), Int.natCast_inj]
    cases decide ((r.2.2.1.g j).1.n = r.2.2.1.n) <;> cases (List.range (r.2.2.1.g j).1.n).all (fun k => spanC ((r.2.2.1.g j).1.g k)) <;> rfl
  · unfold S39x1 Z39x1
    simp
theorem M39xe {r : wrT} (h : smallR r) : M39 (no_index (r, ())) = some (roundB r, ()) := by
  obtain ⟨h1, h2, h3⟩ := h
  unfold M39 Q39 roundB
  simp only [M63xe, cl_some, L39x0_e r (by omega), L39x1_e r (by omega) (fun j hj => by have := h3 j hj; omega)]
  have hw : W (((r.2.1.n : Nat) : Int) + 1) = ((r.2.1.n + 1 : Nat) : Int) := by rw [W_id ⟨by omega, by omega⟩]; rfl
  rw [hw]
  simp only [Int.natCast_inj]
  cases inB r.1 0 400 with
  | false => rfl
  | true =>
  cases inB (r.2.1.n : Int) 1 6 with
  | false => rfl
  | true =>
  cases decide (r.2.2.1.n = r.2.1.n + 1) with
  | false => rfl
  | true =>
  cases (List.range r.2.1.n).all (staC r) <;> cases (List.range r.2.2.1.n).all (rowC r) <;> rfl

/-- What the laws take: rounds whose lists are not long. -/
def briefB (r : wrT) : Bool := (List.range (min r.2.2.1.n 10)).all (fun j => decide ((r.2.2.1.g j).1.n ≤ 10)) && (decide (r.2.1.n ≤ 9) && decide (r.2.2.1.n ≤ 10))
theorem M38xe (r : wrT) : M38 (no_index (r, ())) = some (briefB r, ()) := by
  have h10 : min r.2.2.1.n 10 ≤ 140737488355328 := by omega
  have : L38x0 (no_index ((), (r, ()))) (no_index ((0 : Int), ())) = bif (List.range (min r.2.2.1.n 10)).all (fun j => decide ((r.2.2.1.g j).1.n ≤ 10)) then .exit 0 () else .ret (false, ()) := by
    unfold L38x0
    refine iterQ_all (ps := vs38x0) (f := fun j => ((j : Int), ())) (big_lt h10) (fun j hj _ => ?_) fun _ => ?_
    · have e1 : j < r.2.2.1.n := by omega
      have e2 : (j : Int) < 10 := by omega
      unfold S38x0 Z38x0
      simp only [lt_ok e1, idx_ok e1, e2, W_nat hj h10, decide_true, cond_true, and_self, Int.toNat_natCast]
      by_cases hx : (r.2.2.1.g j).1.n ≤ 10
      · have hx' : ¬ ((10 : Int) < (((r.2.2.1.g j).1.n : Nat) : Int)) := by omega
        simp [hx, hx']
      · have hx' : ((10 : Int) < (((r.2.2.1.g j).1.n : Nat) : Int)) := by omega
        simp [hx, hx']
    · unfold S38x0 Z38x0
      by_cases hx : r.2.2.1.n ≤ 10
      · have e : min r.2.2.1.n 10 = r.2.2.1.n := by omega
        simp [e]
      · have e : min r.2.2.1.n 10 = 10 := by omega
        have e2 : (10 : Int) < ((r.2.2.1.n : Nat) : Int) := by omega
        simp [e, e2]
  have e1 : decide (((r.2.1.n : Nat) : Int) ≤ 9) = decide (r.2.1.n ≤ 9) := by
    by_cases h : r.2.1.n ≤ 9
    · have h' : ((r.2.1.n : Nat) : Int) ≤ 9 := by omega
      simp [h, h']
    · have h' : ¬ ((r.2.1.n : Nat) : Int) ≤ 9 := by omega
      simp [h, h']
  have e2 : decide (((r.2.2.1.n : Nat) : Int) ≤ 10) = decide (r.2.2.1.n ≤ 10) := by
    by_cases h : r.2.2.1.n ≤ 10
    · have h' : ((r.2.2.1.n : Nat) : Int) ≤ 10 := by omega
      simp [h, h']
    · have h' : ¬ ((r.2.2.1.n : Nat) : Int) ≤ 10 := by omega
      simp [h, h']
  unfold M38 Q38 briefB
  simp only [this, e1, e2]
  cases (List.range (min r.2.2.1.n 10)).all (fun j => decide ((r.2.2.1.g j).1.n ≤ 10)) <;> cases decide (r.2.1.n ≤ 9) <;> rfl
theorem briefB_t {r : wrT} (h : briefB r = true) : smallR r := by
  simp only [briefB, Bool.and_eq_true, decide_eq_true_eq] at h
  obtain ⟨h1, h2, h3⟩ := h
  refine ⟨h2, h3, fun j hj => ?_⟩
  have := all_t h1 (j := j) (by omega)
  simpa using this
end Go.Dm

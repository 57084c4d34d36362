/- Suffice, of any numbers. -/
import Derived.Test.YtlfifailjikhaaaL16CP16
set_option linter.unusedVariables false
set_option linter.unusedSimpArgs false
namespace Go.Dm
set_option maxRecDepth 100000

def urgC (w : wT) (u : rowI) (j : Nat) : Bool := inB (u.g j).1 0 (W ((w.2.1.n : Int) - 1)) && (decide (j = 0) || decide ((u.g (j - 1)).1 < (u.g j).1))
def urgB (w : wT) (u : rowI) : Bool := (List.range u.n).all (urgC w u)
theorem M46xe (w : wT) {u : rowI} (hn : u.n ≤ 1000) : M46 (no_index (w, (u, ()))) = some (urgB w u, ()) := by
  have : L46x0 (no_index (u, ((), (w, ())))) (no_index ((0 : Int), ())) = bif (List.range u.n).all (urgC w u) then .exit 0 () else .ret (false, ()) := by
    unfold L46x0
    refine iterQ_all (ps := vs46x0) (f := fun j => ((j : Int), ())) (big_lt (show u.n ≤ _ by omega)) (fun j hj _ => ?_) fun _ => ?_
    · unfold S46x0 Z46x0 urgC
      simp only [lt_ok hj, idx_ok hj, W_nat hj (show u.n ≤ _ by omega), decide_true, cond_true, and_self, Int.toNat_natCast, M60xe, cl_some]
      cases inB (u.g j).1 0 (W ((w.2.1.n : Int) - 1)) with
      | false => rfl
      | true =>
        by_cases e : j = 0
        · subst e
          simp
        · have e1 : (0 : Int) < (j : Int) := by omega
          have e2 : W ((j : Int) - 1) = ((j - 1 : Nat) : Int) := by rw [W_id ⟨by omega, by omega⟩]; omega
          have e3 : j - 1 < u.n := by omega
          simp only [e1, e2, e, idx_ok e3, and_self, decide_true, decide_false, cond_true, Int.toNat_natCast, Bool.not_true, cond_false, Bool.true_and, Bool.false_or]
          by_cases q : (u.g (j - 1)).1 < (u.g j).1
          · have q' : ¬ (u.g j).1 ≤ (u.g (j - 1)).1 := by omega
            simp [q, q']
          · have q' : (u.g j).1 ≤ (u.g (j - 1)).1 := by omega
            simp [q, q']
    · unfold S46x0 Z46x0
      simp only [Int.lt_irrefl, decide_false, cond_false]
  unfold M46 Q46 urgB
  rw [this]
  cases (List.range u.n).all (urgC w u) <;> rfl
def lastI (u : rowI) : Nat → Int
  | 0 => -1
  | j + 1 => (u.g j).1
theorem L44xe {w : wT} (h : w.2.1.n ≤ 1000) {u : rowI} (hn : u.n ≤ 140737488355328) (m : Int) :
    L44x0 (no_index (u, (m, ((), (u, (((u.n : Nat) : Int), (w, ()))))))) (no_index ((-1 : Int), ((0 : Int), ()))) = bif urgB w u then .exit 0 () else .ret (false, ((2 : Int), ())) := by
  unfold L44x0 urgB
  refine iterQ_all (ps := vs44x0) (f := fun j => (lastI u j, ((j : Int), ()))) (big_lt hn) (fun j hj hc => ?_) fun _ => ?_
  · have hw : W ((w.2.1.n : Int) - 1) = (w.2.1.n : Int) - 1 := W_id ⟨by omega, by omega⟩
    have key : inB (u.g j).1 (W (lastI u j + 1)) (W ((w.2.1.n : Int) - 1)) = urgC w u j := by
      unfold urgC
      cases j with
      | zero =>
        have : W (lastI u 0 + 1) = 0 := rfl
        rw [this]; simp
      | succ k =>
        have c := hc k (by omega)
        unfold urgC at c
        rw [hw] at c ⊢
        simp only [Bool.and_eq_true] at c
        have c1 := inB_t c.1
        have e : W (lastI u (k + 1) + 1) = (u.g k).1 + 1 := W_id ⟨by show _ ≤ (u.g k).1 + 1; omega, by show (u.g k).1 + 1 ≤ _; omega⟩
        rw [e]
        unfold inB
        have d1 : ((u.g k).1 + 1 ≤ (u.g (k + 1)).1 ∧ (u.g (k + 1)).1 ≤ (w.2.1.n : Int) - 1) = ((0 ≤ (u.g (k + 1)).1 ∧ (u.g (k + 1)).1 ≤ (w.2.1.n : Int) - 1) ∧ (u.g k).1 < (u.g (k + 1)).1) := propext (by omega)
        simp only [d1, Nat.add_sub_cancel, Bool.decide_and, Nat.succ_ne_zero, decide_false, Bool.false_or]
    unfold S44x0 Z44x0
    simp only [lt_ok hj, idx_ok hj, W_nat hj hn, decide_true, cond_true, and_self, Int.toNat_natCast, M63xe, cl_some, key]
    cases urgC w u j <;> rfl
  · unfold S44x0 Z44x0
    simp only [Int.lt_irrefl, decide_false, cond_false]
theorem urg_in {w : wT} (h : w.2.1.n ≤ 1000) {u : rowI} (hu : urgB w u = true) : inU w u := fun j hj => by
  have c := all_t hu hj
  unfold urgC at c
  rw [W_id ⟨by omega, by omega⟩] at c
  simp only [Bool.and_eq_true] at c
  have := inB_t c.1
  omega
end Go.Dm

/- All alarms of a watch. -/
import Derived.Test.YtlfifailjikhaaaL16CP2
set_option linter.unusedVariables false
set_option linter.unusedSimpArgs false
namespace Go.Dm
set_option maxRecDepth 100000

abbrev prT : Type := Int × Int × Unit
abbrev mapT : Type := prT → Option Bool
abbrev kT : Type := Int × Sl repT × Sl linkT × Sl portT × Int × Int × Int × Int × Int × mapT × Unit
def alM (w : wT) (i j : Nat) : Bool := alB w (w.2.1.g i) (w.2.1.g j)
def isP (w : wT) (i j : Nat) : Bool := decide (i < j) && alM w i j
def mapAt (w : wT) (a b : Nat) : mapT := fun y => bif decide (0 ≤ y.1 ∧ y.1 < y.2.1 ∧ y.2.1 < (w.2.1.n : Int) ∧ (y.1 < (a : Int) ∨ (y.1 = (a : Int) ∧ y.2.1 < (b : Int)))) && alM w y.1.toNat y.2.1.toNat then some true else none
theorem mapAt_0 (w : wT) : mapAt w 0 (0 + 1) = fun _ => none := by
  funext ⟨p, q, ⟨⟩⟩
  unfold mapAt
  have : ¬ (0 ≤ p ∧ p < q ∧ q < (w.2.1.n : Int) ∧ (p < ((0 : Nat) : Int) ∨ (p = ((0 : Nat) : Int) ∧ q < ((0 + 1 : Nat) : Int)))) := by omega
  simp only [this, decide_false, Bool.false_and, cond_false]
theorem mapAt_row (w : wT) (a : Nat) : mapAt w a w.2.1.n = mapAt w (a + 1) (a + 1 + 1) := by
  funext ⟨p, q, ⟨⟩⟩
  unfold mapAt
  have : (0 ≤ p ∧ p < q ∧ q < (w.2.1.n : Int) ∧ (p < (a : Int) ∨ (p = (a : Int) ∧ q < (w.2.1.n : Int)))) = (0 ≤ p ∧ p < q ∧ q < (w.2.1.n : Int) ∧ (p < ((a + 1 : Nat) : Int) ∨ (p = ((a + 1 : Nat) : Int) ∧ q < ((a + 1 + 1 : Nat) : Int)))) := propext (by omega)
  simp only [this]
theorem eqP (p q a b : Int) : eqD T13 (p, (q, ())) (a, (b, ())) = (decide (p = a) && (decide (q = b) && true)) := rfl
theorem mapAt_step {w : wT} {a j : Nat} (h1 : a < j) (h2 : j < w.2.1.n) : mapAt w a (j + 1) = bif alM w a j then setMap (k := T13) (v := .bool) (eqD T13) (mapAt w a j) ((a : Int), ((j : Int), ())) true else mapAt w a j := by
  funext ⟨p, q, ⟨⟩⟩
  by_cases e : p = (a : Int) ∧ q = (j : Int)
  · obtain ⟨rfl, rfl⟩ := e
    have e1 : (0 ≤ (a : Int) ∧ (a : Int) < (j : Int) ∧ (j : Int) < (w.2.1.n : Int) ∧ ((a : Int) < (a : Int) ∨ ((a : Int) = (a : Int) ∧ (j : Int) < ((j + 1 : Nat) : Int)))) := by omega
    have e2 : ¬ (0 ≤ (a : Int) ∧ (a : Int) < (j : Int) ∧ (j : Int) < (w.2.1.n : Int) ∧ ((a : Int) < (a : Int) ∨ ((a : Int) = (a : Int) ∧ (j : Int) < (j : Int)))) := by omega
    cases h : alM w a j with
    | true =>
      have e3 : eqD T13 ((a : Int), ((j : Int), ())) ((a : Int), ((j : Int), ())) = true := by rw [eqP]; simp
      refine Eq.trans (b := some true) ?_ ?_
      · unfold mapAt
        show (bif decide (0 ≤ (a : Int) ∧ (a : Int) < (j : Int) ∧ (j : Int) < (w.2.1.n : Int) ∧ ((a : Int) < (a : Int) ∨ ((a : Int) = (a : Int) ∧ (j : Int) < ((j + 1 : Nat) : Int)))) && alM w (Int.toNat (a : Int)) (Int.toNat (j : Int)) then some true else none) = some true
        rw [decide_eq_true e1, Int.toNat_natCast, Int.toNat_natCast, h]
        rfl
      · show some true = (bif eqD T13 ((a : Int), ((j : Int), ())) ((a : Int), ((j : Int), ())) then some true else _)
        rw [e3]
        rfl
    | false => simp only [cond_false, mapAt, Int.toNat_natCast, h, Bool.and_false]
  · have e1 : (0 ≤ p ∧ p < q ∧ q < (w.2.1.n : Int) ∧ (p < (a : Int) ∨ (p = (a : Int) ∧ q < ((j + 1 : Nat) : Int)))) = (0 ≤ p ∧ p < q ∧ q < (w.2.1.n : Int) ∧ (p < (a : Int) ∨ (p = (a : Int) ∧ q < (j : Int)))) := propext (by omega)
    have e2 : mapAt w a (j + 1) (p, (q, ())) = mapAt w a j (p, (q, ())) := by simp only [mapAt, e1]
    have e3 : (decide (p = (a : Int)) && (decide (q = (j : Int)) && true)) = false := by
      by_cases x : p = (a : Int)
      · have y : ¬ q = (j : Int) := fun y => e ⟨x, y⟩
        simp [y]
      · simp [x]
    rw [e2]
    cases alM w a j with
    | true =>
      show _ = (bif eqD T13 (p, (q, ())) ((a : Int), ((j : Int), ())) then some true else mapAt w a j (p, (q, ())))
      rw [eqP, e3]
      rfl
    | false => rfl
abbrev bxT : Type := Int × Sl repT × Sl linkT × Sl portT × Int × Int × Int × Int × Int × Unit × Unit
theorem L57i_e {w : wT} (hl : w.2.2.1.n ≤ 140737488355328) (h : w.2.1.n ≤ 140737488355328) {a : Nat} (ha : a < w.2.1.n) (bx : bxT) (m : Int) (row : Sl repT) :
    L57x0x0 (no_index ((), ((), ((), ((a : Int), ((), (row, (m, ((a : Int), (w, (w.2.1.g a, ())))))))))) ) (no_index (((a + 1 : Nat) : Int), (bx, (mapAt w a (a + 1), ())))) = .exit 2 (bx, (mapAt w a w.2.1.n, ())) := by
  have hk : a + 1 + (w.2.1.n - (a + 1)) = w.2.1.n := by omega
  unfold L57x0x0
  refine iterQ_steps (ps := vs57x0x0) (w.2.1.n - (a + 1)) big (fun t => (((a + 1 + t : Nat) : Int), (bx, (mapAt w a (a + 1 + t), ())))) (big_lt (by omega)) (fun t ht => ?_) ?_
  · have hj : a + 1 + t < w.2.1.n := by omega
    show S57x0x0 _ _ = RQ.next (((a + 1 + t + 1 : Nat) : Int), (bx, (mapAt w a (a + 1 + t + 1), ())))
    rw [mapAt_step (show a < a + 1 + t by omega) hj]
    unfold S57x0x0 Z57x0x0
    simp only [lt_ok hj, idx_ok hj, W_nat hj h, decide_true, cond_true, and_self, Int.toNat_natCast, M94xe hl, cl_some]
    show (bif alM w a (a + 1 + t) then _ else _) = _
    cases alM w a (a + 1 + t) <;> rfl
  · unfold S57x0x0 Z57x0x0
    simp only [hk, Int.lt_irrefl, decide_false, cond_false]
def kW (w : wT) (m : mapT) : kT := (w.1, (w.2.1, (w.2.2.1, (w.2.2.2.1, (w.2.2.2.2.1, (w.2.2.2.2.2.1, (w.2.2.2.2.2.2.1, (w.2.2.2.2.2.2.2.1, (w.2.2.2.2.2.2.2.2.1, (m, ()))))))))))
def lookK (w : wT) : kT := kW w (mapAt w w.2.1.n (w.2.1.n + 1))
theorem L57xe {w : wT} (hl : w.2.2.1.n ≤ 140737488355328) (h : w.2.1.n ≤ 140737488355328) (bx : bxT) :
    L57x0 (no_index ((), ((), ((), (w.2.1, (((w.2.1.n : Nat) : Int), (w, ()))))))) (no_index ((0 : Int), (bx, ((fun _ => none), ())))) = .exit 0 (bx, (mapAt w w.2.1.n (w.2.1.n + 1), ())) := by
  unfold L57x0
  rw [← mapAt_0 w]
  refine iterQ_steps (ps := vs57x0) w.2.1.n big (fun a => ((a : Int), (bx, (mapAt w a (a + 1), ())))) (big_lt h) (fun a ha => ?_) ?_
  · unfold S57x0 Z57x0
    simp only [lt_ok ha, idx_ok ha, W_nat ha h, decide_true, cond_true, and_self, Int.toNat_natCast]
    rw [L57i_e hl h ha bx]
    simp only [xe57x0_0e2, mapAt_row]
  · unfold S57x0 Z57x0
    simp only [Int.lt_irrefl, decide_false, cond_false]
theorem M57xe {w : wT} (hl : w.2.2.1.n ≤ 140737488355328) (h : w.2.1.n ≤ 140737488355328) : M57 (no_index (w, ())) = some (lookK w, ()) := by
  unfold M57 Q57
  rw [L57xe hl h]
  simp only [xe57x0e0]
  rfl

/-! the alarms, one behind the other -/
section
variable {β : Type} (mk : Nat → Nat → β)
def rowL (w : wT) (a : Nat) : Nat → List β
  | 0 => []
  | b + 1 => rowL w a b ++ (bif isP w a b then [mk a b] else [])
def allL (w : wT) : Nat → List β
  | 0 => []
  | a + 1 => allL w a ++ rowL mk w a w.2.1.n
theorem rowL_len (w : wT) (a : Nat) : ∀ b, (rowL mk w a b).length ≤ b
  | 0 => Nat.le_refl _
  | b + 1 => by
    have := rowL_len w a b
    simp only [rowL, List.length_append]
    cases isP w a b <;> simp <;> omega
theorem allL_len (w : wT) : ∀ a, (allL mk w a).length ≤ a * w.2.1.n
  | 0 => by simp [allL]
  | a + 1 => by
    have h1 := allL_len w a
    have h2 := rowL_len mk w a w.2.1.n
    simp only [allL, List.length_append, Nat.add_mul, Nat.one_mul]
    omega
theorem rowL_0 (w : wT) (a : Nat) : ∀ b, b ≤ a + 1 → rowL mk w a b = []
  | 0, _ => rfl
  | b + 1, h => by
    have : isP w a b = false := by unfold isP; have : ¬ a < b := by omega
                                   simp [this]
    simp only [rowL, rowL_0 w a b (by omega), this, cond_false, List.append_nil]
end
theorem rowL_map {β γ : Type} (mk : Nat → Nat → β) (f : β → γ) (w : wT) (a : Nat) : ∀ b, (rowL mk w a b).map f = rowL (fun i j => f (mk i j)) w a b
  | 0 => rfl
  | b + 1 => by
    simp only [rowL, List.map_append, rowL_map mk f w a b]
    cases isP w a b <;> rfl
theorem allL_map {β γ : Type} (mk : Nat → Nat → β) (f : β → γ) (w : wT) : ∀ a, (allL mk w a).map f = allL (fun i j => f (mk i j)) w a
  | 0 => rfl
  | a + 1 => by simp only [allL, List.map_append, allL_map mk f w a, rowL_map]
theorem look_is {w : wT} {i j : Nat} (hi : i < w.2.1.n) (hj : j < w.2.1.n) : al_is (lookK w) (i : Int) (j : Int) = isP w i j := by
  show Option.getD (mapAt w w.2.1.n (w.2.1.n + 1) ((i : Int), ((j : Int), ()))) false = _
  unfold mapAt isP
  simp only [Int.toNat_natCast]
  by_cases e : i < j
  · have : (0 ≤ (i : Int) ∧ (i : Int) < (j : Int) ∧ (j : Int) < (w.2.1.n : Int) ∧ ((i : Int) < (w.2.1.n : Int) ∨ ((i : Int) = (w.2.1.n : Int) ∧ (j : Int) < ((w.2.1.n + 1 : Nat) : Int)))) := by omega
    rw [decide_eq_true this, decide_eq_true e]
    cases alM w i j <;> rfl
  · have : ¬ (0 ≤ (i : Int) ∧ (i : Int) < (j : Int) ∧ (j : Int) < (w.2.1.n : Int) ∧ ((i : Int) < (w.2.1.n : Int) ∨ ((i : Int) = (w.2.1.n : Int) ∧ (j : Int) < ((w.2.1.n + 1 : Nat) : Int)))) := by omega
    rw [decide_eq_false this, decide_eq_false e]
    rfl
def itN (i j : Nat) : al_eF.den := al_itm (i : Int) (j : Int)
theorem acc_list {w : wT} {a : Nat} (ha : a < w.2.1.n) : ∀ (m j : Nat) (tr : Sl al_eF.den) (base : List al_eF.den), j + m = w.2.1.n → tr.list = base ++ rowL itN w a j → (al_acc (lookK w) (a : Int) m (j : Int) tr).list = base ++ rowL itN w a w.2.1.n
  | 0, j, tr, base, hj, ht => by
    have : j = w.2.1.n := by omega
    subst this
    exact ht
  | m + 1, j, tr, base, hj, ht => by
    show (al_acc (lookK w) (a : Int) m ((j + 1 : Nat) : Int) (al_step (lookK w) (a : Int) (j : Int) tr)).list = _
    refine acc_list ha m (j + 1) _ base (by omega) ?_
    unfold al_step
    rw [look_is ha (show j < w.2.1.n by omega)]
    simp only [rowL]
    cases isP w a j with
    | true => rw [cond_true, cond_true, al_push_list, ht, List.append_assoc]; rfl
    | false => rw [cond_false, cond_false, ht, List.append_nil]
theorem all_list {w : wT} : ∀ (m i : Nat) (tr : Sl al_eF.den), i + m = w.2.1.n → tr.list = allL itN w i → (al_all (lookK w) m (i : Int) tr).list = allL itN w w.2.1.n
  | 0, i, tr, hi, ht => by
    have : i = w.2.1.n := by omega
    subst this
    exact ht
  | m + 1, i, tr, hi, ht => by
    show (al_all (lookK w) m ((i + 1 : Nat) : Int) (al_row (lookK w) (i : Int) tr)).list = _
    refine all_list m (i + 1) _ (by omega) ?_
    have e : (al_n (lookK w) - 0).toNat = w.2.1.n := by show (((w.2.1.n : Nat) : Int) - 0).toNat = _; omega
    unfold al_row
    rw [e]
    simp only [allL]
    exact acc_list (show i < w.2.1.n by omega) w.2.1.n 0 tr (allL itN w i) (by omega) (by rw [ht]; simp [rowL])
theorem items_list (w : wT) : (al_items (lookK w)).list = allL itN w w.2.1.n := by
  have e : (al_n (lookK w) - 0).toNat = w.2.1.n := by show (((w.2.1.n : Nat) : Int) - 0).toNat = _; omega
  unfold al_items
  rw [e]
  exact all_list w.2.1.n 0 _ (by omega) rfl
theorem items_ok {w : wT} (h : w.2.1.n ≤ 140737488355328) : ip69 (lookK w, ()) () = true := by
  show decide (((w.2.1.n : Nat) : Int) ≤ 9223372036854775806 ∧ (0 : Int) ≤ 0) = true
  exact decide_eq_true (by omega)
theorem items_ii (w : wT) : Sl.list (ii69 (lookK w, ()) ()) = allL itN w w.2.1.n := items_list w
end Go.Dm

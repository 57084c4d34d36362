/- Loops in plain terms; traces. -/
import Derived.Test.YtlfgdpjompacjaaL8NP1
import Derived.Test.YtlfgdpjompacjaaL8NC
set_option linter.unusedVariables false
set_option linter.unusedSimpArgs false
namespace Go.Dm
set_option maxRecDepth 100000

/-! loops -/
theorem iterQ_steps {ps : List Pat} {wy : Ways} {step : (patsTy ps).den → RQ ps wy} {q : LQ wy} : ∀ (k n : Nat) (f : Nat → (patsTy ps).den), k < n → (∀ j, j < k → step (f j) = .next (f (j + 1))) → step (f k) = .out q → iterQ step n (f 0) = q
  | 0, n + 1, f, _, _, ho => by simp only [iterQ, ho]
  | k + 1, n + 1, f, hk, hn, ho => by
    simp only [iterQ, hn 0 (by omega)]
    exact iterQ_steps k n (fun j => f (j + 1)) (by omega) (fun j hj => hn (j + 1) (by omega)) ho

theorem all_first {c : Nat → Bool} : ∀ (n : Nat), (List.range n).all c = false → ∃ k, k < n ∧ c k = false ∧ ∀ i, i < k → c i = true
  | 0, h => by simp at h
  | n + 1, h => by
    cases h' : (List.range n).all c with
    | false =>
      obtain ⟨k, h1, h2, h3⟩ := all_first n h'
      exact ⟨k, by omega, h2, h3⟩
    | true =>
      rw [List.range_succ, List.all_append, h', Bool.true_and] at h
      exact ⟨n, by omega, by simpa using h, fun i hi => List.all_eq_true.1 h' i (by simpa using hi)⟩

/-- Rounds that test, one after the other. -/
theorem iterQ_all {ps : List Pat} {wy : Ways} {step : (patsTy ps).den → RQ ps wy} {N n : Nat} {f : Nat → (patsTy ps).den} {c : Nat → Bool} {qe qr : LQ wy} (hn : n < N)
    (h1 : ∀ j, j < n → (∀ i, i < j → c i = true) → step (f j) = bif c j then .next (f (j + 1)) else .out qr) (h2 : (∀ i, i < n → c i = true) → step (f n) = .out qe) : iterQ step N (f 0) = bif (List.range n).all c then qe else qr := by
  cases h : (List.range n).all c with
  | true =>
    have hc : ∀ i, i < n → c i = true := fun i hi => List.all_eq_true.1 h i (by simpa using hi)
    exact iterQ_steps n N f hn (fun j hj => by rw [h1 j hj fun i hi => hc i (by omega), hc j hj]; rfl) (h2 hc)
  | false =>
    obtain ⟨k, k1, k2, k3⟩ := all_first n h
    exact iterQ_steps k N f (by omega) (fun j hj => by rw [h1 j (by omega) fun i hi => k3 i (by omega), k3 j hj]; rfl) (by rw [h1 k k1 k3, k2]; rfl)

theorem all_congr {c d : Nat → Bool} (n : Nat) (h : ∀ j, j < n → (∀ i, i < j → c i = true) → c j = d j) : (List.range n).all c = (List.range n).all d := by
  induction n with
  | zero => rfl
  | succ n ih =>
    have e := ih fun j hj hi => h j (by omega) hi
    rw [List.range_succ, List.all_append, List.all_append, e]
    cases hd : (List.range n).all d with
    | false => rfl
    | true =>
      rw [hd] at e
      have := h n (by omega) fun i hi => List.all_eq_true.1 e i (by simpa using hi)
      simp [this]

theorem big_lt {n : Nat} (h : n ≤ 140737488355328) : n < big := by unfold big; omega

/-! rows that are built -/
variable {α : Type}
def snoc (s : Sl α) (y : α) : Sl α := catSl s ⟨1, fun i => List.getD [y] i y⟩
theorem snoc_n (s : Sl α) (y : α) : (snoc s y).n = s.n + 1 := rfl
theorem snoc_lt {s : Sl α} {y : α} {i : Nat} (h : i < s.n) : (snoc s y).g i = s.g i := by
  have : Nat.blt i s.n = true := by rw [Nat.blt_eq]; exact h
  simp [snoc, catSl, this]
theorem snoc_at (s : Sl α) (y : α) : (snoc s y).g s.n = y := by
  have : Nat.blt s.n s.n = false := by
    cases h : Nat.blt s.n s.n with
    | false => rfl
    | true => rw [Nat.blt_eq] at h; omega
  simp [snoc, catSl, this]
/-- A row of these, one behind the other. -/
def tab (s0 : Sl α) (y : Nat → α) : Nat → Sl α
  | 0 => s0
  | j + 1 => snoc (tab s0 y j) (y j)
theorem tab_n (s0 : Sl α) (y : Nat → α) : ∀ j, (tab s0 y j).n = s0.n + j
  | 0 => rfl
  | j + 1 => by rw [tab, snoc_n, tab_n s0 y j]; omega
theorem tab_old {s0 : Sl α} {y : Nat → α} {i : Nat} (h : i < s0.n) : ∀ j, (tab s0 y j).g i = s0.g i
  | 0 => rfl
  | j + 1 => by rw [tab, snoc_lt (by rw [tab_n]; omega), tab_old h j]
theorem tab_g {s0 : Sl α} {y : Nat → α} {i : Nat} : ∀ {j}, i < j → (tab s0 y j).g (s0.n + i) = y i
  | j + 1, h => by
    rw [tab]
    by_cases e : i = j
    · subst e
      have := snoc_at (tab s0 y i) (y i)
      rwa [tab_n] at this
    · rw [snoc_lt (by rw [tab_n]; omega), tab_g (by omega)]
theorem tab_g0 {s0 : Sl α} (h0 : s0.n = 0) {y : Nat → α} {i j : Nat} (h : i < j) : (tab s0 y j).g i = y i := by
  have := tab_g (s0 := s0) (y := y) h
  rwa [h0, Nat.zero_add] at this

/-! traces -/
abbrev markT : Type := Int × Int × Int × Unit
abbrev traceT : Type := Int × Int × Sl markT × Unit
/-- The pressure ahead of a mark. -/
def bef (t : traceT) : Nat → Int
  | 0 => 100000
  | j + 1 => (t.2.2.1.g j).1
def markC (t : traceT) (j : Nat) : Bool := inB (t.2.2.1.g j).1 1 (bef t j - 1) && spanB (t.2.2.1.g j).2.1 (t.2.2.1.g j).2.2.1 (-900) 500
def traceB (t : traceT) : Bool := (List.range t.2.2.1.n).all (markC t) && (spanB t.1 t.2.1 (-5000) 5000 && inB (t.2.2.1.n : Int) 1 8)

theorem mark_bd {t : traceT} {n : Nat} (h : ∀ i, i < n → markC t i = true) (i : Nat) (hi : i < n) : 1 ≤ (t.2.2.1.g i).1 ∧ (t.2.2.1.g i).1 ≤ 99999 := by
  induction i with
  | zero =>
    have := h 0 hi
    simp only [markC, Bool.and_eq_true] at this
    have := inB_t this.1
    simp only [bef] at this
    omega
  | succ i ih =>
    have h1 := ih (by omega)
    have := h (i + 1) hi
    simp only [markC, Bool.and_eq_true] at this
    have := inB_t this.1
    simp only [bef] at this
    omega
theorem bef_bd {t : traceT} {n : Nat} (h : ∀ i, i < n → markC t i = true) : 1 ≤ bef t n ∧ bef t n ≤ 100000 := by
  cases n with
  | zero => simp [bef]
  | succ n => have := mark_bd h n (by omega); simp only [bef]; omega

theorem L72xe (t : traceT) (h : t.2.2.1.n ≤ 140737488355328) :
    L72x0 ((), (t.2.2.1, (((t.2.2.1.n : Nat) : Int), (t, ())))) ((100000 : Int), ((0 : Int), ())) = bif (List.range t.2.2.1.n).all (markC t) then .exit 0 () else .ret (false, ()) := by
  unfold L72x0
  refine iterQ_all (ps := vs72x0) (f := fun j => (bef t j, ((j : Int), ()))) (big_lt h) (fun j hj hc => ?_) fun _ => ?_
  · have hb := bef_bd hc
    have e1 : ((j : Int) < ((t.2.2.1.n : Nat) : Int)) := by omega
    have e2 : W (bef t j - 1) = bef t j - 1 := W_id ⟨by omega, by omega⟩
    have e3 : W ((j : Int) + 1) = ((j + 1 : Nat) : Int) := by rw [W_id ⟨by omega, by omega⟩]; rfl
    unfold S72x0 Z72x0
    simp only [cq102, cq104, p102xe, v102xe, p104xe, v104xe, e1, e2, e3, decide_true, cond_true, Int.toNat_natCast, Int.natCast_nonneg, and_self]
    unfold markC
    cases h1 : inB (t.2.2.1.g j).1 1 (bef t j - 1) with
    | false => simp
    | true =>
      cases h2 : spanB (t.2.2.1.g j).2.1 (t.2.2.1.g j).2.2.1 (-900) 500 with
      | false => simp
      | true => simp [cq102, cq104, bef]
  · unfold S72x0 Z72x0
    simp
theorem M72xe {x : (a72).den} (h : x.1.2.2.1.n ≤ 140737488355328) : M72 x = some (traceB x.1, ()) := by
  unfold M72 Q72 traceB
  rw [L72xe x.1 h]
  cases h1 : (List.range x.1.2.2.1.n).all (markC x.1) with
  | false => simp
  | true =>
    simp only [cq102, cq104, p104xe, v104xe, p102xe, v102xe, cond_true]
    cases h2 : spanB x.1.1 x.1.2.1 (-5000) 5000 with
    | false => simp
    | true => simp
theorem p72xe {x : (a72).den} (h : x.1.2.2.1.n ≤ 140737488355328) : p72 x = true := by simp [p72, M72xe h]
theorem v72xe {x : (a72).den} (h : x.1.2.2.1.n ≤ 140737488355328) : v72 x = (traceB x.1, ()) := by simp [v72, M72xe h]

def markD (t : traceT) (j : Nat) : Bool := inB (t.2.2.1.g j).1 1 99999 && (spanB (t.2.2.1.g j).2.1 (t.2.2.1.g j).2.2.1 (-900) 500 && (decide (j = 0) || decide ((t.2.2.1.g j).1 < bef t j)))
theorem markD_e (t : traceT) (n : Nat) : (List.range n).all (markC t) = (List.range n).all (markD t) := by
  refine all_congr n fun j hj hc => ?_
  have hb := bef_bd hc
  unfold markC markD
  cases h2 : spanB (t.2.2.1.g j).2.1 (t.2.2.1.g j).2.2.1 (-900) 500 with
  | false => simp
  | true =>
    simp only [Bool.and_true, Bool.true_and]
    unfold inB
    cases j with
    | zero =>
      rw [Bool.eq_iff_iff]
      constructor
      · intro h
        have h := of_decide_eq_true h
        simp only [bef] at h
        rw [Bool.and_eq_true]
        exact ⟨decide_eq_true ⟨h.1, by omega⟩, rfl⟩
      · intro h
        rw [Bool.and_eq_true] at h
        have h1 := of_decide_eq_true h.1
        exact decide_eq_true ⟨h1.1, by simp only [bef]; omega⟩
    | succ j =>
      have := mark_bd hc j (by omega)
      simp only [bef] at hb ⊢
      rw [Bool.eq_iff_iff]
      constructor
      · intro h
        have h := of_decide_eq_true h
        rw [Bool.and_eq_true, Bool.or_eq_true]
        exact ⟨decide_eq_true ⟨h.1, by omega⟩, .inr (decide_eq_true (by omega))⟩
      · intro h
        rw [Bool.and_eq_true, Bool.or_eq_true] at h
        have h1 := of_decide_eq_true h.1
        rcases h.2 with h' | h'
        · have := of_decide_eq_true h'; omega
        · have := of_decide_eq_true h'
          exact decide_eq_true ⟨h1.1, by omega⟩

theorem L23xe (t : traceT) (h : t.2.2.1.n ≤ 140737488355328) :
    L23x0 ((), (t, ())) ((0 : Int), ()) = bif (List.range t.2.2.1.n).all (markC t) then .exit 0 () else .ret (false, ()) := by
  rw [markD_e]
  unfold L23x0
  refine iterQ_all (ps := vs23x0) (f := fun j => ((j : Int), ())) (big_lt h) (fun j hj hc => ?_) fun _ => ?_
  · have e1 : ((j : Int) < ((t.2.2.1.n : Nat) : Int)) := by omega
    have e3 : W ((j : Int) + 1) = ((j + 1 : Nat) : Int) := by rw [W_id ⟨by omega, by omega⟩]; rfl
    unfold S23x0 Z23x0
    simp only [cq68, cq75, p75xe, v75xe, p68xe, v68xe, e1, e3, decide_true, cond_true, Int.toNat_natCast, Int.natCast_nonneg, and_self]
    unfold markD
    cases h1 : inB (t.2.2.1.g j).1 1 99999 with
    | false => simp
    | true =>
      cases h2 : spanB (t.2.2.1.g j).2.1 (t.2.2.1.g j).2.2.1 (-900) 500 with
      | false => simp
      | true =>
        cases j with
        | zero => simp
        | succ j =>
          have e4 : W (((j + 1 : Nat) : Int) - 1) = (j : Int) := by rw [W_id ⟨by omega, by omega⟩]; omega
          have e5 : (0 : Int) < ((j + 1 : Nat) : Int) := by omega
          have e6 : (0 : Int) ≤ (j : Int) ∧ (j : Int) < ((t.2.2.1.n : Nat) : Int) := by omega
          simp only [cq68, cq75, e4, e5, e6, decide_true, cond_true, Bool.not_true, cond_false, Int.toNat_natCast, bef, Bool.true_and, and_self]
          by_cases h3 : (t.2.2.1.g j).1 ≤ (t.2.2.1.g (j + 1)).1
          · have : ¬ (t.2.2.1.g (j + 1)).1 < (t.2.2.1.g j).1 := by omega
            simp [cq68, cq75, h3, this]
          · have : (t.2.2.1.g (j + 1)).1 < (t.2.2.1.g j).1 := by omega
            simp [cq68, cq75, h3, this]
  · unfold S23x0 Z23x0
    simp
theorem M23xe {x : (a23).den} (h : x.1.2.2.1.n ≤ 140737488355328) : M23 x = some (traceB x.1, ()) := by
  unfold M23 Q23 traceB
  rw [L23xe x.1 h]
  cases h1 : (List.range x.1.2.2.1.n).all (markC x.1) with
  | false => simp
  | true =>
    simp only [cq68, cq75, p68xe, v68xe, p75xe, v75xe, cond_true]
    cases h2 : spanB x.1.1 x.1.2.1 (-5000) 5000 with
    | false => simp
    | true => simp
theorem traceB_t {t : traceT} (h : traceB t = true) : (∀ i, i < t.2.2.1.n → markC t i = true) ∧ (-5000 ≤ t.1 ∧ t.1 ≤ t.2.1 ∧ t.2.1 ≤ 5000) ∧ 1 ≤ t.2.2.1.n ∧ t.2.2.1.n ≤ 8 := by
  simp only [traceB, Bool.and_eq_true] at h
  have := inB_t h.2.2
  exact ⟨fun i hi => List.all_eq_true.1 h.1 i (by simpa using hi), spanB_t h.2.1, by omega, by omega⟩
end Go.Dm


/- Loops in plain terms. -/
import Derived.Test.YtlfifailjikhaaaL15WX
set_option linter.unusedVariables false
set_option linter.unusedSimpArgs false
namespace Go.Dm
set_option maxRecDepth 100000

theorem W_id {n : Int} (h : -9223372036854775808 ≤ n ∧ n ≤ 9223372036854775807) : W n = n := IntWalk.i64_in _ ⟨by omega, by omega⟩
theorem W_nat {j n : Nat} (h : j < n) (hn : n ≤ 140737488355328) : W ((j : Int) + 1) = ((j + 1 : Nat) : Int) := by rw [W_id ⟨by omega, by omega⟩]; rfl
theorem idx_ok {j n : Nat} (h : j < n) : ((0 : Int) ≤ (j : Int) ∧ (j : Int) < (n : Int)) := by omega
theorem lt_ok {j n : Nat} (h : j < n) : ((j : Int) < (n : Int)) := by omega
theorem known_M : M18 () = some (true, ()) := by kernel_rfl

def inB (x lo hi : Int) : Bool := decide (lo ≤ x ∧ x ≤ hi)
theorem inB_t {x lo hi : Int} (h : inB x lo hi = true) : lo ≤ x ∧ x ≤ hi := of_decide_eq_true h

/-! loops -/
theorem iterQ_steps {ps : List Pat} {wy : Ways} {step : (patsTy ps).den → RQ ps wy} {q : LQ wy} : ∀ (k n : Nat) (f : Nat → (patsTy ps).den), k < n → (∀ j, j < k → step (f j) = .next (f (j + 1))) → step (f k) = .out q → iterQ step n (f 0) = q
  | 0, n + 1, f, _, _, ho => by simp only [iterQ, ho]
  | k + 1, n + 1, f, hk, hn, ho => by
    simp only [iterQ, hn 0 (by omega)]
    exact iterQ_steps k n (fun j => f (j + 1)) (by omega) (fun j hj => hn (j + 1) (by omega)) ho

theorem all_first {c : Nat → Bool} : ∀ (n : Nat), (List.range n).all c = false → ∃ k, k < n ∧ c k = false ∧ ∀ i, i < k → c i = true
  | 0, h => by simp at h
  | n + 1, h => by
    cases h' : (List.range n).all c with
    | false =>
      obtain ⟨k, h1, h2, h3⟩ := all_first n h'
      exact ⟨k, by omega, h2, h3⟩
    | true =>
      rw [List.range_succ, List.all_append, h', Bool.true_and] at h
      exact ⟨n, by omega, by simpa using h, fun i hi => List.all_eq_true.1 h' i (by simpa using hi)⟩
theorem all_t {c : Nat → Bool} {n : Nat} (h : (List.range n).all c = true) {j : Nat} (hj : j < n) : c j = true := List.all_eq_true.1 h j (by simpa using hj)
theorem all_i {c : Nat → Bool} {n : Nat} (h : ∀ j, j < n → c j = true) : (List.range n).all c = true := List.all_eq_true.2 fun j hj => h j (by simpa using hj)

/-- Rounds that test, one after the other. -/
theorem iterQ_all {ps : List Pat} {wy : Ways} {step : (patsTy ps).den → RQ ps wy} {N n : Nat} {f : Nat → (patsTy ps).den} {c : Nat → Bool} {qe qr : LQ wy} (hn : n < N)
    (h1 : ∀ j, j < n → (∀ i, i < j → c i = true) → step (f j) = bif c j then .next (f (j + 1)) else .out qr) (h2 : (∀ i, i < n → c i = true) → step (f n) = .out qe) : iterQ step N (f 0) = bif (List.range n).all c then qe else qr := by
  cases h : (List.range n).all c with
  | true =>
    have hc : ∀ i, i < n → c i = true := fun i hi => List.all_eq_true.1 h i (by simpa using hi)
    exact iterQ_steps n N f hn (fun j hj => by rw [h1 j hj fun i hi => hc i (by omega), hc j hj]; rfl) (h2 hc)
  | false =>
    obtain ⟨k, k1, k2, k3⟩ := all_first n h
    exact iterQ_steps k N f (by omega) (fun j hj => by rw [h1 j (by omega) fun i hi => k3 i (by omega), k3 j hj]; rfl) (by rw [h1 k k1 k3, k2]; rfl)

/-- Rounds that look for something. -/
def fstN (c : Nat → Bool) : Nat → Option Nat
  | 0 => none
  | n + 1 => match fstN c n with
    | some k => some k
    | none => bif c n then some n else none
theorem fstN_none {c : Nat → Bool} : ∀ {n : Nat}, fstN c n = none → ∀ j, j < n → c j = false
  | n + 1, h, j, hj => by
    simp only [fstN] at h
    cases h' : fstN c n with
    | some k => rw [h'] at h; cases h
    | none =>
      rw [h'] at h
      by_cases e : j = n
      · subst e
        cases hc : c j with
        | false => rfl
        | true => rw [hc] at h; cases h
      · exact fstN_none h' j (by omega)
theorem fstN_some {c : Nat → Bool} : ∀ {n k : Nat}, fstN c n = some k → k < n ∧ c k = true ∧ ∀ j, j < k → c j = false
  | n + 1, k, h => by
    simp only [fstN] at h
    cases h' : fstN c n with
    | some k' =>
      rw [h'] at h
      cases h
      obtain ⟨h1, h2, h3⟩ := fstN_some h'
      exact ⟨by omega, h2, h3⟩
    | none =>
      rw [h'] at h
      cases hc : c n with
      | false => rw [hc] at h; cases h
      | true => rw [hc] at h; cases h; exact ⟨by omega, hc, fstN_none h'⟩
theorem iterQ_find {ps : List Pat} {wy : Ways} {step : (patsTy ps).den → RQ ps wy} {N n : Nat} {f : Nat → (patsTy ps).den} {c : Nat → Bool} {qe : LQ wy} {qr : Nat → LQ wy} (hn : n < N)
    (h1 : ∀ j, j < n → (∀ i, i < j → c i = false) → step (f j) = bif c j then .out (qr j) else .next (f (j + 1))) (h2 : (∀ i, i < n → c i = false) → step (f n) = .out qe) : iterQ step N (f 0) = match fstN c n with | some k => qr k | none => qe := by
  cases h : fstN c n with
  | none =>
    have hc := fstN_none h
    exact iterQ_steps n N f hn (fun j hj => by rw [h1 j hj fun i hi => hc i (by omega), hc j hj]; rfl) (h2 hc)
  | some k =>
    obtain ⟨k1, k2, k3⟩ := fstN_some h
    exact iterQ_steps k N f (by omega) (fun j hj => by rw [h1 j (by omega) fun i hi => k3 i (by omega), k3 j hj]; rfl) (by rw [h1 k k1 k3, k2]; rfl)

theorem all_congr {c d : Nat → Bool} (n : Nat) (h : ∀ j, j < n → (∀ i, i < j → c i = true) → c j = d j) : (List.range n).all c = (List.range n).all d := by
  induction n with
  | zero => rfl
  | succ n ih =>
    have e := ih fun j hj hi => h j (by omega) hi
    rw [List.range_succ, List.all_append, List.all_append, e]
    cases hd : (List.range n).all d with
    | false => rfl
    | true =>
      rw [hd] at e
      have := h n (by omega) fun i hi => List.all_eq_true.1 e i (by simpa using hi)
      simp [this]

theorem big_lt {n : Nat} (h : n ≤ 140737488355328) : n < big := by unfold big; omega

/-! rows that are built -/
variable {α : Type}
def snoc (s : Sl α) (y : α) : Sl α := catSl s ⟨1, fun i => List.getD [y] i y⟩
theorem snoc_eq (s : Sl α) (y : α) : catSl s ⟨1, fun i => List.getD [y] i y⟩ = snoc s y := rfl
theorem snoc_n (s : Sl α) (y : α) : (snoc s y).n = s.n + 1 := rfl
theorem snoc_lt {s : Sl α} {y : α} {i : Nat} (h : i < s.n) : (snoc s y).g i = s.g i := by
  have : Nat.blt i s.n = true := by rw [Nat.blt_eq]; exact h
  simp [snoc, catSl, this]
theorem snoc_at (s : Sl α) (y : α) : (snoc s y).g s.n = y := by
  have : Nat.blt s.n s.n = false := by
    cases h : Nat.blt s.n s.n with
    | false => rfl
    | true => rw [Nat.blt_eq] at h; omega
  simp [snoc, catSl, this]
/-- A row of these, one behind the other. -/
def tab (s0 : Sl α) (y : Nat → α) : Nat → Sl α
  | 0 => s0
  | j + 1 => snoc (tab s0 y j) (y j)
theorem tab_n (s0 : Sl α) (y : Nat → α) : ∀ j, (tab s0 y j).n = s0.n + j
  | 0 => rfl
  | j + 1 => by rw [tab, snoc_n, tab_n s0 y j]; omega
theorem tab_g {s0 : Sl α} {y : Nat → α} {i : Nat} : ∀ {j}, i < j → (tab s0 y j).g (s0.n + i) = y i
  | j + 1, h => by
    rw [tab]
    by_cases e : i = j
    · subst e
      have := snoc_at (tab s0 y i) (y i)
      rwa [tab_n] at this
    · rw [snoc_lt (by rw [tab_n]; omega), tab_g (by omega)]
theorem tab_g0 {s0 : Sl α} (h0 : s0.n = 0) {y : Nat → α} {i j : Nat} (h : i < j) : (tab s0 y j).g i = y i := by
  have := tab_g (s0 := s0) (y := y) h
  rwa [h0, Nat.zero_add] at this
theorem tab_n0 {s0 : Sl α} (h0 : s0.n = 0) {y : Nat → α} {j : Nat} : (tab s0 y j).n = j := by rw [tab_n, h0, Nat.zero_add]

/-- Of so many different numbers below n there are no more than n. -/
theorem pigeon : ∀ (n m : Nat) (g : Nat → Nat), (∀ i, i < m → g i < n) → (∀ i j, i < j → j < m → g i ≠ g j) → m ≤ n
  | 0, m, g, h, _ => by
    cases m with
    | zero => omega
    | succ m => exact absurd (h 0 (by omega)) (by omega)
  | n + 1, 0, _, _, _ => by omega
  | n + 1, m + 1, g, h, hd => by
    by_cases hx : ∃ i, i < m + 1 ∧ g i = n
    · obtain ⟨i, hi, hg⟩ := hx
      have : m ≤ n := by
        refine pigeon n m (fun k => if k = i then g m else g k) (fun k hk => ?_) (fun j k hjk hk => ?_)
        · by_cases e : k = i
          · simp only [e, if_true]
            have h1 := h m (by omega)
            have h2 : g i ≠ g m := hd i m (by omega) (by omega)
            omega
          · simp only [e, if_false]
            have h1 := h k (by omega)
            have h2 : g k ≠ g i := by
              rcases Nat.lt_or_gt_of_ne e with q | q
              · exact hd k i q (by omega)
              · exact fun e' => hd i k q (by omega) e'.symm
            omega
        · by_cases e1 : j = i
          · have e2 : k ≠ i := by omega
            simp only [e1, e2, if_true, if_false]
            exact fun e' => hd k m (by omega) (by omega) e'.symm
          · by_cases e2 : k = i
            · simp only [e1, e2, if_true, if_false]
              exact hd j m (by omega) (by omega)
            · simp only [e1, e2, if_false]
              exact hd j k hjk (by omega)
      omega
    · have := pigeon n (m + 1) g (fun i hi => by
        have h1 := h i hi
        have h2 : g i ≠ n := fun e => hx ⟨i, hi, e⟩
        omega) hd
      omega
end Go.Dm

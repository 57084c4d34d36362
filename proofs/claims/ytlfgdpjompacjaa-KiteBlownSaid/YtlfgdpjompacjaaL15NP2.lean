/- Loops in plain terms; traces. -/
import Derived.Test.YtlfgdpjompacjaaL15NP1
import Derived.Test.YtlfgdpjompacjaaL15NC
set_option linter.unusedVariables false
set_option linter.unusedSimpArgs false
namespace Go.Dm
set_option maxRecDepth 100000

/-! loops -/
theorem iterQ_steps {ps : List Pat} {wy : Ways} {step : (patsTy ps).den → RQ ps wy} {q : LQ wy} : ∀ (k n : Nat) (f : Nat → (patsTy ps).den), k < n → (∀ j, j < k → step (f j) = .next (f (j + 1))) → step (f k) = .out q → iterQ step n (f 0) = q
  | 0, n + 1, f, _, _, ho => by simp only [iterQ, ho]
  | k + 1, n + 1, f, hk, hn, ho => by
    simp only [iterQ, hn 0 (by omega)]
    exact iterQ_steps k n (fun j => f (j + 1)) (by omega) (fun j hj => hn (j + 1) (by omega)) ho

theorem all_first {c : Nat → Bool} : ∀ (n : Nat), (List.range n).all c = false → ∃ k, k < n ∧ c k = false ∧ ∀ i, i < k → c i = true
  | 0, h => by simp at h
  | n + 1, h => by
    cases h' : (List.range n).all c with
    | false =>
      obtain ⟨k, h1, h2, h3⟩ := all_first n h'
      exact ⟨k, by omega, h2, h3⟩
    | true =>
      rw [List.range_succ, List.all_append, h', Bool.true_and] at h
      exact ⟨n, by omega, by simpa using h, fun i hi => List.all_eq_true.1 h' i (by simpa using hi)⟩

/-- Rounds that test, one after the other. -/
theorem iterQ_all {ps : List Pat} {wy : Ways} {step : (patsTy ps).den → RQ ps wy} {N n : Nat} {f : Nat → (patsTy ps).den} {c : Nat → Bool} {qe qr : LQ wy} (hn : n < N)
    (h1 : ∀ j, j < n → (∀ i, i < j → c i = true) → step (f j) = bif c j then .next (f (j + 1)) else .out qr) (h2 : (∀ i, i < n → c i = true) → step (f n) = .out qe) : iterQ step N (f 0) = bif (List.range n).all c then qe else qr := by
  cases h : (List.range n).all c with
  | true =>
    have hc : ∀ i, i < n → c i = true := fun i hi => List.all_eq_true.1 h i (by simpa using hi)
    exact iterQ_steps n N f hn (fun j hj => by rw [h1 j hj fun i hi => hc i (by omega), hc j hj]; rfl) (h2 hc)
  | false =>
    obtain ⟨k, k1, k2, k3⟩ := all_first n h
    exact iterQ_steps k N f (by omega) (fun j hj => by rw [h1 j (by omega) fun i hi => k3 i (by omega), k3 j hj]; rfl) (by rw [h1 k k1 k3, k2]; rfl)

theorem all_congr {c d : Nat → Bool} (n : Nat) (h : ∀ j, j < n → (∀ i, i < j → c i = true) → c j = d j) : (List.range n).all c = (List.range n).all d := by
  induction n with
  | zero => rfl
  | succ n ih =>
    have e := ih fun j hj hi => h j (by omega) hi
    rw [List.range_succ, List.all_append, List.all_append, e]
    cases hd : (List.range n).all d with
    | false => rfl
    | true =>
      rw [hd] at e
      have := h n (by omega) fun i hi => List.all_eq_true.1 e i (by simpa using hi)
      simp [this]

theorem big_lt {n : Nat} (h : n ≤ 140737488355328) : n < big := by unfold big; omega

/-! rows that are built -/
variable {α : Type}
def snoc (s : Sl α) (y : α) : Sl α := catSl s ⟨1, fun i => List.getD [y] i y⟩
theorem snoc_n (s : Sl α) (y : α) : (snoc s y).n = s.n + 1 := rfl
theorem snoc_lt {s : Sl α} {y : α} {i : Nat} (h : i < s.n) : (snoc s y).g i = s.g i := by
  have : Nat.blt i s.n = true := by rw [Nat.blt_eq]; exact h
  simp [snoc, catSl, this]
theorem snoc_at (s : Sl α) (y : α) : (snoc s y).g s.n = y := by
  have : Nat.blt s.n s.n = false := by
    cases h : Nat.blt s.n s.n with
    | false => rfl
    | true => rw [Nat.blt_eq] at h; omega
  simp [snoc, catSl, this]
/-- A row of these, one behind the other. -/
def tab (s0 : Sl α) (y : Nat → α) : Nat → Sl α
  | 0 => s0
  | j + 1 => snoc (tab s0 y j) (y j)
theorem tab_n (s0 : Sl α) (y : Nat → α) : ∀ j, (tab s0 y j).n = s0.n + j
  | 0 => rfl
  | j + 1 => by rw [tab, snoc_n, tab_n s0 y j]; omega
theorem tab_g {s0 : Sl α} {y : Nat → α} {i : Nat} : ∀ {j}, i < j → (tab s0 y j).g (s0.n + i) = y i
  | j + 1, h => by
    rw [tab]
    by_cases e : i = j
    · subst e
      have := snoc_at (tab s0 y i) (y i)
      rwa [tab_n] at this
    · rw [snoc_lt (by rw [tab_n]; omega), tab_g (by omega)]
theorem tab_g0 {s0 : Sl α} (h0 : s0.n = 0) {y : Nat → α} {i j : Nat} (h : i < j) : (tab s0 y j).g i = y i := by
  have := tab_g (s0 := s0) (y := y) h
  rwa [h0, Nat.zero_add] at this

/-! traces -/
abbrev markT : Type := Int × Int × Int × Unit
abbrev traceT : Type := Int × Int × Sl markT × Unit
end Go.Dm


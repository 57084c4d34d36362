/- Loops in plain terms. -/
import Derived.Test.YtadkaccpacpklaaL4GB
import Derived.Test.YtadkaccpacpklaaL4LM2
set_option linter.unusedVariables false
set_option linter.unusedSimpArgs false
namespace Go.Dm
set_option maxRecDepth 100000
theorem W_id {n : Int} (h : -9223372036854775808 ≤ n ∧ n ≤ 9223372036854775807) : W n = n := IntWalk.i64_in _ ⟨by omega, by omega⟩
theorem W_nat {j n : Nat} (h : j < n) (hn : n ≤ 140737488355328) : W ((j : Int) + 1) = ((j + 1 : Nat) : Int) := by rw [W_id ⟨by omega, by omega⟩]; rfl
theorem bif_t {α : Type} {b : Bool} (h : b = true) {x y : α} : (bif b then x else y) = x := by rw [h]; rfl
theorem bif_f {α : Type} {b : Bool} (h : b = false) {x y : α} : (bif b then x else y) = y := by rw [h]; rfl
theorem cl_of {α β : Type} {d : α} {o : Option α} {x : α} {f : α → β} {g : β} (h : o = some x) : cl d o f g = f x := by rw [h]; exact cl_some _ _ _ _
theorem onExit_of {wy : Ways} {β : Type} {q : LQ wy} {id : Nat} {y : (patsTy (wayP wy id)).den} {f : (patsTy (wayP wy id)).den → β} {g : β} (h : q = LQ.exit id y) : onExit q id f g = f y := by rw [h]; exact onExit_exit id y f g
theorem idx_ok {j n : Nat} (h : j < n) : ((0 : Int) ≤ (j : Int) ∧ (j : Int) < (n : Int)) := by omega
theorem lt_ok {j n : Nat} (h : j < n) : ((j : Int) < (n : Int)) := by omega
theorem known_M : M17 () = some (true, ()) := by kernel_rfl
theorem iterQ_steps {ps : List Pat} {wy : Ways} {step : (patsTy ps).den → RQ ps wy} {q : LQ wy} : ∀ (k n : Nat) (f : Nat → (patsTy ps).den), k < n → (∀ j, j < k → step (f j) = .next (f (j + 1))) → step (f k) = .out q → iterQ step n (f 0) = q
 | 0, n + 1, f, _, _, ho => by simp only [iterQ, ho]
 | k + 1, n + 1, f, hk, hn, ho => by
  simp only [iterQ, hn 0 (by omega)]
  exact iterQ_steps k n (fun j => f (j + 1)) (by omega) (fun j hj => hn (j + 1) (by omega)) ho
theorem all_first {c : Nat → Bool} : ∀ (n : Nat), (List.range n).all c = false → ∃ k, k < n ∧ c k = false ∧ ∀ i, i < k → c i = true
 | 0, h => by simp at h
 | n + 1, h => by
  cases h' : (List.range n).all c with
  | false =>
   obtain ⟨k, h1, h2, h3⟩ := all_first n h'
   exact ⟨k, by omega, h2, h3⟩
  | true =>
   rw [List.range_succ, List.all_append, h', Bool.true_and] at h
   exact ⟨n, by omega, by simpa using h, fun i hi => List.all_eq_true.1 h' i (by simpa using hi)⟩
theorem all_t {c : Nat → Bool} {n : Nat} (h : (List.range n).all c = true) {j : Nat} (hj : j < n) : c j = true := List.all_eq_true.1 h j (by simpa using hj)
theorem all_i {c : Nat → Bool} {n : Nat} (h : ∀ j, j < n → c j = true) : (List.range n).all c = true := List.all_eq_true.2 fun j hj => h j (by simpa using hj)
theorem iterQ_all {ps : List Pat} {wy : Ways} {step : (patsTy ps).den → RQ ps wy} {N n : Nat} {f : Nat → (patsTy ps).den} {c : Nat → Bool} {qe qr : LQ wy} (hn : n < N)
  (h1 : ∀ j, j < n → (∀ i, i < j → c i = true) → step (f j) = bif c j then .next (f (j + 1)) else .out qr) (h2 : (∀ i, i < n → c i = true) → step (f n) = .out qe) : iterQ step N (f 0) = bif (List.range n).all c then qe else qr := by
 cases h : (List.range n).all c with
 | true =>
  have hc : ∀ i, i < n → c i = true := fun i hi => List.all_eq_true.1 h i (by simpa using hi)
  exact iterQ_steps n N f hn (fun j hj => by rw [h1 j hj fun i hi => hc i (by omega), hc j hj]; rfl) (h2 hc)
 | false =>
  obtain ⟨k, k1, k2, k3⟩ := all_first n h
  exact iterQ_steps k N f (by omega) (fun j hj => by rw [h1 j (by omega) fun i hi => k3 i (by omega), k3 j hj]; rfl) (by rw [h1 k k1 k3, k2]; rfl)
def fstN (c : Nat → Bool) : Nat → Option Nat
 | 0 => none
 | n + 1 => match fstN c n with
  | some k => some k
  | none => bif c n then some n else none
theorem fstN_none {c : Nat → Bool} : ∀ {n : Nat}, fstN c n = none → ∀ j, j < n → c j = false
 | n + 1, h, j, hj => by
  simp only [fstN] at h
  cases h' : fstN c n with
  | some k => rw [h'] at h; cases h
  | none =>
   rw [h'] at h
   by_cases e : j = n
   ·subst e
    cases hc : c j with
    | false => rfl
    | true => rw [hc] at h; cases h
   ·exact fstN_none h' j (by omega)
theorem fstN_some {c : Nat → Bool} : ∀ {n k : Nat}, fstN c n = some k → k < n ∧ c k = true ∧ ∀ j, j < k → c j = false
 | n + 1, k, h => by
  simp only [fstN] at h
  cases h' : fstN c n with
  | some k' =>
   rw [h'] at h
   cases h
   obtain ⟨h1, h2, h3⟩ := fstN_some h'
   exact ⟨by omega, h2, h3⟩
  | none =>
   rw [h'] at h
   cases hc : c n with
   | false => rw [hc] at h; cases h
   | true => rw [hc] at h; cases h; exact ⟨by omega, hc, fstN_none h'⟩
theorem iterQ_find {ps : List Pat} {wy : Ways} {step : (patsTy ps).den → RQ ps wy} {N n : Nat} {f : Nat → (patsTy ps).den} {c : Nat → Bool} {qe : LQ wy} {qr : Nat → LQ wy} (hn : n < N)
  (h1 : ∀ j, j < n → (∀ i, i < j → c i = false) → step (f j) = bif c j then .out (qr j) else .next (f (j + 1))) (h2 : (∀ i, i < n → c i = false) → step (f n) = .out qe) : iterQ step N (f 0) = match fstN c n with | some k => qr k | none => qe := by
 cases h : fstN c n with
 | none =>
  have hc := fstN_none h
  exact iterQ_steps n N f hn (fun j hj => by rw [h1 j hj fun i hi => hc i (by omega), hc j hj]; rfl) (h2 hc)
 | some k =>
  obtain ⟨k1, k2, k3⟩ := fstN_some h
  exact iterQ_steps k N f (by omega) (fun j hj => by rw [h1 j (by omega) fun i hi => k3 i (by omega), k3 j hj]; rfl) (by rw [h1 k k1 k3, k2]; rfl)
theorem big_lt {n : Nat} (h : n ≤ 140737488355328) : n < big := by unfold big; omega
variable {α : Type}
def snoc (s : Sl α) (y : α) : Sl α := catSl s ⟨1, fun i => List.getD [y] i y⟩
theorem snoc_n (s : Sl α) (y : α) : (snoc s y).n = s.n + 1 := rfl
theorem snoc_lt {s : Sl α} {y : α} {i : Nat} (h : i < s.n) : (snoc s y).g i = s.g i := by
 have : Nat.blt i s.n = true := by rw [Nat.blt_eq]; exact h
 simp [snoc, catSl, this]
theorem snoc_at (s : Sl α) (y : α) : (snoc s y).g s.n = y := by
 have : Nat.blt s.n s.n = false := by
  cases h : Nat.blt s.n s.n with
  | false => rfl
  | true => rw [Nat.blt_eq] at h; omega
 simp [snoc, catSl, this]
theorem iterQ_rel {ps : List Pat} {wy : Ways} {step : (patsTy ps).den → RQ ps wy} {N : Nat} {P : Nat → (patsTy ps).den → Prop} {q : (patsTy ps).den → LQ wy} (k : Nat) (hk : k < N)
  (h1 : ∀ j s, j < k → P j s → ∃ s', step s = .next s' ∧ P (j + 1) s') (h2 : ∀ s, P k s → step s = .out (q s)) (s : (patsTy ps).den) (h0 : P 0 s) : ∃ s', P k s' ∧ iterQ step N s = q s' := by
 have : ∀ d j s n, j + d = k → d < n → P j s → ∃ s', P k s' ∧ iterQ step n s = q s' := by
  intro d
  induction d with
  | zero =>
   intro j s n e hn hp
   obtain rfl : j = k := by omega
   cases n with
   | zero => omega
   | succ n => exact ⟨s, hp, by simp only [iterQ, h2 s hp]⟩
  | succ d ih =>
   intro j s n e hn hp
   cases n with
   | zero => omega
   | succ n =>
    obtain ⟨s', e1, hp'⟩ := h1 j s (by omega) hp
    obtain ⟨s'', hp'', e2⟩ := ih (j + 1) s' n (by omega) (by omega) hp'
    exact ⟨s'', hp'', by simp only [iterQ, e1]; exact e2⟩
 exact this k 0 s N (by omega) hk h0
end Go.Dm

/- Lists in order. -/
import Derived.Test.YtlfifailjikhaaaL15CP18
set_option linter.unusedVariables false
set_option linter.unusedSimpArgs false
namespace Go.Dm
set_option maxRecDepth 100000

def digB (o : rowI) : Prop := ∀ j, j < o.n → 0 ≤ (o.g j).1 ∧ (o.g j).1 < 10
def cod (o : rowI) : Nat → Int
  | 0 => 0
  | j + 1 => 10 * cod o j + (o.g j).1
theorem cod_eq {a b : rowI} : ∀ {n : Nat}, (∀ j, j < n → (a.g j).1 = (b.g j).1) → cod a n = cod b n
  | 0, _ => rfl
  | n + 1, h => by rw [cod, cod, cod_eq fun j hj => h j (by omega), h n (by omega)]
theorem cod_lt {a b : rowI} {N : Nat} (ha : ∀ j, j < N → 0 ≤ (a.g j).1 ∧ (a.g j).1 < 10) (hb : ∀ j, j < N → 0 ≤ (b.g j).1 ∧ (b.g j).1 < 10) {k : Nat} (he : ∀ j, j < k → (a.g j).1 = (b.g j).1) (hk : (a.g k).1 < (b.g k).1) :
    ∀ {n : Nat}, k < n → n ≤ N → cod a n < cod b n
  | 0, h, _ => by omega
  | n + 1, h, hn => by
    have h1 := ha n (by omega)
    have h2 := hb n (by omega)
    rw [cod, cod]
    by_cases e : k = n
    · subst e
      rw [cod_eq he]; omega
    · have := cod_lt ha hb he hk (n := n) (by omega) (by omega)
      omega
theorem cod_inj {a b : rowI} {N : Nat} (ha : ∀ j, j < N → 0 ≤ (a.g j).1 ∧ (a.g j).1 < 10) (hb : ∀ j, j < N → 0 ≤ (b.g j).1 ∧ (b.g j).1 < 10) : ∀ {n : Nat}, n ≤ N → cod a n = cod b n → ∀ j, j < n → (a.g j).1 = (b.g j).1
  | 0, _, _, j, hj => by omega
  | n + 1, hn, h, j, hj => by
    have h1 := ha n (by omega)
    have h2 := hb n (by omega)
    rw [cod, cod] at h
    have h3 : cod a n = cod b n := by omega
    by_cases e : j = n
    · subst e; omega
    · exact cod_inj ha hb (by omega) h3 j (by omega)
def difN (a b : rowI) (n : Nat) : Option Nat := fstN (fun j => !decide ((a.g j).1 = (b.g j).1)) n
def lexB (a b : rowI) (n : Nat) : Bool := match difN a b n with
  | some k => decide ((a.g k).1 < (b.g k).1)
  | none => false
theorem lexB_e {a b : rowI} {n : Nat} (ha : ∀ j, j < n → 0 ≤ (a.g j).1 ∧ (a.g j).1 < 10) (hb : ∀ j, j < n → 0 ≤ (b.g j).1 ∧ (b.g j).1 < 10) : lexB a b n = decide (cod a n < cod b n) := by
  unfold lexB difN
  cases h : fstN (fun j => !decide ((a.g j).1 = (b.g j).1)) n with
  | none =>
    have := cod_eq (a := a) (b := b) (n := n) fun j hj => by
      have := fstN_none h j hj
      simpa using this
    simp [this]
  | some k =>
    obtain ⟨k1, k2, k3⟩ := fstN_some h
    have he : ∀ j, j < k → (a.g j).1 = (b.g j).1 := fun j hj => by simpa using k3 j hj
    have hne : (a.g k).1 ≠ (b.g k).1 := by simpa using k2
    by_cases e : (a.g k).1 < (b.g k).1
    · have := cod_lt ha hb he e k1 (Nat.le_refl _)
      simp [e, this]
    · have := cod_lt hb ha (fun j hj => (he j hj).symm) (show (b.g k).1 < (a.g k).1 by omega) k1 (Nat.le_refl _)
      have h' : ¬ (cod a n < cod b n) := by omega
      simp [e, h']

theorem fstN_congr {c d : Nat → Bool} : ∀ {n : Nat}, (∀ j, j < n → c j = d j) → fstN c n = fstN d n
  | 0, _ => rfl
  | n + 1, h => by simp only [fstN, fstN_congr fun j hj => h j (Nat.lt_succ_of_lt hj), h n (Nat.lt_succ_self n)]
theorem M106xe (x : Int) : M106 (no_index (x, ())) = some (false, ()) := by
  unfold M106 Q106
  simp
theorem M78xe (x y : Int) : M78 (no_index (x, (y, ()))) = some (bif decide (x < y) then (-1 : Int) else bif decide (y < x) then 1 else 0, ()) := by
  unfold M78 Q78
  simp only [M106xe, cl_some, cond_false]
  cases decide (x < y) <;> cases decide (y < x) <;> rfl
theorem M79xe {a b : rowI} (hs : a.n ≤ 10) : ∃ q : Int, M79 (no_index (a, (b, ()))) = some (q, ()) ∧ (a.n = b.n → decide (q < 0) = lexB a b a.n) := by
  have : L79x0 (no_index (a, (b, (a, (((a.n : Nat) : Int), ()))))) (no_index ((0 : Int), ())) = match fstN (fun j => decide (b.n ≤ j) || !decide ((a.g j).1 = (b.g j).1)) a.n with
      | some k => .ret (bif decide (b.n ≤ k) then 1 else bif decide ((a.g k).1 < (b.g k).1) then (-1 : Int) else bif decide ((b.g k).1 < (a.g k).1) then 1 else 0, ())
      | none => .exit 0 () := by
    unfold L79x0
    refine iterQ_find (ps := vs79x0) (wy := wv79x0) (f := fun j => ((j : Int), ())) (big_lt (n := a.n) (by omega)) (fun j hj _ => ?_) fun _ => ?_
    · unfold S79x0 Z79x0
      by_cases hb : b.n ≤ j
      · have e1 : (((b.n : Nat) : Int) ≤ (j : Int)) := by omega
        simp only [lt_ok hj, idx_ok hj, e1, hb, decide_true, cond_true, and_self, Bool.true_or]
      · have hj' : j < b.n := by omega
        have e1 : ¬ (((b.n : Nat) : Int) ≤ (j : Int)) := by omega
        simp only [lt_ok hj, idx_ok hj, idx_ok hj', e1, hb, W_nat hj (by omega : a.n ≤ 140737488355328), decide_true, decide_false, cond_true, cond_false, and_self, Int.toNat_natCast, Bool.false_or]
        have h78 : M78 (no_index ((a.g j).1, b.g j)) = _ := M78xe (a.g j).1 (b.g j).1
        rw [h78]
        by_cases h1 : (a.g j).1 < (b.g j).1
        · have h2 : ¬ ((a.g j).1 = (b.g j).1) := by omega
          simp [h1, h2]
        · by_cases h2 : (b.g j).1 < (a.g j).1
          · have h3 : ¬ ((a.g j).1 = (b.g j).1) := by omega
            simp [h1, h2, h3]
          · have h3 : (a.g j).1 = (b.g j).1 := by omega
            simp [h3]
    · unfold S79x0 Z79x0
      simp
  unfold M79 Q79 lexB
  simp only [this]
  by_cases hn : a.n = b.n
  · have hc : fstN (fun j => decide (b.n ≤ j) || !decide ((a.g j).1 = (b.g j).1)) a.n = difN a b a.n := by
      unfold difN
      refine fstN_congr fun j hj => ?_
      have : ¬ b.n ≤ j := by omega
      simp [this]
    rw [hc]
    cases h : difN a b a.n with
    | none =>
      have e : ¬ (((a.n : Nat) : Int) < ((b.n : Nat) : Int)) := by omega
      refine ⟨0, ?_, fun _ => rfl⟩
      show (bif decide (((a.n : Nat) : Int) < ((b.n : Nat) : Int)) then _ else _) = _
      simp only [e, decide_false, cond_false]
    | some k =>
      have hk : ¬ b.n ≤ k := by
        unfold difN at h
        have := (fstN_some h).1
        omega
      refine ⟨_, rfl, fun _ => ?_⟩
      by_cases h1 : (a.g k).1 < (b.g k).1
      · simp [h1, hk]
      · by_cases h2 : (b.g k).1 < (a.g k).1
        · simp [h1, h2, hk]
        · simp [h1, h2, hk]
  · cases h : fstN (fun j => decide (b.n ≤ j) || !decide ((a.g j).1 = (b.g j).1)) a.n with
    | none =>
      by_cases e : (((a.n : Nat) : Int) < ((b.n : Nat) : Int))
      · refine ⟨-1, ?_, fun q => absurd q hn⟩
        show (bif decide (((a.n : Nat) : Int) < ((b.n : Nat) : Int)) then _ else _) = _
        simp only [e, decide_true, cond_true]
      · refine ⟨0, ?_, fun q => absurd q hn⟩
        show (bif decide (((a.n : Nat) : Int) < ((b.n : Nat) : Int)) then _ else _) = _
        simp only [e, decide_false, cond_false]
    | some k => exact ⟨_, rfl, fun q => absurd q hn⟩
theorem M77xe (x y z : Int × Unit) (d : Int × Unit) : M77 (no_index ((⟨3, fun i => List.getD [x, y, z] i d⟩ : Sl (Int × Unit)), ())) = some (bif !decide (x.1 = 0) then x else bif !decide (y.1 = 0) then y else bif !decide (z.1 = 0) then z else ((0 : Int), ())) := by
  have : L77x0 (no_index ((0 : Int), ((⟨3, fun i => List.getD [x, y, z] i d⟩ : Sl (Int × Unit)), ((((3 : Nat) : Int)), ())))) (no_index ((0 : Int), ())) = match fstN (fun j => !decide ((List.getD [x, y, z] j d).1 = 0)) 3 with
      | some k => .ret (List.getD [x, y, z] k d)
      | none => .exit 0 () := by
    unfold L77x0
    refine iterQ_find (ps := vs77x0) (wy := wv77x0) (f := fun j => ((j : Int), ())) (big_lt (n := 3) (by omega)) (fun j hj _ => ?_) fun _ => ?_
    · unfold S77x0 Z77x0
      simp only [lt_ok hj, idx_ok hj, W_nat hj (by omega : 3 ≤ 140737488355328), decide_true, cond_true, and_self, Int.toNat_natCast]
    · unfold S77x0 Z77x0
      simp
  unfold M77 Q77
  simp only [this]
  by_cases h1 : x.1 = 0 <;> by_cases h2 : y.1 = 0 <;> by_cases h3 : z.1 = 0 <;> simp [fstN, h1, h2, h3]

/-- A list and its cost. -/
abbrev chT : Type := rowI × Int × Unit
/-- Which of two lists is the better one: what it costs, how long it is, its numbers. -/
def Bet (c : Int) (n : Nat) (d c' : Int) (n' : Nat) (d' : Int) : Prop := c < c' ∨ (c = c' ∧ (n < n' ∨ (n = n' ∧ d < d')))
instance (c : Int) (n : Nat) (d c' : Int) (n' : Nat) (d' : Int) : Decidable (Bet c n d c' n' d') := by unfold Bet; infer_instance
theorem M76xe {a b : chT} (hs : a.1.n ≤ 10) (ha : digB a.1) (hb : digB b.1) : ∃ q : Int, M76 (no_index (a, (b, ()))) = some (q, ()) ∧ (q < 0 ↔ Bet a.2.1 a.1.n (cod a.1 a.1.n) b.2.1 b.1.n (cod b.1 b.1.n)) := by
  obtain ⟨q, q1, q2⟩ := M79xe (a := a.1) (b := b.1) hs
  unfold M76 Q76
  have h0 : M78 (no_index (a.2.1, b.2)) = _ := M78xe a.2.1 b.2.1
  simp only [h0, M78xe, q1, cl_some, M77xe]
  refine ⟨_, rfl, ?_⟩
  unfold Bet
  by_cases c1 : a.2.1 < b.2.1
  · simp [c1]
  by_cases c2 : b.2.1 < a.2.1
  · have : ¬ a.2.1 = b.2.1 := by omega
    simp [c1, c2, this]
  have c3 : a.2.1 = b.2.1 := by omega
  by_cases n1 : a.1.n < b.1.n
  · have n1' : ((a.1.n : Nat) : Int) < ((b.1.n : Nat) : Int) := by omega
    simp [c3, n1, n1']
  by_cases n2 : b.1.n < a.1.n
  · have n1' : ¬ ((a.1.n : Nat) : Int) < ((b.1.n : Nat) : Int) := by omega
    have n2' : ((b.1.n : Nat) : Int) < ((a.1.n : Nat) : Int) := by omega
    have : ¬ a.1.n = b.1.n := by omega
    simp [c3, n1, n1', n2', this]
  have n3 : a.1.n = b.1.n := by omega
  have q3 := q2 n3
  rw [lexB_e ha fun j hj => hb j (by omega)] at q3
  have q4 : q < 0 ↔ cod a.1 a.1.n < cod b.1 a.1.n := by
    constructor
    · intro h; rw [decide_eq_true h] at q3; exact of_decide_eq_true q3.symm
    · intro h; rw [decide_eq_true h] at q3; exact of_decide_eq_true q3
  rw [← n3]
  by_cases z : q = 0
  · have : ¬ cod a.1 a.1.n < cod b.1 a.1.n := by omega
    simp [c3, z, this]
  · simp [c3, z, q4]
end Go.Dm

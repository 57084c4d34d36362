/- The best order. -/
import Derived.Test.YtiapgkbnjpkagaaL10WP12
set_option linter.unusedVariables false
set_option linter.unusedSimpArgs false
namespace Go.Dm
set_option maxRecDepth 100000

def digB (o : rowI) : Prop := ∀ j, j < o.n → 0 ≤ (o.g j).1 ∧ (o.g j).1 < 10
def cod (o : rowI) : Nat → Int
  | 0 => 0
  | j + 1 => 10 * cod o j + (o.g j).1
theorem cod_eq {a b : rowI} : ∀ {n : Nat}, (∀ j, j < n → (a.g j).1 = (b.g j).1) → cod a n = cod b n
  | 0, _ => rfl
  | n + 1, h => by rw [cod, cod, cod_eq fun j hj => h j (by omega), h n (by omega)]
theorem cod_lt {a b : rowI} {N : Nat} (ha : ∀ j, j < N → 0 ≤ (a.g j).1 ∧ (a.g j).1 < 10) (hb : ∀ j, j < N → 0 ≤ (b.g j).1 ∧ (b.g j).1 < 10) {k : Nat} (he : ∀ j, j < k → (a.g j).1 = (b.g j).1) (hk : (a.g k).1 < (b.g k).1) :
    ∀ {n : Nat}, k < n → n ≤ N → cod a n < cod b n
  | 0, h, _ => by omega
  | n + 1, h, hn => by
    have h1 := ha n (by omega)
    have h2 := hb n (by omega)
    rw [cod, cod]
    by_cases e : k = n
    · subst e
      rw [cod_eq he]; omega
    · have := cod_lt ha hb he hk (n := n) (by omega) (by omega)
      omega
theorem cod_inj {a b : rowI} {N : Nat} (ha : ∀ j, j < N → 0 ≤ (a.g j).1 ∧ (a.g j).1 < 10) (hb : ∀ j, j < N → 0 ≤ (b.g j).1 ∧ (b.g j).1 < 10) : ∀ {n : Nat}, n ≤ N → cod a n = cod b n → ∀ j, j < n → (a.g j).1 = (b.g j).1
  | 0, _, _, j, hj => by omega
  | n + 1, hn, h, j, hj => by
    have h1 := ha n (by omega)
    have h2 := hb n (by omega)
    rw [cod, cod] at h
    have h3 : cod a n = cod b n := by omega
    by_cases e : j = n
    · subst e; omega
    · exact cod_inj ha hb (by omega) h3 j (by omega)
def difN (a b : rowI) (n : Nat) : Option Nat := fstN (fun j => !decide ((a.g j).1 = (b.g j).1)) n
def lexB (a b : rowI) (n : Nat) : Bool := match difN a b n with
  | some k => decide ((a.g k).1 < (b.g k).1)
  | none => false
theorem lexB_e {a b : rowI} {n : Nat} (ha : ∀ j, j < n → 0 ≤ (a.g j).1 ∧ (a.g j).1 < 10) (hb : ∀ j, j < n → 0 ≤ (b.g j).1 ∧ (b.g j).1 < 10) : lexB a b n = decide (cod a n < cod b n) := by
  unfold lexB difN
  cases h : fstN (fun j => !decide ((a.g j).1 = (b.g j).1)) n with
  | none =>
    have := cod_eq (a := a) (b := b) (n := n) fun j hj => by
      have := fstN_none h j hj
      simpa using this
    simp [this]
  | some k =>
    obtain ⟨k1, k2, k3⟩ := fstN_some h
    have he : ∀ j, j < k → (a.g j).1 = (b.g j).1 := fun j hj => by simpa using k3 j hj
    have hne : (a.g k).1 ≠ (b.g k).1 := by simpa using k2
    by_cases e : (a.g k).1 < (b.g k).1
    · have := cod_lt ha hb he e k1 (Nat.le_refl _)
      simp [e, this]
    · have := cod_lt hb ha (fun j hj => (he j hj).symm) (show (b.g k).1 < (a.g k).1 by omega) k1 (Nat.le_refl _)
      have h' : ¬ (cod a n < cod b n) := by omega
      simp [e, h']
theorem M105xe (x y : Int) : M105 (no_index (x, (y, ()))) = some (bif decide (x < y) then (-1 : Int) else bif decide (y < x) then 1 else 0, ()) := by
  unfold M105 Q105 M106 Q106
  simp only [cl_some, decide_true, Bool.not_true, cond_false]
  cases decide (x < y) <;> cases decide (y < x) <;> rfl
theorem M102xe {a b : rowI} (hn : a.n = b.n) (hs : a.n ≤ 10) : ∃ q : Int, M102 (no_index (a, (b, ()))) = some (q, ()) ∧ decide (q < 0) = lexB a b a.n := by
  have : L102x0 (no_index (a, (b, (a, (((a.n : Nat) : Int), ()))))) (no_index ((0 : Int), ())) = match difN a b a.n with
      | some k => .ret (bif decide ((a.g k).1 < (b.g k).1) then (-1 : Int) else bif decide ((b.g k).1 < (a.g k).1) then 1 else 0, ())
      | none => .exit 0 () := by
    unfold L102x0 difN
    refine iterQ_find (ps := vs102x0) (wy := wv102x0) (f := fun j => ((j : Int), ())) (big_lt (n := a.n) (by omega)) (fun j hj _ => ?_) fun _ => ?_
    · have hj' : j < b.n := by omega
      have e1 : ¬ (((b.n : Nat) : Int) ≤ (j : Int)) := by omega
      unfold S102x0 Z102x0
      simp only [lt_ok hj, idx_ok hj, idx_ok hj', e1, W_nat hj (by omega : a.n ≤ 140737488355328), decide_true, decide_false, cond_true, cond_false, and_self, Int.toNat_natCast]
      have h105 : M105 (no_index ((a.g j).1, b.g j)) = _ := M105xe (a.g j).1 (b.g j).1
      rw [h105]
      by_cases h1 : (a.g j).1 < (b.g j).1
      · have h2 : ¬ ((a.g j).1 = (b.g j).1) := by omega
        simp [h1, h2]
      · by_cases h2 : (b.g j).1 < (a.g j).1
        · have h3 : ¬ ((a.g j).1 = (b.g j).1) := by omega
          simp [h1, h2, h3]
        · have h3 : (a.g j).1 = (b.g j).1 := by omega
          simp [h3]
    · unfold S102x0 Z102x0
      simp
  unfold M102 Q102 lexB
  simp only [this]
  cases h : difN a b a.n with
  | none =>
    have e : ¬ (((a.n : Nat) : Int) < ((b.n : Nat) : Int)) := by omega
    refine ⟨0, ?_, rfl⟩
    show (bif decide (((a.n : Nat) : Int) < ((b.n : Nat) : Int)) then _ else _) = _
    simp only [e, decide_false, cond_false]
  | some k =>
    refine ⟨_, rfl, ?_⟩
    by_cases h1 : (a.g k).1 < (b.g k).1
    · simp [h1]
    · by_cases h2 : (b.g k).1 < (a.g k).1
      · simp [h1, h2]
      · simp [h1, h2]
/-- Which of two plans is the better one. -/
def Bet (n : Nat) (e c : Int) (n' : Nat) (e' c' : Int) : Prop := n' < n ∨ (n = n' ∧ (e < e' ∨ (e = e' ∧ c < c')))
instance (n : Nat) (e c : Int) (n' : Nat) (e' c' : Int) : Decidable (Bet n e c n' e' c') := by unfold Bet; infer_instance
def better (a b : planT) : Bool := decide (Bet a.1.n a.2.1 (cod a.1 a.1.n) b.1.n b.2.1 (cod b.1 b.1.n))
theorem M83xe {a b : planT} (h1 : a.1.n ≤ 10) (h2 : digB a.1) (h3 : digB b.1) : M83 (no_index (a, (b, ()))) = some (better a b, ()) := by
  unfold M83 Q83 better Bet
  by_cases e : a.1.n = b.1.n
  case neg =>
    have e' : ¬ (((a.1.n : Nat) : Int) = ((b.1.n : Nat) : Int)) := by omega
    have : (((b.1.n : Nat) : Int) < ((a.1.n : Nat) : Int)) ↔ b.1.n < a.1.n := by omega
    simp [e, e']
  have e' : (((a.1.n : Nat) : Int) = ((b.1.n : Nat) : Int)) := by omega
  obtain ⟨q, q1, q2⟩ := M102xe e h1
  have q3 := lexB_e (n := a.1.n) h2 (fun j hj => h3 j (by omega))
  by_cases e2 : a.2.1 = b.2.1
  · simp only [e', e2, decide_true, Bool.not_true, cond_false, q1, cl_some]
    rw [q2, q3, e]
    simp
  · simp [e', e2, e]
theorem p83xe {a b : planT} (h1 : a.1.n ≤ 10) (h2 : digB a.1) (h3 : digB b.1) : p83 (no_index (a, (b, ()))) = true := by unfold p83; rw [M83xe h1 h2 h3]; rfl
theorem v83xe {a b : planT} (h1 : a.1.n ≤ 10) (h2 : digB a.1) (h3 : digB b.1) : v83 (no_index (a, (b, ()))) = (better a b, ()) := by unfold v83; rw [M83xe h1 h2 h3]; rfl
theorem M82xe {all : Sl planT} (hs : all.n ≤ 2147483648) (h0 : 0 < all.n) (hd : ∀ j, j < all.n → (all.g j).1.n ≤ 10 ∧ digB (all.g j).1) :
    ∃ i, i < all.n ∧ M82 (no_index (all, ((fun y1 => ((p83 y1), (v83 y1))), ()))) = some (all.g i, ()) ∧ ∀ k, k < all.n → better (all.g k) (all.g i) = false := by
  have := iterQ_rel (ps := vs82x0) (wy := wv82x0) (step := S82x0 (no_index ((fun y1 => ((p83 y1), (v83 y1))), ((), ((), (all, (((all.n : Nat) : Int), (((⟨0, fun i => ((0 : Int), ())⟩ : Sl _), ((0 : Int), ())), ())))))))) (N := big)
    (P := fun j s => ∃ i, i < all.n ∧ s = ((j : Int), (all.g i, ())) ∧ ∀ k, k < j → better (all.g k) (all.g i) = false)
    (q := fun s => .exit 0 (s.2.1, ())) all.n (big_lt (by omega)) ?_ ?_ ((0 : Int), (all.g 0, ())) ⟨0, h0, rfl, fun k hk => by omega⟩
  · obtain ⟨s', ⟨i, hi, rfl, hb⟩, e⟩ := this
    refine ⟨i, hi, ?_, hb⟩
    unfold M82 Q82
    have h0' : ((0 : Int) ≤ (0 : Int)) ∧ ((0 : Int) < ((all.n : Nat) : Int)) := by omega
    simp only [h0', decide_true, cond_true, and_self]
    exact congrArg (fun (q : LQ wv82x0) => onExit q 0 (fun (u0 : (patsTy (wayP wv82x0 0)).den) => (some (u0.1, ()) : Option (r82).den)) none) e
  · rintro j s hj ⟨i, hi, rfl, hb⟩
    have d1 := hd j hj
    have d2 := hd i hi
    unfold S82x0 Z82x0
    simp only [lt_ok hj, idx_ok hj, W_nat hj (by omega : all.n ≤ 140737488355328), decide_true, cond_true, and_self, Int.toNat_natCast, p83xe d1.1 d1.2 d2.2, v83xe d1.1 d1.2 d2.2]
    cases hbt : better (all.g j) (all.g i) with
    | true =>
      refine ⟨_, rfl, j, hj, rfl, fun k hk => ?_⟩
      have t1 := of_decide_eq_true hbt
      by_cases e : k = j
      · subst e
        exact decide_eq_false (by unfold Bet; omega)
      · have t2 := of_decide_eq_false (hb k (by omega))
        refine decide_eq_false ?_
        unfold Bet at t1 t2 ⊢
        omega
    | false =>
      refine ⟨_, rfl, i, hi, rfl, fun k hk => ?_⟩
      by_cases e : k = j
      · subst e; exact hbt
      · exact hb k (by omega)
  · rintro s ⟨i, hi, rfl, hb⟩
    unfold S82x0 Z82x0
    simp
theorem order_dig {r : wrT} (hr : roundB r = true) {o : rowI} (ho : orderB r o = true) : digB o := fun j hj => by
  have := order_bd hr ho hj; omega
theorem Sam.cod {o p : rowI} (h : Sam o p) : cod p p.n = cod o o.n := by
  rw [← h.1]; exact cod_eq fun j hj => by rw [h.2 j hj]
/-- What is the best order. -/
structure IsBest (r : wrT) (l : rowI) (d : Int) : Prop where
  ord : orderB r l = true
  sure : sureB r l = true
  fin : d = endH r l
  top : ∀ p, orderB r p = true → sureB r p = true → ¬ Bet p.n (endH r p) (cod p p.n) l.n d (cod l l.n)
theorem M40xe {r : wrT} (hr : roundB r = true) (hsm : smallR r) : ∃ l d, M40 (no_index (r, ())) = some (l, (d, ((0 : Int), ()))) ∧ IsBest r l d := by
  have hm := round_n hr
  have ho : orderB r s0I = true := rfl
  obtain ⟨all, e1, hz, hg, hh⟩ := search_e hr 9 s0I ⟨0, fun i => ((⟨0, fun i => ((0 : Int), ())⟩ : Sl _), ((0 : Int), ()))⟩ ho (by omega) (by decide)
  have hsz : siz 9 = 2015539 := by decide
  rw [hsz] at hz
  have hz' : all.n ≤ 2015539 := by simpa using hz
  obtain ⟨j0, hj0, _⟩ := hh s0I ⟨Nat.le_refl _, fun _ _ => rfl⟩ ho rfl
  have hgood : ∀ j, j < all.n → Good r (all.g j) := fun j hj => hg.new j (Nat.zero_le _) hj
  obtain ⟨i, hi, e2, hb⟩ := M82xe (all := all) (by omega) (by omega) fun j hj => by
    have := hgood j hj
    have hl := order_len this.1 (by omega)
    exact ⟨by omega, order_dig hr this.1⟩
  have hgi := hgood i hi
  refine ⟨(all.g i).1, (all.g i).2.1, ?_, hgi.1, hgi.2.1, hgi.2.2, fun p hp1 hp2 => ?_⟩
  · unfold M40 Q40
    simp only [M77xe hsm, hr, cl_some, Bool.not_true, cond_false]
    have e1' : F78 9 (no_index ((⟨0, fun i => ((0 : Int), ())⟩ : Sl _), ((), ((), ((), (r, (((⟨0, fun i => ((⟨0, fun i => ((0 : Int), ())⟩ : Sl _), ((0 : Int), ()))⟩ : Sl _), ()), (((), ()), ())))))))) = sOut r all := e1
    rw [e1']
    refine (onOk_ok _ _ _ _).trans ?_
    refine (congrArg (fun q => cl _ q _ _) e2).trans ?_
    rfl
  · obtain ⟨j, hj, hs⟩ := hh p ⟨Nat.zero_le _, fun k hk => absurd hk (Nat.not_lt_zero _)⟩ hp1 hp2
    have := of_decide_eq_false (hb j hj)
    rw [(hgood j hj).2.2, ← hs.endH, ← hs.cod, hs.1] at this
    exact this
end Go.Dm

/- What is least by an order, and lists of bits. -/
import Derived.Test.YtlfifailjikhaaaL15CP19
set_option linter.unusedVariables false
set_option linter.unusedSimpArgs false
namespace Go.Dm
set_option maxRecDepth 100000

/-! ranks -/
theorem countP_lt {p q : Nat → Bool} : ∀ {l : List Nat}, (∀ x, x ∈ l → p x = true → q x = true) → (∃ x, x ∈ l ∧ q x = true ∧ p x = false) → l.countP p < l.countP q
  | [], _, h => by obtain ⟨x, hx, _⟩ := h; cases hx
  | a :: l, h1, h2 => by
    have hl : ∀ x, x ∈ l → p x = true → q x = true := fun x hx => h1 x (List.mem_cons_of_mem _ hx)
    have hm : l.countP p ≤ l.countP q := List.countP_mono_left hl
    have ha := h1 a (List.mem_cons_self ..)
    obtain ⟨x, hx, hq, hp⟩ := h2
    rw [List.countP_cons, List.countP_cons]
    rcases List.mem_cons.1 hx with rfl | hx
    · rw [hq, hp]; simp; omega
    · have := countP_lt hl ⟨x, hx, hq, hp⟩
      cases hpa : p a with
      | true => rw [ha hpa]; simp; omega
      | false => cases q a <;> simp <;> omega
structure LtOk (n : Nat) (lt : Nat → Nat → Bool) : Prop where
  irr : ∀ i, i < n → lt i i = false
  tr : ∀ i j k, i < n → j < n → k < n → lt i j = true → lt j k = true → lt i k = true
  tot : ∀ i j, i < n → j < n → i ≠ j → lt i j = true ∨ lt j i = true
variable {n : Nat} {lt : Nat → Nat → Bool}
theorem LtOk.asym (h : LtOk n lt) {i j : Nat} (hi : i < n) (hj : j < n) (hl : lt i j = true) : lt j i = false := by
  cases e : lt j i with
  | false => rfl
  | true => have := h.tr i j i hi hj hi hl e; rw [h.irr i hi] at this; cases this
theorem rk_e {i : Nat} (hi : i < n) : rk (ranks n lt) i = rkN n lt i := by
  unfold rk ranks
  simp [List.getD, hi]
theorem LtOk.mono (h : LtOk n lt) {i j : Nat} (hi : i < n) (hj : j < n) (hl : lt i j = true) : rkN n lt i < rkN n lt j := by
  unfold rkN
  refine countP_lt (fun x hx hp => h.tr x i j (by simpa using hx) hi hj hp hl) ⟨i, by simpa using hi, hl, h.irr i hi⟩
theorem LtOk.bd (h : LtOk n lt) {i : Nat} (hi : i < n) : rkN n lt i < n := by
  have : rkN n lt i < (List.range n).countP (fun _ => true) := countP_lt (fun _ _ _ => rfl) ⟨i, by simpa using hi, rfl, h.irr i hi⟩
  rw [List.countP_true, List.length_range] at this
  exact this
theorem LtOk.inj (h : LtOk n lt) {i j : Nat} (hi : i < n) (hj : j < n) (e : rkN n lt i = rkN n lt j) : i = j := by
  by_cases q : i = j
  · exact q
  · rcases h.tot i j hi hj q with a | a
    · have := h.mono hi hj a; omega
    · have := h.mono hj hi a; omega
theorem LtOk.rankB (h : LtOk n lt) : rankB n lt (ranks n lt) = true := by
  unfold Go.Dm.rankB
  refine all_i fun i hi => ?_
  rw [Bool.and_eq_true]
  refine ⟨by rw [rk_e hi, Nat.blt_eq]; exact h.bd hi, all_i fun j hj => ?_⟩
  rw [rk_e hi, rk_e hj, Bool.and_eq_true]
  by_cases q : i = j
  · subst q
    have e : Nat.blt (rkN n lt i) (rkN n lt i) = false := by
      cases e : Nat.blt (rkN n lt i) (rkN n lt i) with
      | false => rfl
      | true => rw [Nat.blt_eq] at e; omega
    rw [h.irr i hi, e, Nat.beq_refl]
    exact ⟨rfl, rfl⟩
  · have e1 : Nat.beq (rkN n lt i) (rkN n lt j) = false := beq_ne fun e => q (h.inj hi hj e)
    refine ⟨?_, by rw [e1, Bool.not_false, Bool.or_true]⟩
    rw [beq_iff_eq]
    rcases h.tot i j hi hj q with a | a
    · rw [a]; have := h.mono hi hj a; rw [← Nat.blt_eq] at this; exact this.symm
    · rw [h.asym hj hi a]
      have := h.mono hj hi a
      cases e : Nat.blt (rkN n lt i) (rkN n lt j) with
      | false => rfl
      | true => rw [Nat.blt_eq] at e; omega
theorem LtOk.find (h : LtOk n lt) {i : Nat} (hi : i < n) : findN (ranks n lt) (rkN n lt i) n = i :=
  findN_spec hi (rk_e hi) fun j hj e => h.inj hj hi (by rw [← rk_e hj]; exact e)
theorem LtOk.at (h : LtOk n lt) {k : Nat} (hk : k < n) : ∃ i, i < n ∧ rkN n lt i = k := by
  by_cases q : ∃ i, i < n ∧ rkN n lt i = k
  · exact q
  · exfalso
    have hne : ∀ i, i < n → rkN n lt i ≠ k := fun i hi e => q ⟨i, hi, e⟩
    have := pigeon (n - 1) n (fun i => if rkN n lt i < k then rkN n lt i else rkN n lt i - 1) (fun i hi => by
      have h1 := h.bd hi
      have h2 := hne i hi
      show (if rkN n lt i < k then rkN n lt i else rkN n lt i - 1) < n - 1
      split <;> omega) fun i j hij hj => by
      have h1 := hne i (by omega)
      have h2 := hne j hj
      have h3 : rkN n lt i ≠ rkN n lt j := fun e => by have := h.inj (by omega) hj e; omega
      show (if rkN n lt i < k then rkN n lt i else rkN n lt i - 1) ≠ (if rkN n lt j < k then rkN n lt j else rkN n lt j - 1)
      split <;> split <;> omega
    omega
/-- The first one for which something holds is the least one. -/
theorem LtOk.first (h : LtOk n lt) (c : Nat → Bool) : match fstN (fun k => c (findN (ranks n lt) k n)) n with
    | none => ∀ j, j < n → c j = false
    | some k => k < n ∧ findN (ranks n lt) k n < n ∧ c (findN (ranks n lt) k n) = true ∧ ∀ j, j < n → c j = true → lt j (findN (ranks n lt) k n) = false := by
  cases e : fstN (fun k => c (findN (ranks n lt) k n)) n with
  | none =>
    intro j hj
    have := fstN_none e (rkN n lt j) (h.bd hj)
    rwa [h.find hj] at this
  | some k =>
    obtain ⟨k1, k2, k3⟩ := fstN_some e
    obtain ⟨i, hi, hr⟩ := h.at k1
    have hf : findN (ranks n lt) k n = i := by rw [← hr]; exact h.find hi
    refine ⟨k1, by rw [hf]; exact hi, k2, fun j hj hc => ?_⟩
    rw [hf]
    cases hl : lt j i with
    | false => rfl
    | true =>
      have h1 := h.mono hj hi hl
      have := k3 (rkN n lt j) (by omega)
      rw [h.find hj, hc] at this
      cases this

/-! lists of bits -/
def bitS (m : Nat) : Nat → rowI
  | 0 => row0
  | i + 1 => bif m.testBit i then snoc (bitS m i) ((i : Int), ()) else bitS m i
theorem bitS_n (m : Nat) : ∀ i, (bitS m i).n ≤ i
  | 0 => Nat.le_refl _
  | i + 1 => by
    have := bitS_n m i
    unfold bitS
    cases m.testBit i with
    | true => rw [cond_true, snoc_n]; omega
    | false => rw [cond_false]; omega
theorem bitS_bd (m : Nat) : ∀ i t, t < (bitS m i).n → 0 ≤ ((bitS m i).g t).1 ∧ ((bitS m i).g t).1 < (i : Int)
  | 0, t, h => absurd h (Nat.not_lt_zero t)
  | i + 1, t, h => by
    have ih := bitS_bd m i
    unfold bitS at h ⊢
    cases hb : m.testBit i with
    | true =>
      rw [hb, cond_true, snoc_n] at h
      rw [cond_true]
      by_cases e : t < (bitS m i).n
      · rw [snoc_lt e]; have := ih t e; omega
      · obtain rfl : t = (bitS m i).n := by omega
        rw [snoc_at]
        show (0 : Int) ≤ (i : Int) ∧ (i : Int) < ((i + 1 : Nat) : Int)
        omega
    | false =>
      rw [hb, cond_false] at h
      rw [cond_false]
      have := ih t h; omega
theorem bitS_inc (m : Nat) : ∀ i s t, s < t → t < (bitS m i).n → ((bitS m i).g s).1 < ((bitS m i).g t).1
  | 0, s, t, _, h => absurd h (Nat.not_lt_zero t)
  | i + 1, s, t, hs, h => by
    have ih := bitS_inc m i
    have bd := bitS_bd m i
    unfold bitS at h ⊢
    cases hb : m.testBit i with
    | true =>
      rw [hb, cond_true, snoc_n] at h
      rw [cond_true]
      by_cases e : t < (bitS m i).n
      · rw [snoc_lt e, snoc_lt (by omega)]; exact ih s t hs e
      · obtain rfl : t = (bitS m i).n := by omega
        rw [snoc_at, snoc_lt hs]
        exact (bd s hs).2
    | false =>
      rw [hb, cond_false] at h
      rw [cond_false]
      exact ih s t hs h
theorem bitS_mem (m : Nat) : ∀ i k : Nat, (∃ t, t < (bitS m i).n ∧ ((bitS m i).g t).1 = (k : Int)) ↔ k < i ∧ m.testBit k = true
  | 0, k => ⟨fun ⟨t, h, _⟩ => absurd h (Nat.not_lt_zero t), fun h => absurd h.1 (Nat.not_lt_zero k)⟩
  | i + 1, k => by
    have ih := bitS_mem m i k
    have bd := bitS_bd m i
    unfold bitS
    cases hb : m.testBit i with
    | true =>
      rw [cond_true, snoc_n]
      constructor
      · rintro ⟨t, h1, h2⟩
        by_cases e : t < (bitS m i).n
        · rw [snoc_lt e] at h2
          have := ih.1 ⟨t, e, h2⟩
          exact ⟨by omega, this.2⟩
        · obtain rfl : t = (bitS m i).n := by omega
          rw [snoc_at] at h2
          have h2 : (i : Int) = (k : Int) := h2
          obtain rfl : i = k := by omega
          exact ⟨by omega, hb⟩
      · rintro ⟨h1, h2⟩
        by_cases e : k = i
        · subst e
          exact ⟨_, Nat.lt_succ_self _, by rw [snoc_at]⟩
        · obtain ⟨t, t1, t2⟩ := ih.2 ⟨by omega, h2⟩
          exact ⟨t, by omega, by rw [snoc_lt t1]; exact t2⟩
    | false =>
      rw [cond_false]
      constructor
      · intro h
        have := ih.1 h
        exact ⟨by omega, this.2⟩
      · rintro ⟨h1, h2⟩
        refine ih.2 ⟨?_, h2⟩
        by_cases e : k = i
        · subst e; rw [hb] at h2; cases h2
        · omega
def Sam (o p : rowI) : Prop := o.n = p.n ∧ ∀ j, j < o.n → p.g j = o.g j
theorem Sam.symm {o p : rowI} (h : Sam o p) : Sam p o := ⟨h.1.symm, fun j hj => (h.2 j (by have := h.1; omega)).symm⟩
theorem Sam.trans {o p q : rowI} (h : Sam o p) (k : Sam p q) : Sam o q := ⟨h.1.trans k.1, fun j hj => (k.2 j (by have := h.1; omega)).trans (h.2 j hj)⟩
theorem Sam.cod {o p : rowI} (h : Sam o p) : cod p p.n = cod o o.n := by
  rw [← h.1]; exact cod_eq fun j hj => by rw [h.2 j hj]
theorem bitS_inj {i m m' : Nat} (h : m < 2 ^ i) (h' : m' < 2 ^ i) (hs : Sam (bitS m i) (bitS m' i)) : m = m' := by
  refine Nat.eq_of_testBit_eq fun k => ?_
  by_cases hk : k < i
  · have a := bitS_mem m i k
    have b := bitS_mem m' i k
    have : m.testBit k = true ↔ m'.testBit k = true := by
      constructor
      · intro h
        obtain ⟨t, t1, t2⟩ := a.2 ⟨hk, h⟩
        exact (b.1 ⟨t, by rw [← hs.1]; exact t1, by rw [hs.2 t t1]; exact t2⟩).2
      · intro h
        obtain ⟨t, t1, t2⟩ := b.2 ⟨hk, h⟩
        rw [← hs.1] at t1
        exact (a.1 ⟨t, t1, by rw [← hs.2 t t1]; exact t2⟩).2
    cases e : m.testBit k <;> cases e' : m'.testBit k <;> simp_all
  · have p : 2 ^ i ≤ 2 ^ k := Nat.pow_le_pow_right (by omega) (by omega)
    rw [Nat.testBit_lt_two_pow (Nat.lt_of_lt_of_le h p), Nat.testBit_lt_two_pow (Nat.lt_of_lt_of_le h' p)]
/-- Rising lists of numbers below another one. -/
structure IncU (i : Nat) (u : rowI) : Prop where
  bd : ∀ t, t < u.n → 0 ≤ (u.g t).1 ∧ (u.g t).1 < (i : Int)
  inc : ∀ s t, s < t → t < u.n → (u.g s).1 < (u.g t).1
theorem bitS_ok (m i : Nat) : IncU i (bitS m i) := ⟨bitS_bd m i, bitS_inc m i⟩
theorem bitS_hi {m i : Nat} (h : m < 2 ^ i) : ∀ k, k ≤ i → bitS (m + 2 ^ i) k = bitS m k
  | 0, _ => rfl
  | k + 1, hk => by
    unfold bitS
    rw [bitS_hi h k (by omega), Nat.add_comm, Nat.testBit_two_pow_add_gt (by omega)]
theorem IncU.bits : ∀ (i : Nat) (u : rowI), IncU i u → ∃ m, m < 2 ^ i ∧ Sam u (bitS m i)
  | 0, u, h => ⟨0, by decide, by
      have : u.n = 0 := by
        by_cases e : u.n = 0
        · exact e
        · have := h.bd 0 (by omega); omega
      exact ⟨this, fun j hj => by omega⟩⟩
  | i + 1, u, h => by
    by_cases hl : 0 < u.n ∧ (u.g (u.n - 1)).1 = (i : Int)
    · obtain ⟨h0, hl⟩ := hl
      have hu : IncU i ⟨u.n - 1, u.g⟩ := ⟨fun t (ht : t < u.n - 1) => ⟨(h.bd t (by omega)).1, by rw [← hl]; exact h.inc t (u.n - 1) ht (by omega)⟩, fun s t hs (ht : t < u.n - 1) => h.inc s t hs (by omega)⟩
      obtain ⟨m, m1, m2⟩ := IncU.bits i _ hu
      refine ⟨m + 2 ^ i, by rw [Nat.pow_succ]; omega, ?_⟩
      have hb : (m + 2 ^ i).testBit i = true := by
        rw [Nat.add_comm, Nat.testBit_two_pow_add_eq, Nat.testBit_lt_two_pow m1]; rfl
      have e : bitS (m + 2 ^ i) (i + 1) = snoc (bitS m i) ((i : Int), ()) := by
        rw [bitS, hb, cond_true, bitS_hi m1 i (Nat.le_refl _)]
      rw [e]
      have m3 : u.n - 1 = (bitS m i).n := m2.1
      refine ⟨by rw [snoc_n]; omega, fun j hj => ?_⟩
      by_cases q : j < (bitS m i).n
      · rw [snoc_lt q]; exact m2.2 j (show j < u.n - 1 by omega)
      · obtain rfl : j = (bitS m i).n := by omega
        rw [snoc_at, ← m3]
        exact Prod.ext hl.symm rfl
    · have hu : IncU i u := ⟨fun t ht => ⟨(h.bd t ht).1, by
        have h1 := (h.bd t ht).2
        by_cases q : t = u.n - 1
        · subst q
          have : ¬ (u.g (u.n - 1)).1 = (i : Int) := fun e => hl ⟨by omega, e⟩
          omega
        · have := h.inc t (u.n - 1) (by omega) (by omega)
          have := (h.bd (u.n - 1) (by omega)).2
          omega⟩, h.inc⟩
      obtain ⟨m, m1, m2⟩ := IncU.bits i u hu
      refine ⟨m, by rw [Nat.pow_succ]; omega, ?_⟩
      have e : bitS m (i + 1) = bitS m i := by rw [bitS, Nat.testBit_lt_two_pow m1, cond_false]
      rw [e]; exact m2
theorem IncU.len {i : Nat} {u : rowI} (h : IncU i u) : u.n ≤ i := by
  obtain ⟨m, _, h2⟩ := IncU.bits i u h
  rw [h2.1]; exact bitS_n m i
theorem IncU.dig {i : Nat} {u : rowI} (h : IncU i u) (hi : i ≤ 10) : digB u := fun j hj => by have := h.bd j hj; omega
end Go.Dm

/- WatchBests. -/
import Derived.Test.YtiapgkbnjpkagaaL10WP13
set_option linter.unusedVariables false
set_option linter.unusedSimpArgs false
namespace Go.Dm
set_option maxRecDepth 100000

theorem catSl_n {α : Type} (a b : Sl α) : (catSl a b).n = a.n + b.n := rfl
theorem catSl_lt {α : Type} {a b : Sl α} {i : Nat} (h : i < a.n) : (catSl a b).g i = a.g i := by
  have : Nat.blt i a.n = true := by rw [Nat.blt_eq]; exact h
  simp [catSl, this]
theorem catSl_ge {α : Type} {a b : Sl α} {i : Nat} (h : a.n ≤ i) : (catSl a b).g i = b.g (i - a.n) := by
  have : Nat.blt i a.n = false := by
    cases hb : Nat.blt i a.n with
    | false => rfl
    | true => rw [Nat.blt_eq] at hb; omega
  simp [catSl, this]

abbrev listT : Type := Sl (rowI × Unit)
def Srt (L : listT) : Prop := ∀ i j, i < j → j < L.n → (L.g i).1.n = (L.g j).1.n → cod (L.g i).1 (L.g i).1.n < cod (L.g j).1 (L.g j).1.n
def HasL (L : listT) (p : rowI) : Prop := ∃ j, j < L.n ∧ Sam (L.g j).1 p
structure Ords (r : wrT) (o : rowI) (L : listT) : Prop where
  all : ∀ i, i < L.n → orderB r (L.g i).1 = true ∧ Beg o (L.g i).1
  srt : Srt L
  has : ∀ p, Beg o p → orderB r p = true → HasL L p
structure OrdM (r : wrT) (o : rowI) (f j : Nat) (L : listT) : Prop where
  n1 : 1 ≤ L.n
  n2 : L.n ≤ 1 + j * siz f
  z : L.g 0 = (o, ())
  all : ∀ i, 1 ≤ i → i < L.n → orderB r (L.g i).1 = true ∧ Beg o (L.g i).1 ∧ o.n < (L.g i).1.n ∧ ((L.g i).1.g o.n).1 < (j : Int)
  srt : Srt L
  has : ∀ p, Beg o p → orderB r p = true → o.n < p.n → (p.g o.n).1 < (j : Int) → HasL L p
def SeaR (r : wrT) (f : Nat) (F : (a84).den → Option (r84).den) : Prop :=
  ∀ o, orderB r o = true → r.2.1.n < f + o.n → siz f ≤ 2147483648 → ∃ L : listT, F (r, (o, ())) = some (L, ()) ∧ L.n ≤ siz f ∧ Ords r o L
theorem snoc_beg (o : rowI) (x : Int × Unit) : Beg o (snoc o x) := ⟨by rw [snoc_n]; omega, fun _ h => snoc_lt h⟩
theorem orders_loop {r : wrT} (hr : roundB r = true) {f : Nat} {F : (a84).den → Option (r84).den} (hF : SeaR r f F) {o : rowI} (ho : orderB r o = true) (hf : r.2.1.n < f + 1 + o.n) (hs : siz (f + 1) ≤ 2147483648) :
    ∃ L, L84x0 F (no_index (o, ((), (r, ())))) (no_index ((⟨1, fun i => List.getD [(o, ())] i (o, ())⟩ : Sl _), ((0 : Int), ()))) = .exit 0 (L, ()) ∧ OrdM r o f r.2.1.n L := by
  have hm := round_n hr
  have hon := order_len ho (by omega)
  have hs' : 1 + 6 * siz f ≤ 2147483648 := hs
  unfold L84x0
  have := iterQ_rel (ps := vs84x0) (wy := wv84x0) (step := S84x0 F (no_index (o, ((), (r, ()))))) (N := big)
    (P := fun j s => ∃ L : listT, s = (L, ((j : Int), ())) ∧ OrdM r o f j L)
    (q := fun s => .exit 0 (s.1, ())) r.2.1.n (big_lt (by omega)) ?_ ?_ ((⟨1, fun i => List.getD [(o, ())] i (o, ())⟩ : Sl _), ((0 : Int), ())) ⟨_, rfl, Nat.le_refl _, by simp, rfl, fun i h1 h2 => by exact absurd h2 (by show ¬ i < 1; omega), fun i j h1 h2 => by exact absurd h2 (by show ¬ j < 1; omega), fun p h1 h2 h3 h4 => absurd h4 (by have := (order_bd hr h2 h3).1; omega)⟩
  · obtain ⟨s', ⟨L, rfl, hM⟩, e⟩ := this
    exact ⟨L, e, hM⟩
  · rintro j s hj ⟨L, rfl, hM⟩
    have hmul : j * siz f + siz f ≤ 6 * siz f := by
      have : (j + 1) * siz f ≤ 6 * siz f := Nat.mul_le_mul_right _ (by omega)
      rw [Nat.succ_mul] at this; exact this
    have hsz := hM.n2
    have e8 : o.n * 8 ≤ 140737488355328 := by omega
    have e9 : (o.n + 1) * 8 ≤ 140737488355328 := by omega
    have hx := snoc_beg o ((j : Int), ())
    have hat : (snoc o ((j : Int), ())).g o.n = ((j : Int), ()) := snoc_at _ _
    have e46 : M46 (no_index (r, ((catSl o (⟨1, fun i => List.getD [((j : Int), ())] i ((j : Int), ())⟩ : Sl (Ty.den T0))), ()))) = some (orderB r (snoc o ((j : Int), ())), ()) := M46xe r (snoc o ((j : Int), ())) (by rw [snoc_n]; omega)
    unfold S84x0 Z84x0
    simp only [lt_ok hj, decide_true, cond_true, e8, e9, W_nat hj (by omega : r.2.1.n ≤ 140737488355328)]
    rw [e46]
    simp only [cl_some]
    cases hq : orderB r (snoc o ((j : Int), ())) with
    | false =>
      refine ⟨_, rfl, L, rfl, hM.n1, by rw [Nat.succ_mul]; omega, hM.z, fun i h1 h2 => ?_, hM.srt, fun p h1 h2 h3 h4 => ?_⟩
      · have := hM.all i h1 h2
        exact ⟨this.1, this.2.1, this.2.2.1, by omega⟩
      · by_cases e : (p.g o.n).1 < (j : Int)
        · exact hM.has p h1 h2 h3 e
        · have e' : p.g o.n = ((j : Int), ()) := by
            have : (p.g o.n).1 = (j : Int) := by omega
            rw [← this]
          have hb : Beg (snoc o ((j : Int), ())) p := ⟨by rw [snoc_n]; omega, fun k hk => by
            rw [snoc_n] at hk
            by_cases hk' : k < o.n
            · rw [h1.2 k hk', hx.2 k hk']
            · obtain rfl : k = o.n := by omega
              rw [hat, e']⟩
          rw [hb.order h2] at hq; cases hq
    | true =>
      obtain ⟨L1, e2, s2, hO⟩ := hF (snoc o ((j : Int), ())) hq (by rw [snoc_n]; omega) (by omega)
      have e2' : F (no_index (r, ((catSl o (⟨1, fun i => List.getD [((j : Int), ())] i ((j : Int), ())⟩ : Sl (Ty.den T0))), ()))) = some (L1, ()) := e2
      have e24 : (L.n + L1.n) * 24 ≤ 140737488355328 := by omega
      simp only [cond_true]
      rw [e2']
      simp only [cl_some, e24, decide_true, cond_true]
      have hn1 := hM.n1
      have hall : ∀ i, i < L1.n → orderB r (L1.g i).1 = true ∧ Beg o (L1.g i).1 ∧ o.n < (L1.g i).1.n ∧ (L1.g i).1.g o.n = ((j : Int), ()) := fun i hi => by
        have := hO.all i hi
        have h3 := this.2.1
        rw [snoc_n] at h3
        exact ⟨this.1, hx.trans this.2, by omega, by rw [this.2.2 o.n (by rw [snoc_n]; omega), hat]⟩
      refine ⟨_, rfl, catSl L L1, rfl, by rw [catSl_n]; omega, by rw [catSl_n, Nat.succ_mul]; omega, by rw [catSl_lt (by omega)]; exact hM.z, fun i h1 h2 => ?_, fun i k hik hk hn => ?_, fun p h1 h2 h3 h4 => ?_⟩
      · rw [catSl_n] at h2
        by_cases e : i < L.n
        · rw [catSl_lt e]
          have := hM.all i h1 e
          exact ⟨this.1, this.2.1, this.2.2.1, by omega⟩
        · rw [catSl_ge (by omega)]
          have := hall (i - L.n) (by omega)
          exact ⟨this.1, this.2.1, this.2.2.1, by rw [this.2.2.2]; show (j : Int) < _; omega⟩
      · rw [catSl_n] at hk
        by_cases e : k < L.n
        · rw [catSl_lt e, catSl_lt (by omega : i < L.n)] at hn ⊢
          exact hM.srt i k hik e hn
        · rw [catSl_ge (by omega : L.n ≤ k)] at hn ⊢
          have hk1 := hall (k - L.n) (by omega)
          by_cases e' : i < L.n
          · rw [catSl_lt e'] at hn ⊢
            cases i with
            | zero =>
              rw [hM.z] at hn
              have hn' : o.n = (L1.g (k - L.n)).1.n := hn
              omega
            | succ i =>
              have hi1 := hM.all (i + 1) (by omega) e'
              have hd1 := order_dig hr hi1.1
              have hd2 := order_dig hr hk1.1
              have hd2' : ∀ q, q < (L.g (i + 1)).1.n → 0 ≤ ((L1.g (k - L.n)).1.g q).1 ∧ ((L1.g (k - L.n)).1.g q).1 < 10 := fun q hq => hd2 q (by omega)
              have := cod_lt hd1 hd2' (k := o.n) (fun q hq => by rw [hi1.2.1.2 q hq, hk1.2.1.2 q hq]) (by rw [hk1.2.2.2]; exact hi1.2.2.2) hi1.2.2.1 (Nat.le_refl _)
              rw [← hn]; exact this
          · rw [catSl_ge (by omega : L.n ≤ i)] at hn ⊢
            exact hO.srt (i - L.n) (k - L.n) (by omega) (by omega) hn
      · by_cases e : (p.g o.n).1 < (j : Int)
        · obtain ⟨q, q1, q2⟩ := hM.has p h1 h2 h3 e
          exact ⟨q, by rw [catSl_n]; omega, by rw [catSl_lt q1]; exact q2⟩
        · have e' : p.g o.n = ((j : Int), ()) := by
            have : (p.g o.n).1 = (j : Int) := by omega
            rw [← this]
          have hb : Beg (snoc o ((j : Int), ())) p := ⟨by rw [snoc_n]; omega, fun k hk => by
            rw [snoc_n] at hk
            by_cases hk' : k < o.n
            · rw [h1.2 k hk', hx.2 k hk']
            · obtain rfl : k = o.n := by omega
              rw [hat, e']⟩
          obtain ⟨q, q1, q2⟩ := hO.has p hb h2
          exact ⟨L.n + q, by rw [catSl_n]; omega, by rw [catSl_ge (by omega), show L.n + q - L.n = q by omega]; exact q2⟩
  · rintro s ⟨L, rfl, hM⟩
    unfold S84x0 Z84x0
    simp
theorem orders_e {r : wrT} (hr : roundB r = true) : ∀ f, SeaR r f (F84 f)
  | 0 => fun o ho hf hs => by
    have hm := round_n hr
    have := order_len ho (by omega)
    omega
  | f + 1 => fun o ho hf hs => by
    have hm := round_n hr
    obtain ⟨L, e, hM⟩ := orders_loop hr (orders_e hr f) ho hf hs
    have hn1 := hM.n1
    refine ⟨L, ?_, ?_, ?_, hM.srt, fun p h1 h2 => ?_⟩
    · show U84 (F84 f) (r, (o, ())) = _
      unfold U84 Q84
      exact congrArg (fun (q : LQ wv84x0) => onExit q 0 (fun (u2 : (patsTy (wayP wv84x0 0)).den) => (some u2 : Option (r84).den)) none) e
    · show L.n ≤ 1 + 6 * siz f
      have := hM.n2
      have : r.2.1.n * siz f ≤ 6 * siz f := Nat.mul_le_mul_right _ (by omega)
      omega
    · intro i hi
      cases i with
      | zero => rw [hM.z]; exact ⟨ho, Nat.le_refl _, fun _ _ => rfl⟩
      | succ i =>
        have := hM.all (i + 1) (by omega) hi
        exact ⟨this.1, this.2.1⟩
    · by_cases e : o.n < p.n
      · exact hM.has p h1 h2 e (order_bd hr h2 e).2.1
      · exact ⟨0, by omega, by rw [hM.z]; exact ⟨by have := h1.1; show o.n = p.n; omega, h1.2⟩⟩
theorem M43xe {r : wrT} {o : rowI} (hr : roundB r = true) (ho : orderB r o = true) (hs : o.n ≤ 10) : M43 (no_index (r, (o, ()))) = some (endH r o, ()) := by
  unfold M43 Q43
  refine (congrArg (fun q => cl _ q _ _) (M50xe hr ho hs)).trans ?_
  rfl
/-- The best one of the first of these. -/
structure BestL (r : wrT) (L : listT) (j : Nat) (b : rowI) : Prop where
  ord : orderB r b = true
  sure : sureB r b = true
  top : ∀ k, k < j → sureB r (L.g k).1 = true → ¬ Bet (L.g k).1.n (endH r (L.g k).1) (cod (L.g k).1 (L.g k).1.n) b.n (endH r b) (cod b b.n)
  src : b.n = 0 ∨ ∃ k, k < j ∧ (L.g k).1 = b
theorem Bet.trans {n1 n2 n3 : Nat} {e1 e2 e3 c1 c2 c3 : Int} (h : Bet n1 e1 c1 n2 e2 c2) (h' : Bet n2 e2 c2 n3 e3 c3) : Bet n1 e1 c1 n3 e3 c3 := by
  unfold Bet at *; omega
theorem Bet.irr {n : Nat} {e c : Int} : ¬ Bet n e c n e c := by unfold Bet; omega
theorem M41xe {r : wrT} (hr : roundB r = true) : ∃ b, M41 (no_index (r, ())) = some (b, ()) ∧ IsBest r b (endH r b) := by
  have hm := round_n hr
  have ho : orderB r s0I = true := rfl
  obtain ⟨L, e1, s1, hO⟩ := orders_e hr 12 s0I ho (by show r.2.1.n < 12 + 0; omega) (by decide)
  have hsz : siz 12 = 435356467 := by decide
  rw [hsz] at s1
  have := iterQ_rel (ps := vs41x0) (wy := wv41x0) (step := S41x0 (no_index ((), (L, (r, ()))))) (N := big)
    (P := fun j s => ∃ b : rowI, s = (b, ((j : Int), ())) ∧ BestL r L j b)
    (q := fun s => .exit 0 (s.1, ())) L.n (big_lt (by omega)) ?_ ?_ ((⟨0, fun i => ((0 : Int), ())⟩ : Sl _), ((0 : Int), ())) ⟨s0I, rfl, ho, rfl, fun k hk => absurd hk (Nat.not_lt_zero _), .inl rfl⟩
  · obtain ⟨s', ⟨b, rfl, hB⟩, e⟩ := this
    refine ⟨b, ?_, hB.ord, hB.sure, rfl, fun p h1 h2 => ?_⟩
    · unfold M41 Q41
      have e1' : M84 (no_index (r, ((⟨0, fun i => ((0 : Int), ())⟩ : Sl _), ()))) = some (L, ()) := e1
      rw [e1']
      refine (cl_some _ _ _ _).trans ?_
      exact congrArg (fun (q : LQ wv41x0) => onExit q 0 (fun (u4 : (patsTy (wayP wv41x0 0)).den) => (some u4 : Option (r41).den)) none) e
    · obtain ⟨k, k1, k2⟩ := hO.has p ⟨Nat.zero_le _, fun q hq => absurd hq (Nat.not_lt_zero _)⟩ h1
      have := hB.top k k1 (by rw [← k2.sure]; exact h2)
      rw [← k2.endH, ← k2.cod, k2.1] at this
      exact this
  · rintro j s hj ⟨b, rfl, hB⟩
    have ha := hO.all j hj
    have hlj := order_len ha.1 (by omega)
    have hlb := order_len hB.ord (by omega)
    have stay : (sureB r (L.g j).1 = true → ¬ Bet (L.g j).1.n (endH r (L.g j).1) (cod (L.g j).1 (L.g j).1.n) b.n (endH r b) (cod b b.n)) → BestL r L (j + 1) b := fun hnb =>
      ⟨hB.ord, hB.sure, fun k hk hsk => by
        by_cases e : k < j
        · exact hB.top k e hsk
        · obtain rfl : k = j := by omega
          exact hnb hsk, by
        rcases hB.src with h | ⟨k, h1, h2⟩
        · exact .inl h
        · exact .inr ⟨k, by omega, h2⟩⟩
    have go : sureB r (L.g j).1 = true → Bet (L.g j).1.n (endH r (L.g j).1) (cod (L.g j).1 (L.g j).1.n) b.n (endH r b) (cod b b.n) → BestL r L (j + 1) (L.g j).1 := fun hsj hbj =>
      ⟨ha.1, hsj, fun k hk hsk hbk => by
        by_cases e : k < j
        · exact hB.top k e hsk (hbk.trans hbj)
        · obtain rfl : k = j := by omega
          exact Bet.irr hbk, .inr ⟨j, by omega, rfl⟩⟩
    have e52 : M52 (no_index (r, L.g j)) = some (sureB r (L.g j).1, ()) := M52xe (o := (L.g j).1) hr ha.1 (by omega)
    have e43 : M43 (no_index (r, L.g j)) = some (endH r (L.g j).1, ()) := M43xe (o := (L.g j).1) hr ha.1 (by omega)
    have e43b := M43xe (o := b) hr hB.ord (by omega)
    unfold S41x0 Z41x0
    simp only [lt_ok hj, idx_ok hj, decide_true, cond_true, and_self, Int.toNat_natCast, W_nat hj (by omega : L.n ≤ 140737488355328)]
    rw [e52]
    simp only [cl_some]
    cases hsj : sureB r (L.g j).1 with
    | false => exact ⟨_, rfl, b, rfl, stay fun h => by rw [hsj] at h; cases h⟩
    | true =>
      simp only [cond_true]
      by_cases c1 : b.n < (L.g j).1.n
      · have c1' : (((b.n : Nat) : Int) < (((L.g j).1.n : Nat) : Int)) := by omega
        simp only [c1', decide_true, cond_true]
        exact ⟨_, rfl, (L.g j).1, rfl, go hsj (.inl c1)⟩
      have c1' : ¬ (((b.n : Nat) : Int) < (((L.g j).1.n : Nat) : Int)) := by omega
      by_cases c2 : (L.g j).1.n = b.n
      case neg =>
        have c2' : ¬ ((((L.g j).1.n : Nat) : Int) = ((b.n : Nat) : Int)) := by omega
        simp only [c1', c2', decide_false, cond_false]
        exact ⟨_, rfl, b, rfl, stay fun _ h => by unfold Bet at h; omega⟩
      have c2' : decide ((((L.g j).1.n : Nat) : Int) = ((b.n : Nat) : Int)) = true := decide_eq_true (by omega)
      have c1'' : decide (((b.n : Nat) : Int) < (((L.g j).1.n : Nat) : Int)) = false := decide_eq_false c1'
      simp only [c1'', c2', cond_true, cond_false]
      rw [e43, e43b]
      simp only [cl_some]
      by_cases c3 : endH r (L.g j).1 < endH r b
      · simp only [c3, decide_true, cond_true]
        exact ⟨_, rfl, (L.g j).1, rfl, go hsj (.inr ⟨c2, .inl c3⟩)⟩
      · simp only [c3, decide_false, cond_false]
        refine ⟨_, rfl, b, rfl, stay fun _ h => ?_⟩
        have h' : cod (L.g j).1 (L.g j).1.n < cod b b.n := by unfold Bet at h; omega
        rcases hB.src with h0 | ⟨k, k1, k2⟩
        · rw [c2, h0] at h'
          exact absurd h' (by show ¬ ((0 : Int) < 0); omega)
        · have := hO.srt k j k1 hj (by rw [k2]; omega)
          rw [k2] at this
          omega
  · rintro s ⟨b, rfl, hB⟩
    unfold S41x0 Z41x0
    simp
theorem IsBest.sam {r : wrT} (hr : roundB r = true) {a b : rowI} {d e : Int} (ha : IsBest r a d) (hb : IsBest r b e) : Sam a b ∧ d = e := by
  have h1 := ha.top b hb.ord hb.sure
  have h2 := hb.top a ha.ord ha.sure
  rw [← hb.fin] at h1
  rw [← ha.fin] at h2
  have hn : a.n = b.n := by unfold Bet at h1 h2; omega
  have he : d = e := by unfold Bet at h1 h2; omega
  have hc : cod a a.n = cod b b.n := by unfold Bet at h1 h2; omega
  rw [← hn] at hc
  have := cod_inj (order_dig hr ha.ord) (fun j hj => order_dig hr hb.ord j (by omega)) (Nat.le_refl _) hc
  exact ⟨⟨hn, fun j hj => by
    have := this j hj
    exact Prod.ext this.symm rfl⟩, he⟩
theorem M42xsam {a b : rowI} (h : a.n ≤ 140737488355328) (hs : Sam a b) : M42 (no_index (a, (b, ()))) = some (true, ()) := by
  have hn := hs.1
  have : L42x0 (no_index (a, (b, ()))) (no_index ((0 : Int), ())) = .exit 0 () := by
    unfold L42x0
    refine iterQ_steps (ps := vs42x0) a.n big (fun j => ((j : Int), ())) (big_lt h) (fun j hj => ?_) ?_
    · have hj' : j < b.n := by omega
      unfold S42x0 Z42x0
      simp only [lt_ok hj, idx_ok hj, idx_ok hj', W_nat hj h, hs.2 j hj, decide_true, cond_true, and_self, Int.toNat_natCast]
      rfl
    · unfold S42x0 Z42x0
      simp
  have hn' : (((a.n : Nat) : Int) = ((b.n : Nat) : Int)) := by omega
  unfold M42 Q42
  simp only [this]
  simp [hn]
theorem law10' (r : wrT) : M10 (no_index (r, ())) = some (true, ()) := by
  unfold M10 Q10
  simp only [M38xe, cl_some, known_M]
  cases hb : briefB r with
  | false => rfl
  | true =>
  have h := briefB_t hb
  simp only [M39xe h, cl_some, Bool.not_true, cond_false]
  cases hr : roundB r with
  | false =>
    have : M40 (no_index (r, ())) = some ((⟨0, fun i => ((0 : Int), ())⟩ : Sl _), ((0 : Int), ((2 : Int), ()))) := by
      unfold M40 Q40
      simp only [M77xe h, hr, cl_some]
      rfl
    rw [this]
    rfl
  | true =>
  by_cases h4 : (4 : Int) < ((r.2.1.n : Nat) : Int)
  case pos => simp [h4]
  obtain ⟨l, d, e1, hB⟩ := M40xe hr h
  obtain ⟨b, e2, hB'⟩ := M41xe hr
  obtain ⟨hs, he⟩ := hB.sam hr hB'
  have hm := round_n hr
  have hl := order_len hB.ord (by omega)
  have hlb := order_len hB'.ord (by omega)
  have e42 : M42 (no_index (l, (b, ()))) = some (true, ()) := M42xsam (by omega) hs
  have e43 : M43 (no_index (r, (b, ()))) = some (endH r b, ()) := M43xe hr hB'.ord (by omega)
  simp only [h4, decide_false, cond_true, cond_false, Bool.not_true, e1, e2, cl_some, decide_true]
  refine (congrArg (fun q => cl _ q _ _) e42).trans ?_
  simp only [cl_some, cond_true]
  refine (congrArg (fun q => cl _ q _ _) e43).trans ?_
  simp only [cl_some, he, decide_true, cond_true]
theorem law10 (x : (a10).den) : M10 x = some (true, ()) := by
  obtain ⟨r, ⟨⟩⟩ := x
  exact law10' r
end Go.Dm

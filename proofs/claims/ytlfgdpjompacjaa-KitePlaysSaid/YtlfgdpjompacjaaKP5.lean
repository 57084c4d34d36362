/- The theorem of marks. -/
import Derived.Test.YtlfgdpjompacjaaKP4
set_option linter.unusedVariables false
set_option linter.unusedSimpArgs false
namespace Go.Dm
set_option maxRecDepth 100000

def okTemp (t : traceT) (u : rowI) : Prop := ∀ j, j < t.2.2.1.n → -900 ≤ (u.g j).1 ∧ (u.g j).1 ≤ 500
def riseZ (t : traceT) (u : rowI) (j : Nat) : Int := Int.tdiv (((5464 : Int) + (u.g j).1 + (u.g (j + 1)).1) * ((t.2.2.1.g j).1 - (t.2.2.1.g (j + 1)).1) * 2927) (1000 * ((t.2.2.1.g j).1 + (t.2.2.1.g (j + 1)).1))

theorem rise_bd {a b p q : Int} (ha : -900 ≤ a ∧ a ≤ 500) (hb : -900 ≤ b ∧ b ≤ 500) (hq : 1 ≤ q ∧ q < p ∧ p ≤ 99999) :
    0 ≤ (5464 + a + b) * (p - q) ∧ (5464 + a + b) * (p - q) ≤ 6464 * 99999 :=
  ⟨Int.mul_nonneg (by omega) (by omega), Int.mul_le_mul (by omega) (by omega) (by omega) (by omega)⟩

theorem press_dec {t : traceT} (h : traceB t = true) {j : Nat} (hj : j + 1 < t.2.2.1.n) : 1 ≤ (t.2.2.1.g (j + 1)).1 ∧ (t.2.2.1.g (j + 1)).1 < (t.2.2.1.g j).1 ∧ (t.2.2.1.g j).1 ≤ 99999 := by
  obtain ⟨h1, _⟩ := traceB_t h
  have a := mark_bd h1 j (by omega)
  have b := h1 (j + 1) hj
  simp only [markC, Bool.and_eq_true] at b
  have b := inB_t b.1
  simp only [bef] at b
  exact ⟨b.1, by omega, a.2⟩

theorem rise_e {t : traceT} {u : rowI} (h : traceB t = true) (hu : okTemp t u) {j : Nat} (hj : j + 1 < t.2.2.1.n) :
    rise t u j = riseZ t u j ∧ 0 ≤ riseZ t u j ∧ riseZ t u j ≤ 2000000000000 := by
  have hp := press_dec h hj
  have ha := hu j (by omega)
  have hb := hu (j + 1) hj
  unfold rise riseZ
  generalize (u.g j).1 = a at *
  generalize (u.g (j + 1)).1 = b at *
  generalize (t.2.2.1.g j).1 = p at *
  generalize (t.2.2.1.g (j + 1)).1 = q at *
  obtain ⟨m1, m2⟩ := rise_bd ha hb hp
  have w1 : W (5464 + a) = 5464 + a := W_id ⟨by omega, by omega⟩
  have w2 : W (5464 + a + b) = 5464 + a + b := W_id ⟨by omega, by omega⟩
  have w3 : W (p - q) = p - q := W_id ⟨by omega, by omega⟩
  have w4 : W (p + q) = p + q := W_id ⟨by omega, by omega⟩
  have w5 : W (1000 * (p + q)) = 1000 * (p + q) := W_id ⟨by omega, by omega⟩
  rw [w1, w2, w3, w4, w5]
  generalize (5464 + a + b) * (p - q) = z at *
  have w6 : W z = z := W_id ⟨by omega, by omega⟩
  have w7 : W (z * 2927) = z * 2927 := W_id ⟨by omega, by omega⟩
  rw [w6, w7]
  have n1 : 0 ≤ Int.tdiv (z * 2927) (1000 * (p + q)) := tdiv_nn (by omega) (by omega)
  have n2 : Int.tdiv (z * 2927) (1000 * (p + q)) ≤ z * 2927 := by
    refine tdiv_le (by omega) (by omega) ?_
    have : z * 2927 * 1 ≤ z * 2927 * (1000 * (p + q)) := Int.mul_le_mul_of_nonneg_left (by omega) (by omega)
    omega
  rw [W_id ⟨by omega, by omega⟩]
  exact ⟨rfl, n1, by omega⟩

theorem hs_bd {t : traceT} {b : Int} {u : rowI} (h : traceB t = true) (hu : okTemp t u) (hb : -5000 ≤ b ∧ b ≤ 5000) : ∀ j : Nat, j < t.2.2.1.n → -5000 ≤ hs t b u j ∧ hs t b u j ≤ 5000 + (j : Int) * 2000000000000
  | 0, _ => by simp only [hs]; omega
  | j + 1, hj => by
    have ih := hs_bd h hu hb j (by omega)
    obtain ⟨r1, r2, r3⟩ := rise_e h hu hj
    obtain ⟨_, _, _, h8⟩ := traceB_t h
    simp only [hs, r1]
    have : (j : Int) ≤ 7 := by omega
    rw [W_id ⟨by omega, by omega⟩]
    omega
theorem hs_succ {t : traceT} {b : Int} {u : rowI} (h : traceB t = true) (hu : okTemp t u) (hb : -5000 ≤ b ∧ b ≤ 5000) {j : Nat} (hj : j + 1 < t.2.2.1.n) : hs t b u (j + 1) = hs t b u j + riseZ t u j := by
  have ih := hs_bd h hu hb j (by omega)
  obtain ⟨r1, r2, r3⟩ := rise_e h hu hj
  obtain ⟨_, _, _, h8⟩ := traceB_t h
  have : (j : Int) ≤ 7 := by omega
  simp only [hs, r1]
  rw [W_id ⟨by omega, by omega⟩]
theorem hs_step {t : traceT} {b : Int} {u : rowI} (h : traceB t = true) (hu : okTemp t u) (hb : -5000 ≤ b ∧ b ≤ 5000) {j : Nat} (hj : j + 1 < t.2.2.1.n) : hs t b u j ≤ hs t b u (j + 1) := by
  rw [hs_succ h hu hb hj]
  have := (rise_e h hu hj).2.1
  omega
theorem hs_up {t : traceT} {b : Int} {u : rowI} (h : traceB t = true) (hu : okTemp t u) (hb : -5000 ≤ b ∧ b ≤ 5000) {i : Nat} : ∀ d : Nat, i + d < t.2.2.1.n → hs t b u i ≤ hs t b u (i + d)
  | 0, _ => Int.le_refl _
  | d + 1, hd => Int.le_trans (hs_up h hu hb d (by omega)) (hs_step h hu hb (j := i + d) (by omega))
theorem riseZ_mono {t : traceT} {u u' : rowI} (h : traceB t = true) (hu : okTemp t u) {j : Nat} (hj : j + 1 < t.2.2.1.n) (h1 : (u.g j).1 ≤ (u'.g j).1) (h2 : (u.g (j + 1)).1 ≤ (u'.g (j + 1)).1) : riseZ t u j ≤ riseZ t u' j := by
  have hp := press_dec h hj
  have ha := hu j (by omega)
  have hb := hu (j + 1) hj
  unfold riseZ
  refine tdiv_mono ⟨?_, ?_⟩ (by omega)
  · exact Int.mul_nonneg (Int.mul_nonneg (by omega) (by omega)) (by omega)
  · exact Int.mul_le_mul_of_nonneg_right (Int.mul_le_mul_of_nonneg_right (by omega) (by omega)) (by omega)
theorem hs_mono {t : traceT} {b b' : Int} {u u' : rowI} (h : traceB t = true) (hu : okTemp t u) (hu' : okTemp t u') (hb : -5000 ≤ b ∧ b ≤ b' ∧ b' ≤ 5000) (hl : ∀ j, j < t.2.2.1.n → (u.g j).1 ≤ (u'.g j).1) : ∀ j : Nat, j < t.2.2.1.n → hs t b u j ≤ hs t b' u' j
  | 0, _ => hb.2.1
  | j + 1, hj => by
    rw [hs_succ h hu ⟨hb.1, by omega⟩ hj, hs_succ h hu' ⟨by omega, hb.2.2⟩ hj]
    have := hs_mono h hu hu' hb hl j (by omega)
    have := riseZ_mono h hu hj (hl j (by omega)) (hl (j + 1) hj)
    omega

theorem temp_bd {t : traceT} (h : traceB t = true) {j : Nat} (hj : j < t.2.2.1.n) : -900 ≤ (t.2.2.1.g j).2.1 ∧ (t.2.2.1.g j).2.1 ≤ (t.2.2.1.g j).2.2.1 ∧ (t.2.2.1.g j).2.2.1 ≤ 500 := by
  have b := (traceB_t h).1 j hj
  simp only [markC, Bool.and_eq_true] at b
  exact spanB_t b.2
theorem cold_g (t : traceT) {j : Nat} (hj : j < t.2.2.1.n) : (cold t t.2.2.1.n).g j = ((t.2.2.1.g j).2.1, ()) := tab_g0 (s0 := e0) rfl hj
theorem warm_g (t : traceT) {j : Nat} (hj : j < t.2.2.1.n) : (warm t t.2.2.1.n).g j = (t.2.2.1.g j).2.2 := tab_g0 (s0 := e0) rfl hj
theorem cold_ok {t : traceT} (h : traceB t = true) : okTemp t (cold t t.2.2.1.n) := fun j hj => by
  rw [cold_g t hj]; have := temp_bd h hj; exact ⟨this.1, Int.le_trans this.2.1 this.2.2⟩
theorem warm_ok {t : traceT} (h : traceB t = true) : okTemp t (warm t t.2.2.1.n) := fun j hj => by
  rw [warm_g t hj]; have := temp_bd h hj; exact ⟨Int.le_trans this.1 this.2.1, this.2.2⟩
theorem marked_t {t : traceT} {b : Int} {u : rowI} (hk : markedB t b u = true) : u.n = t.2.2.1.n ∧ (∀ j, j < t.2.2.1.n → (t.2.2.1.g j).2.1 ≤ (u.g j).1 ∧ (u.g j).1 ≤ (t.2.2.1.g j).2.2.1) ∧ t.1 ≤ b ∧ b ≤ t.2.1 := by
  simp only [markedB, Bool.and_eq_true, decide_eq_true_eq] at hk
  obtain ⟨h1, h2, h3⟩ := hk
  refine ⟨h1, fun j hj => ?_, inB_t h3⟩
  have := List.all_eq_true.1 h2 j (by simp; omega)
  exact inB_t this
theorem marked_i {t : traceT} {b : Int} {u : rowI} (h1 : u.n = t.2.2.1.n) (h2 : ∀ j, j < t.2.2.1.n → (t.2.2.1.g j).2.1 ≤ (u.g j).1 ∧ (u.g j).1 ≤ (t.2.2.1.g j).2.2.1) (h3 : t.1 ≤ b ∧ b ≤ t.2.1) : markedB t b u = true := by
  simp only [markedB, Bool.and_eq_true, decide_eq_true_eq]
  refine ⟨h1, List.all_eq_true.2 fun j hj => ?_, decide_eq_true h3⟩
  exact decide_eq_true (h2 j (by simp at hj; omega))
theorem cold_marked {t : traceT} (h : traceB t = true) : markedB t t.1 (cold t t.2.2.1.n) = true :=
  marked_i (cold_n _ _) (fun j hj => by rw [cold_g t hj]; exact ⟨Int.le_refl _, (temp_bd h hj).2.1⟩) ⟨Int.le_refl _, (traceB_t h).2.1.2.1⟩
theorem warm_marked {t : traceT} (h : traceB t = true) : markedB t t.2.1 (warm t t.2.2.1.n) = true :=
  marked_i (warm_n _ _) (fun j hj => by rw [warm_g t hj]; exact ⟨(temp_bd h hj).2.1, Int.le_refl _⟩) ⟨(traceB_t h).2.1.2.1, Int.le_refl _⟩

theorem round13 {h : Int} {lv : rowS} {m x y : rowI} {can surely i : Int} {n j : Nat} (hj : j < n) (hn : n ≤ 100) (hl : lv.n = n) (hm : m.n = n) (hx : x.n = n) (hy : y.n = n)
    (e : lv.g j = ((x.g j).1, y.g j)) (h1 : (x.g j).1 ≤ (m.g j).1 ∧ (m.g j).1 ≤ (y.g j).1) (h2 : ∀ k, j = k + 1 → (m.g k).1 ≤ (m.g j).1)
    (ha : h < (m.g j).1 → i = 0 ∧ ¬ (j : Int) < can) (hb : ¬ h < (m.g j).1 → i = 0 → 0 ≤ surely → ¬ surely ≤ (j : Int)) :
    S13x0 (h, (lv, (m, (x, (y, (can, (surely, (i, ((n : Int), ()))))))))) ((j : Int), ()) = .next (((j + 1 : Nat) : Int), ()) := by
  have e1 : ((j : Int) < ((n : Nat) : Int)) := by omega
  have e3 : W ((j : Int) + 1) = ((j + 1 : Nat) : Int) := by rw [W_id ⟨by omega, by omega⟩]; rfl
  have e4 : inB (m.g j).1 (lv.g j).1 (lv.g j).2.1 = true := by rw [e]; exact decide_eq_true h1
  unfold S13x0 Z13x0
  simp only [hl, hm, hx, hy, e1, e3, e4, p45xe, v45xe, p46xe, v46xe, decide_true, cond_true, Int.toNat_natCast, Int.natCast_nonneg, and_self, Bool.not_true, cond_false]
  rw [e]
  simp only [decide_true, Bool.and_self, Bool.not_true, cond_false]
  by_cases h0 : h < (m.g j).1
  · obtain ⟨a1, a2⟩ := ha h0
    cases j with
    | zero =>
      have a2 : ¬ (0 : Int) < can := a2
      simp [h0, a1, a2]
    | succ k =>
      have e5 : W (((k + 1 : Nat) : Int) - 1) = (k : Int) := by rw [W_id ⟨by omega, by omega⟩]; omega
      have e6 : (0 : Int) < ((k + 1 : Nat) : Int) := by omega
      have e7 : (0 : Int) ≤ (k : Int) ∧ (k : Int) < (n : Int) := by omega
      have e8 : ¬ (m.g (k + 1)).1 < (m.g k).1 := by have := h2 k rfl; omega
      simp only [e5, e6, e7, e8, h0, a1, a2, decide_true, decide_false, cond_true, cond_false, Bool.not_true, Int.toNat_natCast, and_self]
  · have hb := hb h0
    cases j with
    | zero =>
      by_cases hi : i = 0
      · by_cases hs : 0 ≤ surely
        · have q : ¬ surely ≤ (0 : Int) := hb hi hs
          simp [h0, hi, hs, q]
        · simp [h0, hi, hs]
      · simp [h0, hi]
    | succ k =>
      have e5 : W (((k + 1 : Nat) : Int) - 1) = (k : Int) := by rw [W_id ⟨by omega, by omega⟩]; omega
      have e6 : (0 : Int) < ((k + 1 : Nat) : Int) := by omega
      have e7 : (0 : Int) ≤ (k : Int) ∧ (k : Int) < (n : Int) := by omega
      have e8 : ¬ (m.g (k + 1)).1 < (m.g k).1 := by have := h2 k rfl; omega
      simp only [e5, e6, e7, e8, h0, decide_true, decide_false, cond_true, cond_false, Bool.not_true, Bool.not_false, Int.toNat_natCast, and_self]
      by_cases hi : i = 0
      · by_cases hs : 0 ≤ surely
        · have := hb hi hs
          simp only [hi, hs, this, decide_true, decide_false, cond_true, cond_false]
        · simp only [hi, hs, decide_true, decide_false, cond_true, cond_false]
      · simp only [hi, decide_false, cond_false]

theorem loop13 {t : traceT} {b : Int} {u : rowI} {h : Int} {can surely i : Int} (ht : traceB t = true) (hk : markedB t b u = true)
    (hc : (i = 5 ∧ canI t h = -1) ∨ (i = 0 ∧ can = canI t h ∧ surely = sureI t h)) :
    L13x0 (h, (spans t t.2.2.1.n, (hrow t b u (t.2.2.1.n - 1), (lowR t, (highR t, (can, (surely, (i, (((t.2.2.1.n : Nat) : Int), ()))))))))) ((0 : Int), ()) = .exit 0 () := by
  obtain ⟨k1, k2, k3⟩ := marked_t hk
  obtain ⟨t1, t2, t3, t4⟩ := traceB_t ht
  have hu : okTemp t u := fun j hj => by have := k2 j hj; have := temp_bd ht hj; omega
  have hb : -5000 ≤ b ∧ b ≤ 5000 := by omega
  have hlo : ∀ j, j < t.2.2.1.n → hs t t.1 (cold t t.2.2.1.n) j ≤ hs t b u j := hs_mono ht (cold_ok ht) hu ⟨t2.1, k3.1, hb.2⟩ fun j hj => by rw [cold_g t hj]; exact (k2 j hj).1
  have hhi : ∀ j, j < t.2.2.1.n → hs t b u j ≤ hs t t.2.1 (warm t t.2.2.1.n) j := hs_mono ht hu (warm_ok ht) ⟨hb.1, k3.2, t2.2.2⟩ fun j hj => by rw [warm_g t hj]; exact (k2 j hj).2
  have gm : ∀ j, j < t.2.2.1.n → (hrow t b u (t.2.2.1.n - 1)).g j = (hs t b u j, ()) := fun j hj => hrow_g t b u (by omega)
  have gl : ∀ j, j < t.2.2.1.n → (lowR t).g j = (hs t t.1 (cold t t.2.2.1.n) j, ()) := fun j hj => hrow_g t _ _ (by omega)
  have gh : ∀ j, j < t.2.2.1.n → (highR t).g j = (hs t t.2.1 (warm t t.2.2.1.n) j, ()) := fun j hj => hrow_g t _ _ (by omega)
  have gs : ∀ j, j < t.2.2.1.n → (spans t t.2.2.1.n).g j = (((lowR t).g j).1, (highR t).g j) := fun j hj => spans_g t hj
  unfold L13x0
  refine iterQ_steps (ps := vs13x0) t.2.2.1.n big (fun j => ((j : Int), ())) (big_lt (by omega)) (fun j hj => ?_) ?_
  · refine round13 hj (by omega) (spans_n _ _) (by rw [hrow_n]; omega) (by unfold lowR; rw [hrow_n]; omega) (by unfold highR; rw [hrow_n]; omega) (gs j hj) ?_ ?_ ?_ ?_
    · rw [gm j hj, gl j hj, gh j hj]; exact ⟨hlo j hj, hhi j hj⟩
    · intro k e; subst e; rw [gm _ hj, gm k (by omega)]; exact hs_step ht hu hb hj
    · intro h0
      rw [gm j hj] at h0
      have hcan : canC (spans t t.2.2.1.n) h j = true := by
        unfold canC
        rw [gs j hj, gh j hj]
        exact decide_eq_true (Int.lt_of_lt_of_le h0 (hhi j hj))
      rcases fstI_spec (canC (spans t t.2.2.1.n) h) t.2.2.1.n with ⟨c1, c2⟩ | ⟨k, c1, c2, c3, c4⟩
      · rw [c2 j hj] at hcan; cases hcan
      · rcases hc with ⟨_, q⟩ | ⟨q1, q2, _⟩
        · unfold canI at q; omega
        · refine ⟨q1, ?_⟩
          rw [q2]
          unfold canI
          rw [c2]
          intro hlt
          rw [c4 j (by omega)] at hcan; cases hcan
    · intro h0 hi hs0
      rw [gm j hj] at h0
      rcases hc with ⟨q, _⟩ | ⟨_, _, q3⟩
      · omega
      · rw [q3] at hs0 ⊢
        unfold sureI at hs0 ⊢
        rcases fstI_spec (sureC (spans t t.2.2.1.n) h) t.2.2.1.n with ⟨c1, c2⟩ | ⟨k, c1, c2, c3, c4⟩
        · omega
        · rw [c2]
          intro hle
          unfold sureC at c3
          rw [gs k c1, gl k c1] at c3
          have c3 := of_decide_eq_true c3
          have := hs_up ht (cold_ok ht) (b := t.1) ⟨t2.1, by omega⟩ (i := k) (j - k) (by omega)
          rw [show k + (j - k) = j by omega] at this
          have := hlo j hj
          simp only at c3
          omega
  · unfold S13x0 Z13x0
    simp

/-- KiteMarked. -/
theorem law13' (t : traceT) (b : Int) (u : rowI) (h : Int) : M13 (t, (b, (u, (h, ())))) = some (true, ()) := by
  unfold M13 Q13
  simp only [p21xe, v21xe, p53xe, v53xe, known_p, known_v, cond_true]
  by_cases h0 : ((t.2.2.1.n : Nat) : Int) ≤ 11
  · by_cases h1 : (11 : Int) < ((u.n : Nat) : Int)
    · simp [h0, h1]
    · have hn : t.2.2.1.n ≤ 100 := by omega
      have b0 : t.2.2.1.n ≤ 140737488355328 := by omega
      have b1 : u.n ≤ 140737488355328 := by omega
      have q2 : p23 (t, ()) = true := p23xe b0
      have q3 : v23 (t, ()) = (traceB t, ()) := v23xe b0
      have q4 : p24 (t, (b, (u, ()))) = true := p24xe b1
      have q5 : v24 (t, (b, (u, ()))) = (markedB t b u, ()) := v24xe b1
      simp only [h0, h1, q2, q3, q4, q5, decide_true, decide_false, Bool.not_true, cond_true, cond_false]
      cases ht : traceB t with
      | false => simp
      | true =>
        cases hk : markedB t b u with
        | false => simp
        | true =>
          cases hf : farB h with
          | false => simp
          | true =>
            obtain ⟨t1, t2, t3, t4⟩ := traceB_t ht
            have r1 := M22xe (x := (t, (b, (u, ())))) b0 b1
            have r2 := M22xe (x := (t, (t.1, (cold t t.2.2.1.n, ())))) b0 (by rw [cold_n]; exact b0)
            have r3 := M22xe (x := (t, (t.2.1, (warm t t.2.2.1.n, ())))) b0 (by rw [warm_n]; exact b0)
            have k2 := cold_marked ht
            have k3 := warm_marked ht
            simp only [ht, hk, k2, k3, Bool.and_self, cond_true] at r1 r2 r3
            have s1 : p22 (t, (b, (u, ()))) = true := by simp [p22, r1]
            have s2 : p22 (t, (t.1, (cold t t.2.2.1.n, ()))) = true := by simp [p22, r2]
            have s3 : p22 (t, (t.2.1, (warm t t.2.2.1.n, ()))) = true := by simp [p22, r3]
            have w1 : v22 (t, (b, (u, ()))) = (hrow t b u (t.2.2.1.n - 1), ((0 : Int), ())) := by simp [v22, r1]
            have w2 : v22 (t, (t.1, (cold t t.2.2.1.n, ()))) = (lowR t, ((0 : Int), ())) := by simp [v22, r2, lowR]
            have w3 : v22 (t, (t.2.1, (warm t t.2.2.1.n, ()))) = (highR t, ((0 : Int), ())) := by simp [v22, r3, highR]
            have n1 : ((((hrow t b u (t.2.2.1.n - 1)).n : Nat) : Int) = ((t.2.2.1.n : Nat) : Int)) := by rw [hrow_n]; omega
            have n2 : ((((lowR t).n : Nat) : Int) = ((t.2.2.1.n : Nat) : Int)) := by unfold lowR; rw [hrow_n]; omega
            have n3 : ((((highR t).n : Nat) : Int) = ((t.2.2.1.n : Nat) : Int)) := by unfold highR; rw [hrow_n]; omega
            have cf := fstI_lt (canC (spans t t.2.2.1.n) h) t.2.2.1.n
            have sf := fstI_lt (sureC (spans t t.2.2.1.n) h) t.2.2.1.n
            have hcs : 0 ≤ sureI t h → 0 ≤ canI t h ∧ canI t h ≤ sureI t h := by
              intro hs0
              unfold sureI at hs0 ⊢
              unfold canI
              rcases fstI_spec (sureC (spans t t.2.2.1.n) h) t.2.2.1.n with ⟨c1, c2⟩ | ⟨k, c1, c2, c3, c4⟩
              · omega
              · have hle : ((lowR t).g k).1 ≤ ((highR t).g k).1 := by
                  have g1 : (lowR t).g k = (hs t t.1 (cold t t.2.2.1.n) k, ()) := hrow_g t _ _ (by omega)
                  have g2 : (highR t).g k = (hs t t.2.1 (warm t t.2.2.1.n) k, ()) := hrow_g t _ _ (by omega)
                  rw [g1, g2]
                  exact hs_mono ht (cold_ok ht) (warm_ok ht) t2 (fun j hj => by rw [cold_g t hj, warm_g t hj]; exact (temp_bd ht hj).2.1) k c1
                have hcan : canC (spans t t.2.2.1.n) h k = true := by
                  unfold sureC at c3
                  unfold canC
                  rw [spans_g t c1] at c3 ⊢
                  exact decide_eq_true (Int.lt_of_lt_of_le (of_decide_eq_true c3) hle)
                rcases fstI_spec (canC (spans t t.2.2.1.n) h) t.2.2.1.n with ⟨d1, d2⟩ | ⟨l, d1, d2, d3, d4⟩
                · rw [d2 k c1] at hcan; cases hcan
                · rw [c2, d2]
                  have : l ≤ k := by
                    rcases Nat.lt_or_ge k l with hlt | hge
                    · rw [d4 k hlt] at hcan; cases hcan
                    · exact hge
                  omega
            simp only [p40xe (x := (t, ())) hn, v40xt (x := (t, ())) hn ht, p50xe (t, (h, ())) hn, p55xf hn, v55xf hn, p55xt hn, v55xt hn, s1, s2, s3, w1, w2, w3, n1, n2, n3, spans_n, decide_true, Bool.not_true, cond_true, cond_false]
            by_cases hc : canI t h < 0
            · have hce : canI t h = -1 := by unfold canI at hc ⊢; omega
              have ab := v50xn (t := t) (h := h) hn ht hf hc
              have lp := loop13 (b := b) (u := u) (h := h) (can := 0) (surely := 0) (i := 5) ht hk (.inl ⟨rfl, hce⟩)
              simp only [ab, lp, xe13x0e0]
              simp
            · have ab := v50xt (t := t) (h := h) hn ht hf hc
              have lp := loop13 (b := b) (u := u) (h := h) (can := canI t h) (surely := sureI t h) (i := 0) ht hk (.inr ⟨rfl, rfl, rfl⟩)
              have g1 : ¬ canI t h < 0 := hc
              have g2 : ¬ ((t.2.2.1.n : Nat) : Int) ≤ canI t h := by unfold canI; omega
              have g3 : ¬ sureI t h < -1 := by unfold sureI; omega
              have g4 : ¬ ((t.2.2.1.n : Nat) : Int) ≤ sureI t h := by unfold sureI; omega
              simp only [ab, lp, xe13x0e0, g1, g2, g3, g4, decide_true, decide_false, Bool.not_true, cond_true, cond_false]
              by_cases g5 : 0 ≤ sureI t h
              · have g6 : ¬ sureI t h < canI t h := by have := hcs g5; omega
                simp [g5, g6]
              · simp [g5]
  · simp [h0]
theorem law13 (x : (a13).den) : M13 x = some (true, ()) := by
  obtain ⟨t, b, u, h, ⟨⟩⟩ := x
  exact law13' t b u h
end Go.Dm

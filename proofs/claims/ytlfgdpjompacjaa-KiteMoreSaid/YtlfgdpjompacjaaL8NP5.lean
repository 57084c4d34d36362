/- The theorem of marks. -/
import Derived.Test.YtlfgdpjompacjaaL8NP4
set_option linter.unusedVariables false
set_option linter.unusedSimpArgs false
namespace Go.Dm
set_option maxRecDepth 100000

def okTemp (t : traceT) (u : rowI) : Prop := ∀ j, j < t.2.2.1.n → -900 ≤ (u.g j).1 ∧ (u.g j).1 ≤ 500
def riseZ (t : traceT) (u : rowI) (j : Nat) : Int := Int.tdiv (((5464 : Int) + (u.g j).1 + (u.g (j + 1)).1) * ((t.2.2.1.g j).1 - (t.2.2.1.g (j + 1)).1) * 2927) (1000 * ((t.2.2.1.g j).1 + (t.2.2.1.g (j + 1)).1))

theorem rise_bd {a b p q : Int} (ha : -900 ≤ a ∧ a ≤ 500) (hb : -900 ≤ b ∧ b ≤ 500) (hq : 1 ≤ q ∧ q < p ∧ p ≤ 99999) :
    0 ≤ (5464 + a + b) * (p - q) ∧ (5464 + a + b) * (p - q) ≤ 6464 * 99999 :=
  ⟨Int.mul_nonneg (by omega) (by omega), Int.mul_le_mul (by omega) (by omega) (by omega) (by omega)⟩

theorem press_dec {t : traceT} (h : traceB t = true) {j : Nat} (hj : j + 1 < t.2.2.1.n) : 1 ≤ (t.2.2.1.g (j + 1)).1 ∧ (t.2.2.1.g (j + 1)).1 < (t.2.2.1.g j).1 ∧ (t.2.2.1.g j).1 ≤ 99999 := by
  obtain ⟨h1, _⟩ := traceB_t h
  have a := mark_bd h1 j (by omega)
  have b := h1 (j + 1) hj
  simp only [markC, Bool.and_eq_true] at b
  have b := inB_t b.1
  simp only [bef] at b
  exact ⟨b.1, by omega, a.2⟩

theorem rise_e {t : traceT} {u : rowI} (h : traceB t = true) (hu : okTemp t u) {j : Nat} (hj : j + 1 < t.2.2.1.n) :
    rise t u j = riseZ t u j ∧ 0 ≤ riseZ t u j ∧ riseZ t u j ≤ 2000000000000 := by
  have hp := press_dec h hj
  have ha := hu j (by omega)
  have hb := hu (j + 1) hj
  unfold rise riseZ
  generalize (u.g j).1 = a at *
  generalize (u.g (j + 1)).1 = b at *
  generalize (t.2.2.1.g j).1 = p at *
  generalize (t.2.2.1.g (j + 1)).1 = q at *
  obtain ⟨m1, m2⟩ := rise_bd ha hb hp
  have w1 : W (5464 + a) = 5464 + a := W_id ⟨by omega, by omega⟩
  have w2 : W (5464 + a + b) = 5464 + a + b := W_id ⟨by omega, by omega⟩
  have w3 : W (p - q) = p - q := W_id ⟨by omega, by omega⟩
  have w4 : W (p + q) = p + q := W_id ⟨by omega, by omega⟩
  have w5 : W (1000 * (p + q)) = 1000 * (p + q) := W_id ⟨by omega, by omega⟩
  rw [w1, w2, w3, w4, w5]
  generalize (5464 + a + b) * (p - q) = z at *
  have w6 : W z = z := W_id ⟨by omega, by omega⟩
  have w7 : W (z * 2927) = z * 2927 := W_id ⟨by omega, by omega⟩
  rw [w6, w7]
  have n1 : 0 ≤ Int.tdiv (z * 2927) (1000 * (p + q)) := tdiv_nn (by omega) (by omega)
  have n2 : Int.tdiv (z * 2927) (1000 * (p + q)) ≤ z * 2927 := by
    refine tdiv_le (by omega) (by omega) ?_
    have : z * 2927 * 1 ≤ z * 2927 * (1000 * (p + q)) := Int.mul_le_mul_of_nonneg_left (by omega) (by omega)
    omega
  rw [W_id ⟨by omega, by omega⟩]
  exact ⟨rfl, n1, by omega⟩

theorem hs_bd {t : traceT} {b : Int} {u : rowI} (h : traceB t = true) (hu : okTemp t u) (hb : -5000 ≤ b ∧ b ≤ 5000) : ∀ j : Nat, j < t.2.2.1.n → -5000 ≤ hs t b u j ∧ hs t b u j ≤ 5000 + (j : Int) * 2000000000000
  | 0, _ => by simp only [hs]; omega
  | j + 1, hj => by
    have ih := hs_bd h hu hb j (by omega)
    obtain ⟨r1, r2, r3⟩ := rise_e h hu hj
    obtain ⟨_, _, _, h8⟩ := traceB_t h
    simp only [hs, r1]
    have : (j : Int) ≤ 7 := by omega
    rw [W_id ⟨by omega, by omega⟩]
    omega
theorem hs_succ {t : traceT} {b : Int} {u : rowI} (h : traceB t = true) (hu : okTemp t u) (hb : -5000 ≤ b ∧ b ≤ 5000) {j : Nat} (hj : j + 1 < t.2.2.1.n) : hs t b u (j + 1) = hs t b u j + riseZ t u j := by
  have ih := hs_bd h hu hb j (by omega)
  obtain ⟨r1, r2, r3⟩ := rise_e h hu hj
  obtain ⟨_, _, _, h8⟩ := traceB_t h
  have : (j : Int) ≤ 7 := by omega
  simp only [hs, r1]
  rw [W_id ⟨by omega, by omega⟩]
theorem riseZ_mono {t : traceT} {u u' : rowI} (h : traceB t = true) (hu : okTemp t u) {j : Nat} (hj : j + 1 < t.2.2.1.n) (h1 : (u.g j).1 ≤ (u'.g j).1) (h2 : (u.g (j + 1)).1 ≤ (u'.g (j + 1)).1) : riseZ t u j ≤ riseZ t u' j := by
  have hp := press_dec h hj
  have ha := hu j (by omega)
  have hb := hu (j + 1) hj
  unfold riseZ
  refine tdiv_mono ⟨?_, ?_⟩ (by omega)
  · exact Int.mul_nonneg (Int.mul_nonneg (by omega) (by omega)) (by omega)
  · exact Int.mul_le_mul_of_nonneg_right (Int.mul_le_mul_of_nonneg_right (by omega) (by omega)) (by omega)
theorem hs_mono {t : traceT} {b b' : Int} {u u' : rowI} (h : traceB t = true) (hu : okTemp t u) (hu' : okTemp t u') (hb : -5000 ≤ b ∧ b ≤ b' ∧ b' ≤ 5000) (hl : ∀ j, j < t.2.2.1.n → (u.g j).1 ≤ (u'.g j).1) : ∀ j : Nat, j < t.2.2.1.n → hs t b u j ≤ hs t b' u' j
  | 0, _ => hb.2.1
  | j + 1, hj => by
    rw [hs_succ h hu ⟨hb.1, by omega⟩ hj, hs_succ h hu' ⟨by omega, hb.2.2⟩ hj]
    have := hs_mono h hu hu' hb hl j (by omega)
    have := riseZ_mono h hu hj (hl j (by omega)) (hl (j + 1) hj)
    omega

theorem temp_bd {t : traceT} (h : traceB t = true) {j : Nat} (hj : j < t.2.2.1.n) : -900 ≤ (t.2.2.1.g j).2.1 ∧ (t.2.2.1.g j).2.1 ≤ (t.2.2.1.g j).2.2.1 ∧ (t.2.2.1.g j).2.2.1 ≤ 500 := by
  have b := (traceB_t h).1 j hj
  simp only [markC, Bool.and_eq_true] at b
  exact spanB_t b.2
theorem cold_g (t : traceT) {j : Nat} (hj : j < t.2.2.1.n) : (cold t t.2.2.1.n).g j = ((t.2.2.1.g j).2.1, ()) := tab_g0 (s0 := e0) rfl hj
theorem warm_g (t : traceT) {j : Nat} (hj : j < t.2.2.1.n) : (warm t t.2.2.1.n).g j = (t.2.2.1.g j).2.2 := tab_g0 (s0 := e0) rfl hj
theorem cold_ok {t : traceT} (h : traceB t = true) : okTemp t (cold t t.2.2.1.n) := fun j hj => by
  rw [cold_g t hj]; have := temp_bd h hj; exact ⟨this.1, Int.le_trans this.2.1 this.2.2⟩
theorem warm_ok {t : traceT} (h : traceB t = true) : okTemp t (warm t t.2.2.1.n) := fun j hj => by
  rw [warm_g t hj]; have := temp_bd h hj; exact ⟨Int.le_trans this.1 this.2.1, this.2.2⟩
end Go.Dm


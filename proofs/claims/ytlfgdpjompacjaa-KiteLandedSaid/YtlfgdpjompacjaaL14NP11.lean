/- Between which bounds a flight's minutes and ways lie. -/
import Derived.Test.YtlfgdpjompacjaaL14NP10
set_option linter.unusedVariables false
set_option linter.unusedSimpArgs false
namespace Go.Dm
set_option maxRecDepth 100000

theorem up_bd {d u : Int} (hd : 1 ≤ d ∧ d ≤ 3000) (hu : 50 ≤ u ∧ u ≤ 1000) : W (Int.tdiv (W (W (d + u) - 1)) u) = Int.tdiv (d + u - 1) u ∧ 0 ≤ Int.tdiv (d + u - 1) u ∧ Int.tdiv (d + u - 1) u ≤ 100 := by
  have h1 : 0 ≤ Int.tdiv (d + u - 1) u := tdiv_nn (by omega) (by omega)
  have h2 : Int.tdiv (d + u - 1) u ≤ 100 := tdiv_le (by omega) (by omega) (by omega)
  have w1 : W (d + u) = d + u := W_id ⟨by omega, by omega⟩
  have w2 : W (d + u - 1) = d + u - 1 := W_id ⟨by omega, by omega⟩
  rw [w1, w2]
  exact ⟨W_id ⟨by omega, by omega⟩, h1, h2⟩
theorem mins_bd {f : flightT} (h : flightB f = true) {u d t : Int} (hu : 50 ≤ u ∧ u ≤ 1000) (hd : 50 ≤ d ∧ d ≤ 1000) {j : Nat} (hj : j < f.1.n) : 0 ≤ mins f.1 u d t j ∧ mins f.1 u d t j ≤ 200 := by
  have hl := (flightB_t h).1 j hj
  simp only [layerC, Bool.and_eq_true] at hl
  have hl := inB_t hl.1
  unfold mins
  cases decide (t ≤ (j : Int)) with
  | true => simp
  | false =>
    obtain ⟨a1, a2, a3⟩ := up_bd hl hu
    obtain ⟨b1, b2, b3⟩ := up_bd hl hd
    simp only [cond_false, a1, b1]
    rw [W_id ⟨by omega, by omega⟩]
    omega
theorem wind_bd {f : flightT} (h : flightB f = true) {j : Nat} (hj : j < f.1.n) : (-100 ≤ (spE f j).1 ∧ (spE f j).1 ≤ (spE f j).2.1 ∧ (spE f j).2.1 ≤ 100) ∧ (-100 ≤ (spN f j).1 ∧ (spN f j).1 ≤ (spN f j).2.1 ∧ (spN f j).2.1 ≤ 100) := by
  have hl := (flightB_t h).1 j hj
  simp only [layerC, Bool.and_eq_true] at hl
  exact ⟨windB_t hl.2.1, windB_t hl.2.2⟩
theorem prod_bd {w m : Int} (hw : -100 ≤ w ∧ w ≤ 100) (hm : 0 ≤ m ∧ m ≤ 200) : -20000 ≤ w * m ∧ w * m ≤ 20000 := by
  have h1 : w * m ≤ 100 * m := Int.mul_le_mul_of_nonneg_right hw.2 hm.1
  have h2 : (-100) * m ≤ w * m := Int.mul_le_mul_of_nonneg_right hw.1 hm.1
  omega
theorem sums_bd {g : Nat → Int} {c : Int} (hc : 0 ≤ c ∧ c ≤ 1000000) : ∀ {n : Nat}, n ≤ 8 → (∀ j, j < n → -c ≤ g j ∧ g j ≤ c) → -(c * n) ≤ sums g n ∧ sums g n ≤ c * n
  | 0, _, _ => by simp [sums]
  | n + 1, hn, h => by
    have ih := sums_bd hc (n := n) (by omega) fun j hj => h j (by omega)
    have hg := h n (by omega)
    have e : c * ((n + 1 : Nat) : Int) = c * n + c := by rw [Int.natCast_add]; simp [Int.mul_add]
    have q : c * (n : Int) ≤ 1000000 * 8 := Int.mul_le_mul (by omega) (by omega) (by omega) (by omega)
    simp only [sums]
    rw [W_id ⟨by omega, by omega⟩, e]
    omega
theorem sums_mono {g h : Nat → Int} {c : Int} (hc : 0 ≤ c ∧ c ≤ 1000000) : ∀ {n : Nat}, n ≤ 8 → (∀ j, j < n → (-c ≤ g j ∧ g j ≤ c) ∧ (-c ≤ h j ∧ h j ≤ c) ∧ g j ≤ h j) → sums g n ≤ sums h n
  | 0, _, _ => by simp [sums]
  | n + 1, hn, k => by
    have ih := sums_mono hc (n := n) (by omega) fun j hj => k j (by omega)
    have b1 := sums_bd hc (g := g) (n := n) (by omega) fun j hj => (k j (by omega)).1
    have b2 := sums_bd hc (g := h) (n := n) (by omega) fun j hj => (k j (by omega)).2.1
    have hg := k n (by omega)
    have q : c * (n : Int) ≤ 1000000 * 8 := Int.mul_le_mul (by omega) (by omega) (by omega) (by omega)
    simp only [sums]
    rw [W_id ⟨by omega, by omega⟩, W_id ⟨by omega, by omega⟩]
    omega
/-- Of two lists of winds the lesser one comes to less. -/
theorem drift_mono {f : flightT} (h : flightB f = true) {u d t : Int} (hu : 50 ≤ u ∧ u ≤ 1000) (hd : 50 ≤ d ∧ d ≤ 1000) {a b : rowI} (ha : a.n = f.1.n) (hb : b.n = f.1.n)
    (hab : ∀ j, j < f.1.n → -100 ≤ (a.g j).1 ∧ (a.g j).1 ≤ (b.g j).1 ∧ (b.g j).1 ≤ 100) : drift f u d t a ≤ drift f u d t b := by
  have h4 := (flightB_t h).2.1
  unfold drift
  rw [ha, hb]
  refine sums_mono (c := 20000) (by omega) (by omega) fun j hj => ?_
  have m := mins_bd h (t := t) hu hd hj
  have w := hab j hj
  have p1 := prod_bd (w := (a.g j).1) ⟨w.1, by omega⟩ m
  have p2 := prod_bd (w := (b.g j).1) ⟨by omega, w.2.2⟩ m
  have p3 : (a.g j).1 * mins f.1 u d t j ≤ (b.g j).1 * mins f.1 u d t j := Int.mul_le_mul_of_nonneg_right w.2.1 m.1
  rw [W_id ⟨by omega, by omega⟩, W_id ⟨by omega, by omega⟩]
  exact ⟨p1, p2, p3⟩
end Go.Dm


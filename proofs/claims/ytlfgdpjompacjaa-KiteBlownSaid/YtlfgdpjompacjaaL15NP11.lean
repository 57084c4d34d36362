/- Between which bounds a flight's minutes and ways lie. -/
import Derived.Test.YtlfgdpjompacjaaL15NP10
set_option linter.unusedVariables false
set_option linter.unusedSimpArgs false
namespace Go.Dm
set_option maxRecDepth 100000

theorem up_bd {d u : Int} (hd : 1 ≤ d ∧ d ≤ 3000) (hu : 50 ≤ u ∧ u ≤ 1000) : W (Int.tdiv (W (W (d + u) - 1)) u) = Int.tdiv (d + u - 1) u ∧ 0 ≤ Int.tdiv (d + u - 1) u ∧ Int.tdiv (d + u - 1) u ≤ 100 := by
  have h1 : 0 ≤ Int.tdiv (d + u - 1) u := tdiv_nn (by omega) (by omega)
  have h2 : Int.tdiv (d + u - 1) u ≤ 100 := tdiv_le (by omega) (by omega) (by omega)
  have w1 : W (d + u) = d + u := W_id ⟨by omega, by omega⟩
  have w2 : W (d + u - 1) = d + u - 1 := W_id ⟨by omega, by omega⟩
  rw [w1, w2]
  exact ⟨W_id ⟨by omega, by omega⟩, h1, h2⟩
theorem mins_bd {f : flightT} (h : flightB f = true) {u d t : Int} (hu : 50 ≤ u ∧ u ≤ 1000) (hd : 50 ≤ d ∧ d ≤ 1000) {j : Nat} (hj : j < f.1.n) : 0 ≤ mins f.1 u d t j ∧ mins f.1 u d t j ≤ 200 := by
  have hl := (flightB_t h).1 j hj
  simp only [layerC, Bool.and_eq_true] at hl
  have hl := inB_t hl.1
  unfold mins
  cases decide (t ≤ (j : Int)) with
  | true => simp
  | false =>
    obtain ⟨a1, a2, a3⟩ := up_bd hl hu
    obtain ⟨b1, b2, b3⟩ := up_bd hl hd
    simp only [cond_false, a1, b1]
    rw [W_id ⟨by omega, by omega⟩]
    omega
theorem wind_bd {f : flightT} (h : flightB f = true) {j : Nat} (hj : j < f.1.n) : (-100 ≤ (spE f j).1 ∧ (spE f j).1 ≤ (spE f j).2.1 ∧ (spE f j).2.1 ≤ 100) ∧ (-100 ≤ (spN f j).1 ∧ (spN f j).1 ≤ (spN f j).2.1 ∧ (spN f j).2.1 ≤ 100) := by
  have hl := (flightB_t h).1 j hj
  simp only [layerC, Bool.and_eq_true] at hl
  exact ⟨windB_t hl.2.1, windB_t hl.2.2⟩
theorem prod_bd {w m : Int} (hw : -100 ≤ w ∧ w ≤ 100) (hm : 0 ≤ m ∧ m ≤ 200) : -20000 ≤ w * m ∧ w * m ≤ 20000 := by
  have h1 : w * m ≤ 100 * m := Int.mul_le_mul_of_nonneg_right hw.2 hm.1
  have h2 : (-100) * m ≤ w * m := Int.mul_le_mul_of_nonneg_right hw.1 hm.1
  omega
end Go.Dm


/- The laws of kites' heights, in plain terms. -/
import Derived.Test.YtlfgdpjompacjaaL14NC
set_option linter.unusedVariables false
set_option linter.unusedSimpArgs false
namespace Go.Dm
set_option maxRecDepth 100000

theorem W_id {n : Int} (h : -9223372036854775808 ≤ n ∧ n ≤ 9223372036854775807) : W n = n := IntWalk.i64_in _ ⟨by omega, by omega⟩

theorem known_M : M19 () = some (true, ()) := by kernel_rfl
def spanB (a b lo hi : Int) : Bool := decide (lo ≤ a ∧ a ≤ b ∧ b ≤ hi)
def inB (x lo hi : Int) : Bool := decide (lo ≤ x ∧ x ≤ hi)

theorem M104xe (x : (a104).den) : M104 x = some (spanB x.1.1 x.1.2.1 x.2.1 x.2.2.1, ()) := by
  unfold M104 Q104 spanB
  by_cases h1 : x.2.1 ≤ x.1.1 <;> by_cases h2 : x.1.1 ≤ x.1.2.1 <;> simp [h1, h2]
theorem p104xe (x : (a104).den) : p104 x = true := by simp [p104, M104xe]
theorem v104xe (x : (a104).den) : v104 x = (spanB x.1.1 x.1.2.1 x.2.1 x.2.2.1, ()) := by simp [v104, M104xe]
theorem M68xe (x : (a68).den) : M68 x = some (spanB x.1.1 x.1.2.1 x.2.1 x.2.2.1, ()) := M104xe x
theorem p68xe (x : (a68).den) : p68 x = true := by simp [p68, M68xe]
theorem v68xe (x : (a68).den) : v68 x = (spanB x.1.1 x.1.2.1 x.2.1 x.2.2.1, ()) := by simp [v68, M68xe]
theorem M102xe (x : (a102).den) : M102 x = some (inB x.1 x.2.1 x.2.2.1, ()) := by
  unfold M102 Q102 inB
  by_cases h1 : x.2.1 ≤ x.1 <;> simp [h1]
theorem p102xe (x : (a102).den) : p102 x = true := by simp [p102, M102xe]
theorem v102xe (x : (a102).den) : v102 x = (inB x.1 x.2.1 x.2.2.1, ()) := by simp [v102, M102xe]
theorem M75xe (x : (a75).den) : M75 x = some (inB x.1 x.2.1 x.2.2.1, ()) := M102xe x
theorem p75xe (x : (a75).den) : p75 x = true := by simp [p75, M75xe]
theorem v75xe (x : (a75).den) : v75 x = (inB x.1 x.2.1 x.2.2.1, ()) := by simp [v75, M75xe]
theorem M73xe (x : (a73).den) : M73 x = some (inB x.1 x.2.1.1 x.2.1.2.1, ()) := by
  unfold M73 Q73
  simp [cq102, p102xe, v102xe]
theorem p73xe (x : (a73).den) : p73 x = true := by simp [p73, M73xe]
theorem v73xe (x : (a73).den) : v73 x = (inB x.1 x.2.1.1 x.2.1.2.1, ()) := by simp [v73, M73xe]
theorem M45xe (x : (a45).den) : M45 x = some (inB x.1 x.2.1.1 x.2.1.2.1, ()) := by
  unfold M45 Q45 inB
  by_cases h1 : x.2.1.1 ≤ x.1 <;> simp [h1]
/-! sines -/
/-! heights -/
theorem spanB_t {a b lo hi : Int} (h : spanB a b lo hi = true) : lo ≤ a ∧ a ≤ b ∧ b ≤ hi := of_decide_eq_true h
theorem inB_t {a lo hi : Int} (h : inB a lo hi = true) : lo ≤ a ∧ a ≤ hi := of_decide_eq_true h
/-! truths -/
/-! what heights are -/
theorem tdiv_nn {a c : Int} (h : 0 ≤ a) (hc : 0 < c) : 0 ≤ Int.tdiv a c := Int.tdiv_nonneg h (by omega)
theorem tdiv_le {a b c : Int} (h : 0 ≤ a) (hc : 0 < c) (hb : a ≤ b * c) : Int.tdiv a c ≤ b := by
  rw [Int.tdiv_eq_ediv_of_nonneg h]
  exact Int.ediv_le_of_le_mul hc hb

end Go.Dm


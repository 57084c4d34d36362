/- The laws of kites' heights, in plain terms. -/
import Derived.Test.YtlfgdpjompacjaaL8NC
set_option linter.unusedVariables false
set_option linter.unusedSimpArgs false
namespace Go.Dm
set_option maxRecDepth 100000

theorem W_id {n : Int} (h : -9223372036854775808 ≤ n ∧ n ≤ 9223372036854775807) : W n = n := IntWalk.i64_in _ ⟨by omega, by omega⟩

theorem known_M : M19 () = some (true, ()) := by kernel_rfl
def spanB (a b lo hi : Int) : Bool := decide (lo ≤ a ∧ a ≤ b ∧ b ≤ hi)
def inB (x lo hi : Int) : Bool := decide (lo ≤ x ∧ x ≤ hi)

theorem M104xe (x : (a104).den) : M104 x = some (spanB x.1.1 x.1.2.1 x.2.1 x.2.2.1, ()) := by
  unfold M104 Q104 spanB
  by_cases h1 : x.2.1 ≤ x.1.1 <;> by_cases h2 : x.1.1 ≤ x.1.2.1 <;> simp [h1, h2]
theorem p104xe (x : (a104).den) : p104 x = true := by simp [p104, M104xe]
theorem v104xe (x : (a104).den) : v104 x = (spanB x.1.1 x.1.2.1 x.2.1 x.2.2.1, ()) := by simp [v104, M104xe]
theorem M68xe (x : (a68).den) : M68 x = some (spanB x.1.1 x.1.2.1 x.2.1 x.2.2.1, ()) := M104xe x
theorem p68xe (x : (a68).den) : p68 x = true := by simp [p68, M68xe]
theorem v68xe (x : (a68).den) : v68 x = (spanB x.1.1 x.1.2.1 x.2.1 x.2.2.1, ()) := by simp [v68, M68xe]
theorem M102xe (x : (a102).den) : M102 x = some (inB x.1 x.2.1 x.2.2.1, ()) := by
  unfold M102 Q102 inB
  by_cases h1 : x.2.1 ≤ x.1 <;> simp [h1]
theorem p102xe (x : (a102).den) : p102 x = true := by simp [p102, M102xe]
theorem v102xe (x : (a102).den) : v102 x = (inB x.1 x.2.1 x.2.2.1, ()) := by simp [v102, M102xe]
theorem M75xe (x : (a75).den) : M75 x = some (inB x.1 x.2.1 x.2.2.1, ()) := M102xe x
theorem p75xe (x : (a75).den) : p75 x = true := by simp [p75, M75xe]
theorem v75xe (x : (a75).den) : v75 x = (inB x.1 x.2.1 x.2.2.1, ()) := by simp [v75, M75xe]
theorem M73xe (x : (a73).den) : M73 x = some (inB x.1 x.2.1.1 x.2.1.2.1, ()) := by
  unfold M73 Q73
  simp [cq102, p102xe, v102xe]
abbrev lineT : Type := Int × Int × Int × Int × Int × Int × Unit
def lineB (k : lineT) : Bool := spanB k.1 k.2.1 0 10000 && spanB k.2.2.1 k.2.2.2.1 0 90 && spanB k.2.2.2.2.1 k.2.2.2.2.2.1 0 1000

theorem M65xe (x : (a65).den) : M65 x = some (lineB x.1, ()) := by
  unfold M65 Q65 lineB
  simp only [cq104, p104xe, v104xe, cond_true]
  by_cases h1 : spanB x.1.1 x.1.2.1 0 10000 = true <;> by_cases h2 : spanB x.1.2.2.1 x.1.2.2.2.1 0 90 = true <;> simp [cq104, h1, h2]
theorem p65xe (x : (a65).den) : p65 x = true := by simp [p65, M65xe]
theorem v65xe (x : (a65).den) : v65 x = (lineB x.1, ()) := by simp [v65, M65xe]
theorem M18xe (x : (a18).den) : M18 x = some (lineB x.1, ()) := by
  unfold M18 Q18 lineB
  simp only [cq68, p68xe, v68xe, cond_true]
  by_cases h1 : spanB x.1.1 x.1.2.1 0 10000 = true <;> by_cases h2 : spanB x.1.2.2.1 x.1.2.2.2.1 0 90 = true <;> simp [cq68, h1, h2]
/-! sines -/
def sineN (a : Nat) : Int := (v105 ((a : Int), ())).1
theorem sine_check : (List.range 91).all (fun a => (match M105 ((a : Int), ()), M91 ((a : Int), ()) with | some (x, _), some (y, _) => decide (x = y) && decide (0 ≤ x) && decide (x ≤ 10000) | _, _ => false) && (decide (a = 90) || decide (sineN a ≤ sineN (a + 1)))) = true := by kernel_rfl
theorem sine_at (a : Int) (h : 0 ≤ a ∧ a ≤ 90) : ∃ s, M105 (a, ()) = some (s, ()) ∧ M91 (a, ()) = some (s, ()) ∧ 0 ≤ s ∧ s ≤ 10000 := by
  have := List.all_eq_true.1 sine_check a.toNat (by simp; omega)
  have ha : ((a.toNat : Nat) : Int) = a := by omega
  rw [ha, Bool.and_eq_true] at this
  have := this.1
  split at this
  · rename_i x _ y _ e1 e2
    simp only [Bool.and_eq_true, decide_eq_true_eq] at this
    obtain ⟨⟨h1, h2⟩, h3⟩ := this
    subst h1
    exact ⟨x, e1, e2, h2, h3⟩
  · cases this
theorem p105xe {a : Int} (h : 0 ≤ a ∧ a ≤ 90) : p105 (a, ()) = true := by
  obtain ⟨s, h1, _⟩ := sine_at a h
  simp [p105, h1]
theorem sine_bd {a : Int} (h : 0 ≤ a ∧ a ≤ 90) : 0 ≤ (v105 (a, ())).1 ∧ (v105 (a, ())).1 ≤ 10000 := by
  obtain ⟨s, h1, _, h3, h4⟩ := sine_at a h
  simp [v105, h1, h3, h4]
theorem sine_step (a : Nat) (h : a < 90) : sineN a ≤ sineN (a + 1) := by
  have := List.all_eq_true.1 sine_check a (by simp; omega)
  rw [Bool.and_eq_true, Bool.or_eq_true] at this
  rcases this.2 with h' | h'
  · have := of_decide_eq_true h'; omega
  · exact of_decide_eq_true h'
theorem sine_mono {a b : Int} (h : 0 ≤ a ∧ a ≤ b ∧ b ≤ 90) : (v105 (a, ())).1 ≤ (v105 (b, ())).1 := by
  have key : ∀ (d n : Nat), n + d ≤ 90 → sineN n ≤ sineN (n + d) := by
    intro d
    induction d with
    | zero => intro n _; exact Int.le_refl _
    | succ d ih =>
      intro n hn
      exact Int.le_trans (ih n (by omega)) (sine_step (n + d) (by omega))
  have := key (b - a).toNat a.toNat (by omega)
  unfold sineN at this
  have e1 : ((a.toNat : Nat) : Int) = a := by omega
  have e2 : ((a.toNat + (b - a).toNat : Nat) : Int) = b := by omega
  rwa [e1, e2] at this

/-! heights -/
def hgt (w a s : Int) : Int := W (Int.tdiv (W ((W (Int.tdiv (W (w * (W ((1000 : Int) - s)))) (1000 : Int))) * (v105 (a, ())).1)) (10000 : Int))
theorem M67xe {x : (a67).den} (h : 0 ≤ x.1.2.1 ∧ x.1.2.1 ≤ 90) : M67 x = some (hgt x.1.1 x.1.2.1 x.1.2.2.1, ()) := by
  unfold M67 Q67 hgt
  simp only [cq105, p105xe h, cond_true]
theorem p67xe {x : (a67).den} (h : 0 ≤ x.1.2.1 ∧ x.1.2.1 ≤ 90) : p67 x = true := by simp [p67, M67xe h]
theorem v67xe {x : (a67).den} (h : 0 ≤ x.1.2.1 ∧ x.1.2.1 ≤ 90) : v67 x = (hgt x.1.1 x.1.2.1 x.1.2.2.1, ()) := by simp [v67, M67xe h]
theorem spanB_t {a b lo hi : Int} (h : spanB a b lo hi = true) : lo ≤ a ∧ a ≤ b ∧ b ≤ hi := of_decide_eq_true h
theorem inB_t {a lo hi : Int} (h : inB a lo hi = true) : lo ≤ a ∧ a ≤ hi := of_decide_eq_true h
theorem lineB_t {k : lineT} (h : lineB k = true) : (0 ≤ k.1 ∧ k.1 ≤ k.2.1 ∧ k.2.1 ≤ 10000) ∧ (0 ≤ k.2.2.1 ∧ k.2.2.1 ≤ k.2.2.2.1 ∧ k.2.2.2.1 ≤ 90) ∧ 0 ≤ k.2.2.2.2.1 ∧ k.2.2.2.2.1 ≤ k.2.2.2.2.2.1 ∧ k.2.2.2.2.2.1 ≤ 1000 := by
  simp only [lineB, Bool.and_eq_true] at h
  exact ⟨spanB_t h.1.1, spanB_t h.1.2, spanB_t h.2⟩

theorem M17xe (x : (a17).den) : M17 x = some (bif lineB x.1 then ((hgt x.1.1 x.1.2.2.1 x.1.2.2.2.2.2.1, hgt x.1.2.1 x.1.2.2.2.1 x.1.2.2.2.2.1, ()), (0 : Int), ()) else ((0, 0, ()), 2, ())) := by
  unfold M17 Q17
  simp only [cq65, cq66, cq67, p65xe, v65xe, cond_true]
  cases h : lineB x.1 with
  | false => simp
  | true =>
    obtain ⟨_, h2, _⟩ := lineB_t h
    have q1 : p67 ((x.1.1, (x.1.2.2.1, x.1.2.2.2.2.2)), ()) = true := p67xe ⟨h2.1, Int.le_trans h2.2.1 h2.2.2⟩
    have q2 : p67 ((x.1.2.1, (x.1.2.2.2.1, (x.1.2.2.2.2.1, ()))), ()) = true := p67xe ⟨Int.le_trans h2.1 h2.2.1, h2.2.2⟩
    have e1 : v67 ((x.1.1, (x.1.2.2.1, x.1.2.2.2.2.2)), ()) = _ := v67xe ⟨h2.1, Int.le_trans h2.2.1 h2.2.2⟩
    have e2 : v67 ((x.1.2.1, (x.1.2.2.2.1, (x.1.2.2.2.2.1, ()))), ()) = _ := v67xe ⟨Int.le_trans h2.1 h2.2.1, h2.2.2⟩
    simp only [cq65, cq66, cq67, p66, v66, M66, Q66, cl_some, q1, q2, e1, e2, cond_true, Option.isSome_some, Option.getD_some, Bool.not_true, cond_false]
/-! truths -/
/-! what heights are -/
theorem tdiv_mono {a b c : Int} (h : 0 ≤ a ∧ a ≤ b) (hc : 0 < c) : Int.tdiv a c ≤ Int.tdiv b c := by
  rw [Int.tdiv_eq_ediv_of_nonneg h.1, Int.tdiv_eq_ediv_of_nonneg (by omega)]
  exact Int.ediv_le_ediv hc h.2
theorem tdiv_nn {a c : Int} (h : 0 ≤ a) (hc : 0 < c) : 0 ≤ Int.tdiv a c := Int.tdiv_nonneg h (by omega)
theorem tdiv_le {a b c : Int} (h : 0 ≤ a) (hc : 0 < c) (hb : a ≤ b * c) : Int.tdiv a c ≤ b := by
  rw [Int.tdiv_eq_ediv_of_nonneg h]
  exact Int.ediv_le_of_le_mul hc hb

def str (w s : Int) : Int := Int.tdiv (w * (1000 - s)) 1000
theorem str_bd {w s : Int} (hw : 0 ≤ w ∧ w ≤ 10000) (hs : 0 ≤ s ∧ s ≤ 1000) : 0 ≤ str w s ∧ str w s ≤ w := by
  have h0 : 0 ≤ w * (1000 - s) := Int.mul_nonneg hw.1 (by omega)
  refine ⟨tdiv_nn h0 (by omega), tdiv_le h0 (by omega) ?_⟩
  exact Int.mul_le_mul_of_nonneg_left (by omega) hw.1
theorem hgt_e {w a s : Int} (hw : 0 ≤ w ∧ w ≤ 10000) (ha : 0 ≤ a ∧ a ≤ 90) (hs : 0 ≤ s ∧ s ≤ 1000) : hgt w a s = Int.tdiv (str w s * (v105 (a, ())).1) 10000 := by
  unfold hgt
  obtain ⟨b1, b2⟩ := sine_bd ha
  obtain ⟨c1, c2⟩ := str_bd hw hs
  have h0 : 0 ≤ w * (1000 - s) := Int.mul_nonneg hw.1 (by omega)
  have h1 : w * (1000 - s) ≤ 10000 * 1000 := Int.mul_le_mul hw.2 (by omega) (by omega) (by omega)
  have h2 : 0 ≤ str w s * (v105 (a, ())).1 := Int.mul_nonneg c1 b1
  have h3 : str w s * (v105 (a, ())).1 ≤ 10000 * 10000 := Int.mul_le_mul (by omega) b2 b1 (by omega)
  rw [W_id (n := 1000 - s) ⟨by omega, by omega⟩, W_id (n := w * (1000 - s)) ⟨by omega, by omega⟩]
  show W (Int.tdiv (W (W (str w s) * _)) 10000) = _
  rw [W_id (n := str w s) ⟨by omega, by omega⟩, W_id (n := str w s * _) ⟨by omega, by omega⟩]
  have h4 := tdiv_nn h2 (c := 10000) (by omega)
  have h5 : Int.tdiv (str w s * (v105 (a, ())).1) 10000 ≤ 10000 := tdiv_le h2 (by omega) h3
  rw [W_id ⟨by omega, by omega⟩]
theorem str_mono {w w' s s' : Int} (hw : 0 ≤ w ∧ w ≤ w' ∧ w' ≤ 10000) (hs : 0 ≤ s' ∧ s' ≤ s ∧ s ≤ 1000) : str w s ≤ str w' s' := by
  refine tdiv_mono ⟨Int.mul_nonneg hw.1 (by omega), ?_⟩ (by omega)
  exact Int.mul_le_mul hw.2.1 (by omega) (by omega) (by omega)
theorem hgt_mono {w w' a a' s s' : Int} (hw : 0 ≤ w ∧ w ≤ w' ∧ w' ≤ 10000) (ha : 0 ≤ a ∧ a ≤ a' ∧ a' ≤ 90) (hs : 0 ≤ s' ∧ s' ≤ s ∧ s ≤ 1000) : hgt w a s ≤ hgt w' a' s' := by
  rw [hgt_e ⟨hw.1, by omega⟩ ⟨ha.1, by omega⟩ ⟨by omega, hs.2.2⟩, hgt_e ⟨by omega, hw.2.2⟩ ⟨by omega, ha.2.2⟩ ⟨hs.1, by omega⟩]
  have c := str_bd (w := w) (s := s) ⟨hw.1, by omega⟩ ⟨by omega, hs.2.2⟩
  have b := sine_bd (a := a) ⟨ha.1, by omega⟩
  have m1 := str_mono hw hs
  have m2 := sine_mono ha
  exact tdiv_mono ⟨Int.mul_nonneg c.1 b.1, Int.mul_le_mul m1 m2 b.1 (by omega)⟩ (by omega)
end Go.Dm


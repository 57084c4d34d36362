/- The laws of kites' heights, in plain terms. -/
import Derived.Test.YtlfgdpjompacjaaGC
set_option linter.unusedVariables false
set_option linter.unusedSimpArgs false
namespace Go.Dm
set_option maxRecDepth 100000

theorem W_id {n : Int} (h : -9223372036854775808 ≤ n ∧ n ≤ 9223372036854775807) : W n = n := IntWalk.i64_in _ ⟨by omega, by omega⟩

theorem known_M : M19 () = some (true, ()) := by kernel_rfl
theorem known_p : p19 () = true := by simp [p19, known_M]
theorem known_v : v19 () = (true, ()) := by simp [v19, known_M]

def spanB (a b lo hi : Int) : Bool := decide (lo ≤ a ∧ a ≤ b ∧ b ≤ hi)
def inB (x lo hi : Int) : Bool := decide (lo ≤ x ∧ x ≤ hi)

theorem M104xe (x : (a104).den) : M104 x = some (spanB x.1.1 x.1.2.1 x.2.1 x.2.2.1, ()) := by
  unfold M104 Q104 spanB
  by_cases h1 : x.2.1 ≤ x.1.1 <;> by_cases h2 : x.1.1 ≤ x.1.2.1 <;> simp [h1, h2]
theorem p104xe (x : (a104).den) : p104 x = true := by simp [p104, M104xe]
theorem v104xe (x : (a104).den) : v104 x = (spanB x.1.1 x.1.2.1 x.2.1 x.2.2.1, ()) := by simp [v104, M104xe]
theorem M68xe (x : (a68).den) : M68 x = some (spanB x.1.1 x.1.2.1 x.2.1 x.2.2.1, ()) := M104xe x
theorem p68xe (x : (a68).den) : p68 x = true := by simp [p68, M68xe]
theorem v68xe (x : (a68).den) : v68 x = (spanB x.1.1 x.1.2.1 x.2.1 x.2.2.1, ()) := by simp [v68, M68xe]
theorem M102xe (x : (a102).den) : M102 x = some (inB x.1 x.2.1 x.2.2.1, ()) := by
  unfold M102 Q102 inB
  by_cases h1 : x.2.1 ≤ x.1 <;> simp [h1]
theorem p102xe (x : (a102).den) : p102 x = true := by simp [p102, M102xe]
theorem v102xe (x : (a102).den) : v102 x = (inB x.1 x.2.1 x.2.2.1, ()) := by simp [v102, M102xe]
theorem M75xe (x : (a75).den) : M75 x = some (inB x.1 x.2.1 x.2.2.1, ()) := M102xe x
theorem p75xe (x : (a75).den) : p75 x = true := by simp [p75, M75xe]
theorem v75xe (x : (a75).den) : v75 x = (inB x.1 x.2.1 x.2.2.1, ()) := by simp [v75, M75xe]
theorem M73xe (x : (a73).den) : M73 x = some (inB x.1 x.2.1.1 x.2.1.2.1, ()) := by
  unfold M73 Q73
  simp [p102xe, v102xe]
theorem p73xe (x : (a73).den) : p73 x = true := by simp [p73, M73xe]
theorem v73xe (x : (a73).den) : v73 x = (inB x.1 x.2.1.1 x.2.1.2.1, ()) := by simp [v73, M73xe]
theorem M45xe (x : (a45).den) : M45 x = some (inB x.1 x.2.1.1 x.2.1.2.1, ()) := by
  unfold M45 Q45 inB
  by_cases h1 : x.2.1.1 ≤ x.1 <;> simp [h1]
theorem p45xe (x : (a45).den) : p45 x = true := by simp [p45, M45xe]
theorem v45xe (x : (a45).den) : v45 x = (inB x.1 x.2.1.1 x.2.1.2.1, ()) := by simp [v45, M45xe]
theorem p46xe (x : (a46).den) : p46 x = true := by simp [p46, M46, Q46]
theorem v46xe (x : (a46).den) : v46 x = (x, ()) := by simp [v46, M46, Q46]

abbrev lineT : Type := Int × Int × Int × Int × Int × Int × Unit
def lineB (k : lineT) : Bool := spanB k.1 k.2.1 0 10000 && spanB k.2.2.1 k.2.2.2.1 0 90 && spanB k.2.2.2.2.1 k.2.2.2.2.2.1 0 1000

theorem M65xe (x : (a65).den) : M65 x = some (lineB x.1, ()) := by
  unfold M65 Q65 lineB
  simp only [p104xe, v104xe, cond_true]
  by_cases h1 : spanB x.1.1 x.1.2.1 0 10000 = true <;> by_cases h2 : spanB x.1.2.2.1 x.1.2.2.2.1 0 90 = true <;> simp [h1, h2]
theorem p65xe (x : (a65).den) : p65 x = true := by simp [p65, M65xe]
theorem v65xe (x : (a65).den) : v65 x = (lineB x.1, ()) := by simp [v65, M65xe]
theorem M18xe (x : (a18).den) : M18 x = some (lineB x.1, ()) := by
  unfold M18 Q18 lineB
  simp only [p68xe, v68xe, cond_true]
  by_cases h1 : spanB x.1.1 x.1.2.1 0 10000 = true <;> by_cases h2 : spanB x.1.2.2.1 x.1.2.2.2.1 0 90 = true <;> simp [h1, h2]
theorem p18xe (x : (a18).den) : p18 x = true := by simp [p18, M18xe]
theorem v18xe (x : (a18).den) : v18 x = (lineB x.1, ()) := by simp [v18, M18xe]

/-! sines -/
def sineN (a : Nat) : Int := (v105 ((a : Int), ())).1
theorem sine_check : (List.range 91).all (fun a => (match M105 ((a : Int), ()), M91 ((a : Int), ()) with | some (x, _), some (y, _) => decide (x = y) && decide (0 ≤ x) && decide (x ≤ 10000) | _, _ => false) && (decide (a = 90) || decide (sineN a ≤ sineN (a + 1)))) = true := by kernel_rfl
theorem sine_at (a : Int) (h : 0 ≤ a ∧ a ≤ 90) : ∃ s, M105 (a, ()) = some (s, ()) ∧ M91 (a, ()) = some (s, ()) ∧ 0 ≤ s ∧ s ≤ 10000 := by
  have := List.all_eq_true.1 sine_check a.toNat (by simp; omega)
  have ha : ((a.toNat : Nat) : Int) = a := by omega
  rw [ha, Bool.and_eq_true] at this
  have := this.1
  split at this
  · rename_i x _ y _ e1 e2
    simp only [Bool.and_eq_true, decide_eq_true_eq] at this
    obtain ⟨⟨h1, h2⟩, h3⟩ := this
    subst h1
    exact ⟨x, e1, e2, h2, h3⟩
  · cases this
theorem p105xe {a : Int} (h : 0 ≤ a ∧ a ≤ 90) : p105 (a, ()) = true := by
  obtain ⟨s, h1, _⟩ := sine_at a h
  simp [p105, h1]
theorem p91xe {a : Int} (h : 0 ≤ a ∧ a ≤ 90) : p91 (a, ()) = true := by
  obtain ⟨s, _, h1, _⟩ := sine_at a h
  simp [p91, h1]
theorem v91xe {a : Int} (h : 0 ≤ a ∧ a ≤ 90) : v91 (a, ()) = v105 (a, ()) := by
  obtain ⟨s, h1, h2, _⟩ := sine_at a h
  simp [v91, v105, h1, h2]
theorem sine_bd {a : Int} (h : 0 ≤ a ∧ a ≤ 90) : 0 ≤ (v105 (a, ())).1 ∧ (v105 (a, ())).1 ≤ 10000 := by
  obtain ⟨s, h1, _, h3, h4⟩ := sine_at a h
  simp [v105, h1, h3, h4]
theorem sine_step (a : Nat) (h : a < 90) : sineN a ≤ sineN (a + 1) := by
  have := List.all_eq_true.1 sine_check a (by simp; omega)
  rw [Bool.and_eq_true, Bool.or_eq_true] at this
  rcases this.2 with h' | h'
  · have := of_decide_eq_true h'; omega
  · exact of_decide_eq_true h'
theorem sine_mono {a b : Int} (h : 0 ≤ a ∧ a ≤ b ∧ b ≤ 90) : (v105 (a, ())).1 ≤ (v105 (b, ())).1 := by
  have key : ∀ (d n : Nat), n + d ≤ 90 → sineN n ≤ sineN (n + d) := by
    intro d
    induction d with
    | zero => intro n _; exact Int.le_refl _
    | succ d ih =>
      intro n hn
      exact Int.le_trans (ih n (by omega)) (sine_step (n + d) (by omega))
  have := key (b - a).toNat a.toNat (by omega)
  unfold sineN at this
  have e1 : ((a.toNat : Nat) : Int) = a := by omega
  have e2 : ((a.toNat + (b - a).toNat : Nat) : Int) = b := by omega
  rwa [e1, e2] at this

/-! heights -/
def hgt (w a s : Int) : Int := W (Int.tdiv (W ((W (Int.tdiv (W (w * (W ((1000 : Int) - s)))) (1000 : Int))) * (v105 (a, ())).1)) (10000 : Int))
theorem M67xe {x : (a67).den} (h : 0 ≤ x.1.2.1 ∧ x.1.2.1 ≤ 90) : M67 x = some (hgt x.1.1 x.1.2.1 x.1.2.2.1, ()) := by
  unfold M67 Q67 hgt
  simp only [p105xe h, cond_true]
theorem p67xe {x : (a67).den} (h : 0 ≤ x.1.2.1 ∧ x.1.2.1 ≤ 90) : p67 x = true := by simp [p67, M67xe h]
theorem v67xe {x : (a67).den} (h : 0 ≤ x.1.2.1 ∧ x.1.2.1 ≤ 90) : v67 x = (hgt x.1.1 x.1.2.1 x.1.2.2.1, ()) := by simp [v67, M67xe h]
theorem M44xe {x : (a44).den} (h : 0 ≤ x.2.1 ∧ x.2.1 ≤ 90) : M44 x = some (hgt x.1 x.2.1 x.2.2.1, ()) := by
  unfold M44 Q44 hgt
  simp only [p91xe h, cond_true, v91xe h]
theorem p44xe {x : (a44).den} (h : 0 ≤ x.2.1 ∧ x.2.1 ≤ 90) : p44 x = true := by simp [p44, M44xe h]
theorem v44xe {x : (a44).den} (h : 0 ≤ x.2.1 ∧ x.2.1 ≤ 90) : v44 x = (hgt x.1 x.2.1 x.2.2.1, ()) := by simp [v44, M44xe h]

theorem spanB_t {a b lo hi : Int} (h : spanB a b lo hi = true) : lo ≤ a ∧ a ≤ b ∧ b ≤ hi := of_decide_eq_true h
theorem inB_t {a lo hi : Int} (h : inB a lo hi = true) : lo ≤ a ∧ a ≤ hi := of_decide_eq_true h
theorem lineB_t {k : lineT} (h : lineB k = true) : (0 ≤ k.1 ∧ k.1 ≤ k.2.1 ∧ k.2.1 ≤ 10000) ∧ (0 ≤ k.2.2.1 ∧ k.2.2.1 ≤ k.2.2.2.1 ∧ k.2.2.2.1 ≤ 90) ∧ 0 ≤ k.2.2.2.2.1 ∧ k.2.2.2.2.1 ≤ k.2.2.2.2.2.1 ∧ k.2.2.2.2.2.1 ≤ 1000 := by
  simp only [lineB, Bool.and_eq_true] at h
  exact ⟨spanB_t h.1.1, spanB_t h.1.2, spanB_t h.2⟩

theorem M17xe (x : (a17).den) : M17 x = some (bif lineB x.1 then ((hgt x.1.1 x.1.2.2.1 x.1.2.2.2.2.2.1, hgt x.1.2.1 x.1.2.2.2.1 x.1.2.2.2.2.1, ()), (0 : Int), ()) else ((0, 0, ()), 2, ())) := by
  unfold M17 Q17
  simp only [p65xe, v65xe, cond_true]
  cases h : lineB x.1 with
  | false => simp
  | true =>
    obtain ⟨_, h2, _⟩ := lineB_t h
    have q1 : p67 ((x.1.1, (x.1.2.2.1, x.1.2.2.2.2.2)), ()) = true := p67xe ⟨h2.1, Int.le_trans h2.2.1 h2.2.2⟩
    have q2 : p67 ((x.1.2.1, (x.1.2.2.2.1, (x.1.2.2.2.2.1, ()))), ()) = true := p67xe ⟨Int.le_trans h2.1 h2.2.1, h2.2.2⟩
    have e1 : v67 ((x.1.1, (x.1.2.2.1, x.1.2.2.2.2.2)), ()) = _ := v67xe ⟨h2.1, Int.le_trans h2.2.1 h2.2.2⟩
    have e2 : v67 ((x.1.2.1, (x.1.2.2.2.1, (x.1.2.2.2.2.1, ()))), ()) = _ := v67xe ⟨Int.le_trans h2.1 h2.2.1, h2.2.2⟩
    simp only [p66, v66, M66, Q66, q1, q2, e1, e2, cond_true, Option.isSome_some, Option.getD_some, Bool.not_true, cond_false]
theorem p17xe (x : (a17).den) : p17 x = true := by simp [p17, M17xe]
theorem v17xt {x : (a17).den} (h : lineB x.1 = true) : v17 x = ((hgt x.1.1 x.1.2.2.1 x.1.2.2.2.2.2.1, hgt x.1.2.1 x.1.2.2.2.1 x.1.2.2.2.2.1, ()), 0, ()) := by simp [v17, M17xe, h]
theorem v17xf {x : (a17).den} (h : lineB x.1 = false) : v17 x = ((0, 0, ()), 2, ()) := by simp [v17, M17xe, h]
theorem M20xe {x : (a20).den} (h : lineB x.1 = true) : M20 x = some ((hgt x.1.1 x.1.2.2.1 x.1.2.2.2.2.2.1, hgt x.1.2.1 x.1.2.2.2.1 x.1.2.2.2.2.1, ()), ()) := by
  obtain ⟨_, h2, _⟩ := lineB_t h
  have q1 : p44 (x.1.1, (x.1.2.2.1, x.1.2.2.2.2.2)) = true := p44xe ⟨h2.1, Int.le_trans h2.2.1 h2.2.2⟩
  have q2 : p44 (x.1.2.1, (x.1.2.2.2.1, (x.1.2.2.2.2.1, ()))) = true := p44xe ⟨Int.le_trans h2.1 h2.2.1, h2.2.2⟩
  have e1 : v44 (x.1.1, (x.1.2.2.1, x.1.2.2.2.2.2)) = _ := v44xe ⟨h2.1, Int.le_trans h2.2.1 h2.2.2⟩
  have e2 : v44 (x.1.2.1, (x.1.2.2.2.1, (x.1.2.2.2.2.1, ()))) = _ := v44xe ⟨Int.le_trans h2.1 h2.2.1, h2.2.2⟩
  unfold M20 Q20
  simp only [q1, q2, e1, e2, cond_true]
theorem p20xe {x : (a20).den} (h : lineB x.1 = true) : p20 x = true := by simp [p20, M20xe h]
theorem v20xe {x : (a20).den} (h : lineB x.1 = true) : v20 x = ((hgt x.1.1 x.1.2.2.1 x.1.2.2.2.2.2.1, hgt x.1.2.1 x.1.2.2.2.1 x.1.2.2.2.2.1, ()), ()) := by simp [v20, M20xe h]

/-- KiteHeights. -/
theorem law3 (x : (a3).den) : M3 x = some (true, ()) := by
  unfold M3 Q3
  simp only [p17xe, p18xe, v18xe, known_p, known_v, cond_true]
  cases h : lineB x.1 with
  | false =>
    have e := v17xf (x := (x.1, ())) h
    simp only [e]
    simp
  | true =>
    have e := v17xt (x := (x.1, ())) h
    have e2 := v20xe (x := (x.1, ())) h
    have e3 := p20xe (x := (x.1, ())) h
    simp only [e, e2, e3]
    simp

/-! truths -/
def truthB (k : lineT) (w a s : Int) : Bool := inB w k.1 k.2.1 && inB a k.2.2.1 k.2.2.2.1 && inB s k.2.2.2.2.1 k.2.2.2.2.2.1
theorem M43xe (x : (a43).den) : M43 x = some (truthB x.1 x.2.1 x.2.2.1 x.2.2.2.1, ()) := by
  unfold M43 Q43 truthB
  simp only [p75xe, v75xe, cond_true]
  by_cases h1 : inB x.2.1 x.1.1 x.1.2.1 = true <;> by_cases h2 : inB x.2.2.1 x.1.2.2.1 x.1.2.2.2.1 = true <;> simp [h1, h2]
theorem p43xe (x : (a43).den) : p43 x = true := by simp [p43, M43xe]
theorem v43xe (x : (a43).den) : v43 x = (truthB x.1 x.2.1 x.2.2.1 x.2.2.2.1, ()) := by simp [v43, M43xe]
theorem truthB_t {k : lineT} {w a s : Int} (h : truthB k w a s = true) : (k.1 ≤ w ∧ w ≤ k.2.1) ∧ (k.2.2.1 ≤ a ∧ a ≤ k.2.2.2.1) ∧ k.2.2.2.2.1 ≤ s ∧ s ≤ k.2.2.2.2.2.1 := by
  simp only [truthB, Bool.and_eq_true] at h
  exact ⟨inB_t h.1.1, inB_t h.1.2, inB_t h.2⟩
theorem M42xe (x : (a42).den) : M42 x = some (bif lineB x.1 && truthB x.1 x.2.1 x.2.2.1 x.2.2.2.1 then (hgt x.2.1 x.2.2.1 x.2.2.2.1, (0 : Int), ()) else (0, 2, ())) := by
  unfold M42 Q42
  simp only [p65xe, v65xe, p73xe, v73xe, cond_true]
  cases h : lineB x.1 with
  | false => simp
  | true =>
    cases h1 : inB x.2.1 x.1.1 x.1.2.1 with
    | false => simp [truthB, h1]
    | true =>
      cases h2 : inB x.2.2.1 x.1.2.2.1 x.1.2.2.2.1 with
      | false => simp [truthB, h1, h2]
      | true =>
        cases h3 : inB x.2.2.2.1 x.1.2.2.2.2.1 x.1.2.2.2.2.2.1 with
        | false => simp [truthB, h1, h2, h3]
        | true =>
          obtain ⟨_, q, _⟩ := lineB_t h
          have := inB_t h2
          have hb : (0 : Int) ≤ x.2.2.1 ∧ (x.2.2.1 : Int) ≤ 90 := ⟨Int.le_trans q.1 this.1, Int.le_trans this.2 q.2.2⟩
          have q1 : p67 (x.2, ()) = true := p67xe hb
          have q2 : v67 (x.2, ()) = _ := v67xe hb
          simp only [truthB, h1, h2, h3, q1, q2, Bool.not_true, cond_false, cond_true, Bool.and_self]
theorem p42xe (x : (a42).den) : p42 x = true := by simp [p42, M42xe]
theorem v42xt {x : (a42).den} (h : lineB x.1 = true) (h' : truthB x.1 x.2.1 x.2.2.1 x.2.2.2.1 = true) : v42 x = (hgt x.2.1 x.2.2.1 x.2.2.2.1, 0, ()) := by simp [v42, M42xe, h, h']
theorem v42xf {x : (a42).den} (h : (lineB x.1 && truthB x.1 x.2.1 x.2.2.1 x.2.2.2.1) = false) : v42 x = (0, 2, ()) := by simp [v42, M42xe, h]

/-- KiteClimbs. -/
theorem law9 (x : (a9).den) : M9 x = some (true, ()) := by
  unfold M9 Q9
  simp only [p42xe, p18xe, v18xe, p43xe, v43xe, known_p, known_v, cond_true]
  cases h : lineB x.1 with
  | false =>
    have e := v42xf (x := (x.1, x.2)) (by show (lineB x.1 && _) = false; rw [h]; rfl)
    simp only [e]
    simp
  | true =>
    cases h' : truthB x.1 x.2.1 x.2.2.1 x.2.2.2.1 with
    | false =>
      have e := v42xf (x := (x.1, x.2)) (by show (lineB x.1 && truthB x.1 x.2.1 x.2.2.1 x.2.2.2.1) = false; rw [h, h']; rfl)
      simp only [e]
      simp
    | true =>
      have e := v42xt (x := (x.1, x.2)) h h'
      obtain ⟨_, q, _⟩ := lineB_t h
      obtain ⟨_, q2, _⟩ := truthB_t h'
      have hb : (0 : Int) ≤ x.2.2.1 ∧ (x.2.2.1 : Int) ≤ 90 := ⟨Int.le_trans q.1 q2.1, Int.le_trans q2.2 q.2.2⟩
      have e2 : v44 x.2 = _ := v44xe hb
      have e3 : p44 x.2 = true := p44xe hb
      simp only [e, e2, e3]
      simp

/-! what heights are -/
theorem tdiv_mono {a b c : Int} (h : 0 ≤ a ∧ a ≤ b) (hc : 0 < c) : Int.tdiv a c ≤ Int.tdiv b c := by
  rw [Int.tdiv_eq_ediv_of_nonneg h.1, Int.tdiv_eq_ediv_of_nonneg (by omega)]
  exact Int.ediv_le_ediv hc h.2
theorem tdiv_nn {a c : Int} (h : 0 ≤ a) (hc : 0 < c) : 0 ≤ Int.tdiv a c := Int.tdiv_nonneg h (by omega)
theorem tdiv_le {a b c : Int} (h : 0 ≤ a) (hc : 0 < c) (hb : a ≤ b * c) : Int.tdiv a c ≤ b := by
  rw [Int.tdiv_eq_ediv_of_nonneg h]
  exact Int.ediv_le_of_le_mul hc hb

def str (w s : Int) : Int := Int.tdiv (w * (1000 - s)) 1000
theorem str_bd {w s : Int} (hw : 0 ≤ w ∧ w ≤ 10000) (hs : 0 ≤ s ∧ s ≤ 1000) : 0 ≤ str w s ∧ str w s ≤ w := by
  have h0 : 0 ≤ w * (1000 - s) := Int.mul_nonneg hw.1 (by omega)
  refine ⟨tdiv_nn h0 (by omega), tdiv_le h0 (by omega) ?_⟩
  exact Int.mul_le_mul_of_nonneg_left (by omega) hw.1
theorem hgt_e {w a s : Int} (hw : 0 ≤ w ∧ w ≤ 10000) (ha : 0 ≤ a ∧ a ≤ 90) (hs : 0 ≤ s ∧ s ≤ 1000) : hgt w a s = Int.tdiv (str w s * (v105 (a, ())).1) 10000 := by
  unfold hgt
  obtain ⟨b1, b2⟩ := sine_bd ha
  obtain ⟨c1, c2⟩ := str_bd hw hs
  have h0 : 0 ≤ w * (1000 - s) := Int.mul_nonneg hw.1 (by omega)
  have h1 : w * (1000 - s) ≤ 10000 * 1000 := Int.mul_le_mul hw.2 (by omega) (by omega) (by omega)
  have h2 : 0 ≤ str w s * (v105 (a, ())).1 := Int.mul_nonneg c1 b1
  have h3 : str w s * (v105 (a, ())).1 ≤ 10000 * 10000 := Int.mul_le_mul (by omega) b2 b1 (by omega)
  rw [W_id (n := 1000 - s) ⟨by omega, by omega⟩, W_id (n := w * (1000 - s)) ⟨by omega, by omega⟩]
  show W (Int.tdiv (W (W (str w s) * _)) 10000) = _
  rw [W_id (n := str w s) ⟨by omega, by omega⟩, W_id (n := str w s * _) ⟨by omega, by omega⟩]
  have h4 := tdiv_nn h2 (c := 10000) (by omega)
  have h5 : Int.tdiv (str w s * (v105 (a, ())).1) 10000 ≤ 10000 := tdiv_le h2 (by omega) h3
  rw [W_id ⟨by omega, by omega⟩]
theorem str_mono {w w' s s' : Int} (hw : 0 ≤ w ∧ w ≤ w' ∧ w' ≤ 10000) (hs : 0 ≤ s' ∧ s' ≤ s ∧ s ≤ 1000) : str w s ≤ str w' s' := by
  refine tdiv_mono ⟨Int.mul_nonneg hw.1 (by omega), ?_⟩ (by omega)
  exact Int.mul_le_mul hw.2.1 (by omega) (by omega) (by omega)
theorem hgt_mono {w w' a a' s s' : Int} (hw : 0 ≤ w ∧ w ≤ w' ∧ w' ≤ 10000) (ha : 0 ≤ a ∧ a ≤ a' ∧ a' ≤ 90) (hs : 0 ≤ s' ∧ s' ≤ s ∧ s ≤ 1000) : hgt w a s ≤ hgt w' a' s' := by
  rw [hgt_e ⟨hw.1, by omega⟩ ⟨ha.1, by omega⟩ ⟨by omega, hs.2.2⟩, hgt_e ⟨by omega, hw.2.2⟩ ⟨by omega, ha.2.2⟩ ⟨hs.1, by omega⟩]
  have c := str_bd (w := w) (s := s) ⟨hw.1, by omega⟩ ⟨by omega, hs.2.2⟩
  have b := sine_bd (a := a) ⟨ha.1, by omega⟩
  have m1 := str_mono hw hs
  have m2 := sine_mono ha
  exact tdiv_mono ⟨Int.mul_nonneg c.1 b.1, Int.mul_le_mul m1 m2 b.1 (by omega)⟩ (by omega)
theorem hgt_bd {w a s : Int} (hw : 0 ≤ w ∧ w ≤ 10000) (ha : 0 ≤ a ∧ a ≤ 90) (hs : 0 ≤ s ∧ s ≤ 1000) : 0 ≤ hgt w a s ∧ hgt w a s ≤ w := by
  rw [hgt_e hw ha hs]
  obtain ⟨b1, b2⟩ := sine_bd ha
  obtain ⟨c1, c2⟩ := str_bd hw hs
  have h2 : 0 ≤ str w s * (v105 (a, ())).1 := Int.mul_nonneg c1 b1
  refine ⟨tdiv_nn h2 (by omega), tdiv_le h2 (by omega) ?_⟩
  exact Int.mul_le_mul c2 b2 b1 hw.1

/-- KiteHolds. -/
theorem law10' (w0 w1 a0 a1 s0 s1 w a s : Int) : M10 ((w0, w1, a0, a1, s0, s1, ()), w, a, s, ()) = some (true, ()) := by
  unfold M10 Q10
  simp only [p17xe, p42xe, p18xe, v18xe, p43xe, v43xe, p45xe, v45xe, p46xe, v46xe, known_p, known_v, cond_true]
  cases h : lineB (w0, w1, a0, a1, s0, s1, ()) with
  | false => simp
  | true =>
    cases h' : truthB (w0, w1, a0, a1, s0, s1, ()) w a s with
    | false => simp
    | true =>
      obtain ⟨q1, q2, q3⟩ := lineB_t h
      obtain ⟨r1, r2, r3⟩ := truthB_t h'
      simp only at q1 q2 q3 r1 r2 r3
      have e0 := v17xt (x := ((w0, w1, a0, a1, s0, s1, ()), ())) h
      have e1 := v42xt (x := ((w0, w1, a0, a1, s0, s1, ()), w, a, s, ())) h h'
      have e2 := v42xt (x := ((w0, w1, a0, a1, s0, s1, ()), w0, a0, s1, ())) h (by simp [truthB, inB]; omega)
      have e3 := v42xt (x := ((w0, w1, a0, a1, s0, s1, ()), w1, a1, s0, ())) h (by simp [truthB, inB]; omega)
      simp only [e0, e1, e2, e3]
      have m1 := hgt_mono (w := w0) (w' := w) (a := a0) (a' := a) (s := s1) (s' := s) ⟨by omega, by omega, by omega⟩ ⟨by omega, by omega, by omega⟩ ⟨by omega, by omega, by omega⟩
      have m2 := hgt_mono (w := w) (w' := w1) (a := a) (a' := a1) (s := s) (s' := s0) ⟨by omega, by omega, by omega⟩ ⟨by omega, by omega, by omega⟩ ⟨by omega, by omega, by omega⟩
      obtain ⟨b1, b2⟩ := hgt_bd (w := w) (a := a) (s := s) ⟨by omega, by omega⟩ ⟨by omega, by omega⟩ ⟨by omega, by omega⟩
      simp [inB, m1, m2, b1, b2]
theorem law10 (x : (a10).den) : M10 x = some (true, ()) := by
  obtain ⟨⟨w0, w1, a0, a1, s0, s1, ⟨⟩⟩, w, a, s, ⟨⟩⟩ := x
  exact law10' w0 w1 a0 a1 s0 s1 w a s
end Go.Dm

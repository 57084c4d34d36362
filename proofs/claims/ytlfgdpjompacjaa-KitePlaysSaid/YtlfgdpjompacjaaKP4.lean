/- Levels, and what is above a height. -/
import Derived.Test.YtlfgdpjompacjaaKP3
set_option linter.unusedVariables false
set_option linter.unusedSimpArgs false
namespace Go.Dm
set_option maxRecDepth 100000

abbrev rowS : Type := Sl (Int × Int × Unit)
def e0 : rowI := ⟨0, fun _ => ((0 : Int), ())⟩
def eS : rowS := ⟨0, fun _ => ((0 : Int), ((0 : Int), ()))⟩
def cold (t : traceT) (j : Nat) : rowI := tab e0 (fun j => ((t.2.2.1.g j).2.1, ())) j
def warm (t : traceT) (j : Nat) : rowI := tab e0 (fun j => (t.2.2.1.g j).2.2) j
theorem cold_n (t : traceT) (j : Nat) : (cold t j).n = j := by unfold cold; rw [tab_n]; show 0 + j = j; omega
theorem warm_n (t : traceT) (j : Nat) : (warm t j).n = j := by unfold warm; rw [tab_n]; show 0 + j = j; omega
def lowR (t : traceT) : rowI := hrow t t.1 (cold t t.2.2.1.n) (t.2.2.1.n - 1)
def highR (t : traceT) : rowI := hrow t t.2.1 (warm t t.2.2.1.n) (t.2.2.1.n - 1)
def spans (t : traceT) (j : Nat) : rowS := tab eS (fun j => (((lowR t).g j).1, (highR t).g j)) j
theorem spans_n (t : traceT) (j : Nat) : (spans t j).n = j := by unfold spans; rw [tab_n]; show 0 + j = j; omega
theorem spans_g (t : traceT) {i j : Nat} (h : i < j) : (spans t j).g i = (((lowR t).g i).1, (highR t).g i) := tab_g0 (s0 := eS) rfl h

theorem L40x0_e (t : traceT) (h : t.2.2.1.n ≤ 100) :
    L40x0 ((), (t.2.2.1, (((t.2.2.1.n : Nat) : Int), (t, ())))) (e0, (e0, ((0 : Int), ()))) = .exit 0 (cold t t.2.2.1.n, (warm t t.2.2.1.n, ())) := by
  unfold L40x0
  refine iterQ_steps (ps := vs40x0) t.2.2.1.n big (fun j => (cold t j, (warm t j, ((j : Int), ())))) (big_lt (by omega)) (fun j hj => ?_) ?_
  · have e1 : ((j : Int) < ((t.2.2.1.n : Nat) : Int)) := by omega
    have e3 : W ((j : Int) + 1) = ((j + 1 : Nat) : Int) := by rw [W_id ⟨by omega, by omega⟩]; rfl
    have e4 : ((cold t j).n + 1) * 8 ≤ 140737488355328 := by rw [cold_n]; omega
    have e5 : ((warm t j).n + 1) * 8 ≤ 140737488355328 := by rw [warm_n]; omega
    unfold S40x0 Z40x0
    simp only [e1, e3, e4, e5, decide_true, cond_true, Int.toNat_natCast, Int.natCast_nonneg, and_self]
    rfl
  · unfold S40x0 Z40x0
    simp
theorem L40x1_e {t : traceT} (h : 1 ≤ t.2.2.1.n ∧ t.2.2.1.n ≤ 100) :
    L40x1 (lowR t, (highR t, (((t.2.2.1.n : Nat) : Int), ()))) (eS, ((0 : Int), ())) = .exit 2 (spans t t.2.2.1.n, ()) := by
  unfold L40x1
  refine iterQ_steps (ps := vs40x1) t.2.2.1.n big (fun j => (spans t j, ((j : Int), ()))) (big_lt (by omega)) (fun j hj => ?_) ?_
  · have e1 : ((j : Int) < ((t.2.2.1.n : Nat) : Int)) := by omega
    have e3 : W ((j : Int) + 1) = ((j + 1 : Nat) : Int) := by rw [W_id ⟨by omega, by omega⟩]; rfl
    have e4 : ((spans t j).n + 1) * 16 ≤ 140737488355328 := by rw [spans_n]; omega
    have e5 : ((j : Int) < (((lowR t).n : Nat) : Int)) := by unfold lowR; rw [hrow_n]; omega
    have e6 : ((j : Int) < (((highR t).n : Nat) : Int)) := by unfold highR; rw [hrow_n]; omega
    unfold S40x1 Z40x1
    simp only [e1, e3, e4, e5, e6, decide_true, cond_true, Int.toNat_natCast, Int.natCast_nonneg, and_self]
    rfl
  · unfold S40x1 Z40x1
    simp
theorem M40xe {x : (a40).den} (h : x.1.2.2.1.n ≤ 100) : M40 x = some (bif traceB x.1 then (spans x.1 x.1.2.2.1.n, ((0 : Int), ())) else (eS, ((2 : Int), ()))) := by
  unfold M40 Q40
  have q0 : p72 (x.1, ()) = true := p72xe (by show x.1.2.2.1.n ≤ _; omega)
  have q1 : v72 (x.1, ()) = (traceB x.1, ()) := v72xe (by show x.1.2.2.1.n ≤ _; omega)
  simp only [q0, q1, cond_true]
  cases ht : traceB x.1 with
  | false => simp [eS]
  | true =>
    obtain ⟨_, _, h2, h3⟩ := traceB_t ht
    have k := L40x0_e x.1 h
    have k1 := L40x1_e (t := x.1) ⟨h2, h⟩
    unfold e0 at k
    unfold eS lowR highR at k1
    have c1 := v74xe (x := (x.1, (x.1.1, (cold x.1 x.1.2.2.1.n, ())))) ht (cold_n _ _)
    have c2 := v74xe (x := (x.1, (x.1.2.1, (warm x.1 x.1.2.2.1.n, ())))) ht (warm_n _ _)
    have c3 := p74xe (x := (x.1, (x.1.1, (cold x.1 x.1.2.2.1.n, ())))) ht (cold_n _ _)
    have c4 := p74xe (x := (x.1, (x.1.2.1, (warm x.1 x.1.2.2.1.n, ())))) ht (warm_n _ _)
    simp only [Bool.not_true, cond_false, k, xe40x0e0, ge40x0e0, xe40x1e2, ge40x1e2, cond_true, c1, c2, c3, c4]
    simp only [k1, xe40x1e2, ge40x1e2, cond_true]
theorem p40xe {x : (a40).den} (h : x.1.2.2.1.n ≤ 100) : p40 x = true := by simp [p40, M40xe h]
theorem v40xt {x : (a40).den} (h : x.1.2.2.1.n ≤ 100) (ht : traceB x.1 = true) : v40 x = (spans x.1 x.1.2.2.1.n, ((0 : Int), ())) := by simp [v40, M40xe h, ht]
theorem v40xf {x : (a40).den} (h : x.1.2.2.1.n ≤ 100) (ht : traceB x.1 = false) : v40 x = (eS, ((2 : Int), ())) := by simp [v40, M40xe h, ht]

theorem M55xf {t : traceT} (h : t.2.2.1.n ≤ 100) : M55 (t, (false, ())) = some (cold t t.2.2.1.n, ()) := by
  have hl : L55x0 (false, ((), (t, ()))) (e0, ((0 : Int), ())) = .exit 0 (cold t t.2.2.1.n, ()) := by
    unfold L55x0
    refine iterQ_steps (ps := vs55x0) t.2.2.1.n big (fun j => (cold t j, ((j : Int), ()))) (big_lt (by omega)) (fun j hj => ?_) ?_
    · have e1 : ((j : Int) < ((t.2.2.1.n : Nat) : Int)) := by omega
      have e3 : W ((j : Int) + 1) = ((j + 1 : Nat) : Int) := by rw [W_id ⟨by omega, by omega⟩]; rfl
      have e4 : ((cold t j).n + 1) * 8 ≤ 140737488355328 := by rw [cold_n]; omega
      unfold S55x0 Z55x0
      simp only [e1, e3, e4, decide_true, cond_true, cond_false, Int.toNat_natCast, Int.natCast_nonneg, and_self]
      rfl
    · unfold S55x0 Z55x0
      simp
  unfold e0 at hl
  unfold M55 Q55
  simp only [hl, xe55x0e0, ge55x0e0, cond_true]
theorem M55xt {t : traceT} (h : t.2.2.1.n ≤ 100) : M55 (t, (true, ())) = some (warm t t.2.2.1.n, ()) := by
  have hl : L55x0 (true, ((), (t, ()))) (e0, ((0 : Int), ())) = .exit 0 (warm t t.2.2.1.n, ()) := by
    unfold L55x0
    refine iterQ_steps (ps := vs55x0) t.2.2.1.n big (fun j => (warm t j, ((j : Int), ()))) (big_lt (by omega)) (fun j hj => ?_) ?_
    · have e1 : ((j : Int) < ((t.2.2.1.n : Nat) : Int)) := by omega
      have e3 : W ((j : Int) + 1) = ((j + 1 : Nat) : Int) := by rw [W_id ⟨by omega, by omega⟩]; rfl
      have e4 : ((warm t j).n + 1) * 8 ≤ 140737488355328 := by rw [warm_n]; omega
      unfold S55x0 Z55x0
      simp only [e1, e3, e4, decide_true, cond_true, cond_false, Int.toNat_natCast, Int.natCast_nonneg, and_self]
      rfl
    · unfold S55x0 Z55x0
      simp
  unfold e0 at hl
  unfold M55 Q55
  simp only [hl, xe55x0e0, ge55x0e0, cond_true]
theorem p55xf {t : traceT} (h : t.2.2.1.n ≤ 100) : p55 (t, (false, ())) = true := by simp [p55, M55xf h]
theorem p55xt {t : traceT} (h : t.2.2.1.n ≤ 100) : p55 (t, (true, ())) = true := by simp [p55, M55xt h]
theorem v55xf {t : traceT} (h : t.2.2.1.n ≤ 100) : v55 (t, (false, ())) = (cold t t.2.2.1.n, ()) := by simp [v55, M55xf h]
theorem v55xt {t : traceT} (h : t.2.2.1.n ≤ 100) : v55 (t, (true, ())) = (warm t t.2.2.1.n, ()) := by simp [v55, M55xt h]

theorem L52xe {t : traceT} (h : 1 ≤ t.2.2.1.n ∧ t.2.2.1.n ≤ 100) :
    L52x0 (lowR t, (highR t, ())) (eS, ((0 : Int), ())) = .exit 0 (spans t t.2.2.1.n, ()) := by
  unfold L52x0
  have hl : (lowR t).n = t.2.2.1.n := by unfold lowR; rw [hrow_n]; omega
  refine iterQ_steps (ps := vs52x0) t.2.2.1.n big (fun j => (spans t j, ((j : Int), ()))) (big_lt (by omega)) (fun j hj => ?_) ?_
  · have e1 : ((j : Int) < ((t.2.2.1.n : Nat) : Int)) := by omega
    have e3 : W ((j : Int) + 1) = ((j + 1 : Nat) : Int) := by rw [W_id ⟨by omega, by omega⟩]; rfl
    have e4 : ((spans t j).n + 1) * 16 ≤ 140737488355328 := by rw [spans_n]; omega
    have e6 : ((j : Int) < (((highR t).n : Nat) : Int)) := by unfold highR; rw [hrow_n]; omega
    unfold S52x0 Z52x0
    simp only [hl, e1, e3, e4, e6, decide_true, cond_true, Int.toNat_natCast, Int.natCast_nonneg, and_self]
    rfl
  · unfold S52x0 Z52x0
    simp [hl]
theorem M52xe {x : (a52).den} (ht : traceB x.1 = true) : M52 x = some (spans x.1 x.1.2.2.1.n, ()) := by
  obtain ⟨_, _, h2, h3⟩ := traceB_t ht
  have k1 := L52xe (t := x.1) ⟨h2, by omega⟩
  unfold eS lowR highR at k1
  have c1 := v26xe (x := (x.1, (x.1.1, (cold x.1 x.1.2.2.1.n, ())))) ht (cold_n _ _)
  have c2 := v26xe (x := (x.1, (x.1.2.1, (warm x.1 x.1.2.2.1.n, ())))) ht (warm_n _ _)
  have c3 := p26xe (x := (x.1, (x.1.1, (cold x.1 x.1.2.2.1.n, ())))) ht (cold_n _ _)
  have c4 := p26xe (x := (x.1, (x.1.2.1, (warm x.1 x.1.2.2.1.n, ())))) ht (warm_n _ _)
  unfold M52 Q52
  simp only [p55xf (t := x.1) (by omega), p55xt (t := x.1) (by omega), v55xf (t := x.1) (by omega), v55xt (t := x.1) (by omega), c1, c2, c3, c4, cond_true]
  simp only [k1, xe52x0e0, ge52x0e0, cond_true]
theorem p52xe {x : (a52).den} (ht : traceB x.1 = true) : p52 x = true := by simp [p52, M52xe ht]
theorem v52xe {x : (a52).den} (ht : traceB x.1 = true) : v52 x = (spans x.1 x.1.2.2.1.n, ()) := by simp [v52, M52xe ht]

theorem M51xself (a : rowS) (h : a.n ≤ 140737488355328) : M51 (a, (a, ())) = some (true, ()) := by
  unfold M51 Q51
  have hl : L51x0 (a, (a, ())) ((0 : Int), ()) = .exit 0 () := by
    unfold L51x0
    refine iterQ_steps (ps := vs51x0) a.n big (fun j => ((j : Int), ())) (big_lt h) (fun j hj => ?_) ?_
    · have e1 : ((j : Int) < ((a.n : Nat) : Int)) := by omega
      have e3 : W ((j : Int) + 1) = ((j + 1 : Nat) : Int) := by rw [W_id ⟨by omega, by omega⟩]; rfl
      unfold S51x0 Z51x0
      simp [e1, e3]
    · unfold S51x0 Z51x0
      simp
  simp [hl]
theorem spans_self (a : rowS) (h : a.n ≤ 140737488355328) : p51 (a, (a, ())) = true ∧ v51 (a, (a, ())) = (true, ()) := by
  simp [p51, v51, M51xself a h]

/-! the first of which something holds -/
def fstI (c : Nat → Bool) : Nat → Int
  | 0 => -1
  | j + 1 => bif decide (fstI c j < 0) && c j then (j : Int) else fstI c j
def bwdI (c : Nat → Bool) (n : Nat) : Nat → Int
  | 0 => -1
  | k + 1 => bif c (n - 1 - k) then ((n - 1 - k : Nat) : Int) else bwdI c n k
theorem fstI_spec (c : Nat → Bool) : ∀ n, (fstI c n = -1 ∧ ∀ i, i < n → c i = false) ∨ ∃ k : Nat, k < n ∧ fstI c n = (k : Int) ∧ c k = true ∧ ∀ i, i < k → c i = false
  | 0 => .inl ⟨rfl, fun _ h => by omega⟩
  | n + 1 => by
    rcases fstI_spec c n with ⟨h1, h2⟩ | ⟨k, h1, h2, h3, h4⟩
    · cases hc : c n with
      | true => exact .inr ⟨n, by omega, by simp [fstI, h1, hc], hc, h2⟩
      | false => exact .inl ⟨by simp [fstI, h1, hc], fun i hi => by
          by_cases e : i = n
          · rw [e]; exact hc
          · exact h2 i (by omega)⟩
    · exact .inr ⟨k, by omega, by have : ¬ ((k : Int) < 0) := by omega
                                  simp [fstI, h2, this], h3, h4⟩
theorem bwdI_spec (c : Nat → Bool) (n : Nat) : ∀ k, k ≤ n → (bwdI c n k = -1 ∧ ∀ i, n - k ≤ i → i < n → c i = false) ∨ ∃ j : Nat, n - k ≤ j ∧ j < n ∧ bwdI c n k = (j : Int) ∧ c j = true ∧ ∀ i, n - k ≤ i → i < j → c i = false
  | 0, _ => .inl ⟨rfl, fun i h h' => by omega⟩
  | k + 1, hk => by
    cases hc : c (n - 1 - k) with
    | true => exact .inr ⟨n - 1 - k, by omega, by omega, by simp [bwdI, hc], hc, fun i h h' => by omega⟩
    | false =>
      rcases bwdI_spec c n k (by omega) with ⟨h1, h2⟩ | ⟨j, h1, h2, h3, h4, h5⟩
      · refine .inl ⟨by simp [bwdI, hc, h1], fun i h h' => ?_⟩
        by_cases e : i = n - 1 - k
        · rw [e]; exact hc
        · exact h2 i (by omega) h'
      · refine .inr ⟨j, by omega, h2, by simp [bwdI, hc, h3], h4, fun i h h' => ?_⟩
        by_cases e : i = n - 1 - k
        · rw [e]; exact hc
        · exact h5 i (by omega) h'
theorem bwd_fst (c : Nat → Bool) (n : Nat) : bwdI c n n = fstI c n := by
  rcases fstI_spec c n with ⟨h1, h2⟩ | ⟨k, h1, h2, h3, h4⟩ <;> rcases bwdI_spec c n n (Nat.le_refl _) with ⟨g1, g2⟩ | ⟨j, g1, g2, g3, g4, g5⟩
  · rw [h1, g1]
  · have := h2 j g2; rw [g4] at this; cases this
  · have := g2 k (by omega) h1; rw [h3] at this; cases this
  · have : j = k := by
      rcases Nat.lt_trichotomy j k with h | h | h
      · have := h4 j h; rw [g4] at this; cases this
      · exact h
      · have := g5 k (by omega) h; rw [h3] at this; cases this
    rw [h2, g3, this]
theorem fstI_lt (c : Nat → Bool) (n : Nat) : -1 ≤ fstI c n ∧ fstI c n < n := by
  rcases fstI_spec c n with ⟨h1, _⟩ | ⟨k, h1, h2, _⟩ <;> omega

def canC (s : rowS) (h : Int) (i : Nat) : Bool := decide (h < (s.g i).2.1)
def sureC (s : rowS) (h : Int) (i : Nat) : Bool := decide (h < (s.g i).1)

theorem L50xe (s : rowS) (h : Int) (hn : s.n ≤ 100) :
    L50x0 (h, (s, (((s.n : Nat) : Int), ()))) ((-1 : Int), ((-1 : Int), ((0 : Int), ()))) = .exit 0 (fstI (canC s h) s.n, (fstI (sureC s h) s.n, ())) := by
  unfold L50x0
  refine iterQ_steps (ps := vs50x0) s.n big (fun j => (fstI (canC s h) j, (fstI (sureC s h) j, ((j : Int), ())))) (big_lt (by omega)) (fun j hj => ?_) ?_
  · have e1 : ((j : Int) < ((s.n : Nat) : Int)) := by omega
    have e3 : W ((j : Int) + 1) = ((j + 1 : Nat) : Int) := by rw [W_id ⟨by omega, by omega⟩]; rfl
    unfold S50x0 Z50x0
    simp only [e1, e3, decide_true, cond_true, Int.toNat_natCast, Int.natCast_nonneg, and_self, fstI]
    by_cases h1 : fstI (canC s h) j < 0 <;> by_cases h2 : h < (s.g j).2.1 <;> by_cases h3 : fstI (sureC s h) j < 0 <;> by_cases h4 : h < (s.g j).1 <;> simp [h1, h2, h3, h4, canC, sureC]
  · unfold S50x0 Z50x0
    simp
theorem L54xe (s : rowS) (h : Int) (hn : s.n ≤ 100) :
    L54x0 (h, (s, ())) ((-1 : Int), ((-1 : Int), ((W ((s.n : Int) - 1)), ()))) = .exit 0 (fstI (canC s h) s.n, (fstI (sureC s h) s.n, ())) := by
  unfold L54x0
  rw [← bwd_fst, ← bwd_fst, W_id ⟨by omega, by omega⟩, show (s.n : Int) - 1 = (s.n : Int) - 1 - ((0 : Nat) : Int) by omega]
  refine iterQ_steps (ps := vs54x0) s.n big (fun k => (bwdI (canC s h) s.n k, (bwdI (sureC s h) s.n k, ((s.n : Int) - 1 - k, ())))) (big_lt (by omega)) (fun j hj => ?_) ?_
  · have e0 : (s.n : Int) - 1 - j = ((s.n - 1 - j : Nat) : Int) := by omega
    have e1 : (((s.n - 1 - j : Nat) : Int) < ((s.n : Nat) : Int)) := by omega
    have e3 : W (((s.n - 1 - j : Nat) : Int) - 1) = (s.n : Int) - 1 - ((j + 1 : Nat) : Int) := by rw [W_id ⟨by omega, by omega⟩]; omega
    unfold S54x0 Z54x0
    simp only [e0, e1, e3, decide_true, cond_true, Int.toNat_natCast, Int.natCast_nonneg, and_self, bwdI]
    by_cases h2 : h < (s.g (s.n - 1 - j)).2.1 <;> by_cases h4 : h < (s.g (s.n - 1 - j)).1 <;> simp [h2, h4, canC, sureC]
  · have : ¬ ((0 : Int) ≤ (s.n : Int) - 1 - ((s.n : Nat) : Int)) := by omega
    unfold S54x0 Z54x0
    simp only [this, decide_false, cond_false]

def farB (h : Int) : Bool := inB h (-100000) 100000
theorem M53xe (x : (a53).den) : M53 x = some (farB x.1, ()) := by unfold M53 Q53; simp [p75xe, v75xe, farB]
theorem p53xe (x : (a53).den) : p53 x = true := by simp [p53, M53xe]
theorem v53xe (x : (a53).den) : v53 x = (farB x.1, ()) := by simp [v53, M53xe]

def canI (t : traceT) (h : Int) : Int := fstI (canC (spans t t.2.2.1.n) h) t.2.2.1.n
def sureI (t : traceT) (h : Int) : Int := fstI (sureC (spans t t.2.2.1.n) h) t.2.2.1.n

theorem M50xf {t : traceT} {h : Int} (hn : t.2.2.1.n ≤ 100) (hf : (traceB t && farB h) = false) : M50 (t, (h, ())) = some (0, (0, (2, ()))) := by
  unfold M50 Q50
  simp only [p40xe (x := (t, ())) hn, p102xe, v102xe, cond_true]
  cases ht : traceB t with
  | false => simp [v40xf (x := (t, ())) hn ht]
  | true =>
    rw [ht, Bool.true_and] at hf
    unfold farB at hf
    simp [v40xt (x := (t, ())) hn ht, hf]
theorem M50xt {t : traceT} {h : Int} (hn : t.2.2.1.n ≤ 100) (ht : traceB t = true) (hf : farB h = true) : M50 (t, (h, ())) = some (bif decide (canI t h < 0) then (0, (0, (5, ()))) else (canI t h, (sureI t h, (0, ())))) := by
  unfold farB at hf
  have k := L50xe (spans t t.2.2.1.n) h (by rw [spans_n]; exact hn)
  rw [spans_n] at k
  unfold M50 Q50 canI sureI
  simp only [p40xe (x := (t, ())) hn, v40xt (x := (t, ())) hn ht, p102xe, v102xe, hf, k, cond_true, decide_true, Bool.not_true, cond_false, xe50x0e0, ge50x0e0, spans_n]
  cases decide (fstI (canC (spans t t.2.2.1.n) h) t.2.2.1.n < 0) <;> rfl
theorem p50xe (x : (a50).den) (hn : x.1.2.2.1.n ≤ 100) : p50 x = true := by
  obtain ⟨t, h, ⟨⟩⟩ := x
  cases ht : traceB t && farB h with
  | false => simp [p50, M50xf (t := t) (h := h) hn ht]
  | true =>
    rw [Bool.and_eq_true] at ht
    simp [p50, M50xt (t := t) (h := h) hn ht.1 ht.2]
theorem v50xf {t : traceT} {h : Int} (hn : t.2.2.1.n ≤ 100) (hf : (traceB t && farB h) = false) : v50 (t, (h, ())) = (0, (0, (2, ()))) := by simp [v50, M50xf hn hf]
theorem v50xn {t : traceT} {h : Int} (hn : t.2.2.1.n ≤ 100) (ht : traceB t = true) (hf : farB h = true) (hc : canI t h < 0) : v50 (t, (h, ())) = (0, (0, (5, ()))) := by simp [v50, M50xt hn ht hf, hc]
theorem v50xt {t : traceT} {h : Int} (hn : t.2.2.1.n ≤ 100) (ht : traceB t = true) (hf : farB h = true) (hc : ¬ canI t h < 0) : v50 (t, (h, ())) = (canI t h, (sureI t h, (0, ()))) := by simp [v50, M50xt hn ht hf, hc]
theorem M54xe {t : traceT} {h : Int} (hn : t.2.2.1.n ≤ 100) (ht : traceB t = true) : M54 (t, (h, ())) = some (canI t h, (sureI t h, ())) := by
  have k := L54xe (spans t t.2.2.1.n) h (by rw [spans_n]; exact hn)
  rw [spans_n] at k
  unfold M54 Q54 canI sureI
  simp only [p52xe (x := (t, ())) ht, v52xe (x := (t, ())) ht, k, cond_true, xe54x0e0, ge54x0e0, spans_n]
theorem p54xe {t : traceT} {h : Int} (hn : t.2.2.1.n ≤ 100) (ht : traceB t = true) : p54 (t, (h, ())) = true := by simp [p54, M54xe hn ht]
theorem v54xe {t : traceT} {h : Int} (hn : t.2.2.1.n ≤ 100) (ht : traceB t = true) : v54 (t, (h, ())) = (canI t h, (sureI t h, ())) := by simp [v54, M54xe hn ht]

/-- KiteLevels. -/
theorem law12' (t : traceT) (h : Int) : M12 (t, (h, ())) = some (true, ()) := by
  unfold M12 Q12
  simp only [p21xe, v21xe, p53xe, v53xe, known_p, known_v, cond_true]
  by_cases h0 : ((t.2.2.1.n : Nat) : Int) ≤ 11
  · have hn : t.2.2.1.n ≤ 100 := by omega
    have b0 : t.2.2.1.n ≤ 140737488355328 := by omega
    have q2 : p23 (t, ()) = true := p23xe b0
    have q3 : v23 (t, ()) = (traceB t, ()) := v23xe b0
    simp only [h0, q2, q3, p40xe (x := (t, ())) hn, p50xe (t, (h, ())) hn, decide_true, Bool.not_true, cond_true, cond_false]
    cases ht : traceB t with
    | false =>
      simp [v40xf (x := (t, ())) hn ht, v50xf (t := t) (h := h) hn (by rw [ht]; rfl), eS]
    | true =>
      obtain ⟨s1, s2⟩ := spans_self (spans t t.2.2.1.n) (by rw [spans_n]; exact b0)
      simp only [v40xt (x := (t, ())) hn ht, p52xe (x := (t, ())) ht, v52xe (x := (t, ())) ht, s1, s2, decide_true, Bool.not_true, cond_true, cond_false]
      cases hf : farB h with
      | false =>
        simp [v50xf (t := t) (h := h) hn (by rw [ht, hf]; rfl)]
      | true =>
        by_cases hc : canI t h < 0
        · simp [v50xn hn ht hf hc, p54xe hn ht, v54xe hn ht, hc]
        · simp [v50xt hn ht hf hc, p54xe hn ht, v54xe hn ht, hc]
  · simp [h0]
theorem law12 (x : (a12).den) : M12 x = some (true, ()) := by
  obtain ⟨t, h, ⟨⟩⟩ := x
  exact law12' t h
end Go.Dm

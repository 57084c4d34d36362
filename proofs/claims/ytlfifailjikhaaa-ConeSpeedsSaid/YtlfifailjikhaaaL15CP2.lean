/- Watches: delays, and pairs of reports that are an alarm. -/
import Derived.Test.YtlfifailjikhaaaL15CP1
set_option linter.unusedVariables false
set_option linter.unusedSimpArgs false
namespace Go.Dm
set_option maxRecDepth 100000

/-! delays -/
def delC (d : rowI) (s : Sl repT) (j : Nat) : Bool := inB (d.g j).1 (s.g j).2.2.2.1 (s.g j).2.2.2.2.1
def delB (w : wT) (d : rowI) : Bool := decide (d.n = w.2.1.n) && (List.range w.2.1.n).all (delC d w.2.1)
theorem M93xe (x : Int) (r : repT) : M93 (no_index (x, (r, ()))) = some (inB x r.2.2.2.1 r.2.2.2.2.1, ()) := by
  unfold M93 Q93; simp only [M63xe, cl_some]
theorem eq_nat (n m : Nat) : decide ((n : Int) = (m : Int)) = decide (n = m) := by
  by_cases h : n = m
  · simp [h]
  · have h' : ¬ (n : Int) = m := by omega
    simp [h, h']
theorem L92xe (d : rowI) (s : Sl repT) (F : Int × repT × Unit → Bool × (Bool × Unit)) (hF : ∀ x r, F (x, (r, ())) = (true, (inB x r.2.2.2.1 r.2.2.2.2.1, ()))) (h : s.n ≤ 140737488355328) (hd : d.n = s.n) :
    L92x0 (no_index (s, (F, (d, (((d.n : Nat) : Int), ()))))) (no_index ((0 : Int), ())) = bif (List.range s.n).all (delC d s) then .exit 0 () else .ret (false, ()) := by
  unfold L92x0
  refine iterQ_all (ps := vs92x0) (f := fun j => ((j : Int), ())) (big_lt h) (fun j hj _ => ?_) fun _ => ?_
  · unfold S92x0 Z92x0 delC
    simp only [hd, lt_ok hj, idx_ok hj, W_nat hj h, decide_true, cond_true, and_self, Int.toNat_natCast, hF]
    cases inB (d.g j).1 (s.g j).2.2.2.1 (s.g j).2.2.2.2.1 <;> rfl
  · unfold S92x0 Z92x0
    simp [hd]
theorem M56xe {w : wT} (h : w.2.1.n ≤ 140737488355328) (d : rowI) : M56 (no_index (w, (d, ()))) = some (delB w d, ()) := by
  unfold M56 Q56 M92 Q92 delB
  simp only [eq_nat]
  by_cases e : d.n = w.2.1.n
  case neg => simp [e]
  simp only [e, decide_true, Bool.not_true, cond_false, Bool.true_and]
  have := L92xe d w.2.1 (fun y1 => ((p93 y1), (v93 y1))) (fun x r => by simp only [p93, v93, M93xe]; rfl) h e
  rw [e] at this
  rw [this]
  cases (List.range w.2.1.n).all (delC d w.2.1) <;> simp
theorem L21xe (w : wT) (d : rowI) (h : w.2.1.n ≤ 140737488355328) (hd : d.n = w.2.1.n) :
    L21x0 (no_index (d, ((), (w, ())))) (no_index ((0 : Int), ())) = bif (List.range w.2.1.n).all (delC d w.2.1) then .exit 0 () else .ret (false, ()) := by
  unfold L21x0
  refine iterQ_all (ps := vs21x0) (f := fun j => ((j : Int), ())) (big_lt h) (fun j hj _ => ?_) fun _ => ?_
  · unfold S21x0 Z21x0 delC
    simp only [hd, lt_ok hj, idx_ok hj, W_nat hj h, decide_true, cond_true, and_self, Int.toNat_natCast, M60xe, cl_some]
    cases inB (d.g j).1 (w.2.1.g j).2.2.2.1 (w.2.1.g j).2.2.2.2.1 <;> rfl
  · unfold S21x0 Z21x0
    simp [hd]
/-- The other: as far as both go. -/
def mnN (a b : Nat) : Nat := bif decide (a < b) then a else b
theorem L21xm (w : wT) (d : rowI) (h : w.2.1.n ≤ 140737488355328) (hd : d.n ≤ 140737488355328) :
    L21x0 (no_index (d, ((), (w, ())))) (no_index ((0 : Int), ())) = bif (List.range (mnN d.n w.2.1.n)).all (delC d w.2.1) then .exit 0 () else .ret (false, ()) := by
  have hm : mnN d.n w.2.1.n ≤ d.n ∧ mnN d.n w.2.1.n ≤ w.2.1.n ∧ (mnN d.n w.2.1.n = d.n ∨ mnN d.n w.2.1.n = w.2.1.n) := by
    unfold mnN
    by_cases e : d.n < w.2.1.n <;> simp [e] <;> omega
  obtain ⟨m1, m2, m3⟩ := hm
  unfold L21x0
  refine iterQ_all (ps := vs21x0) (f := fun j => ((j : Int), ())) (big_lt (show mnN d.n w.2.1.n ≤ _ by omega)) (fun j hj _ => ?_) fun _ => ?_
  · unfold S21x0 Z21x0 delC
    simp only [lt_ok (show j < d.n by omega), lt_ok (show j < w.2.1.n by omega), idx_ok (show j < d.n by omega), idx_ok (show j < w.2.1.n by omega), W_nat (show j < w.2.1.n by omega) h, decide_true, cond_true, and_self, Int.toNat_natCast, M60xe, cl_some]
    cases inB (d.g j).1 (w.2.1.g j).2.2.2.1 (w.2.1.g j).2.2.2.2.1 <;> rfl
  · unfold S21x0 Z21x0
    rcases m3 with e | e
    · simp [e]
    · by_cases q : ((mnN d.n w.2.1.n : Nat) : Int) < (d.n : Int) <;> simp [q, e]
theorem M21xe {w : wT} (h : w.2.1.n ≤ 140737488355328) {d : rowI} (hd : d.n ≤ 140737488355328) : M21 (no_index (w, (d, ()))) = some (delB w d, ()) := by
  unfold M21 Q21 delB
  simp only [L21xm w d h hd, eq_nat]
  by_cases e : d.n = w.2.1.n
  · have : mnN d.n w.2.1.n = w.2.1.n := by unfold mnN; simp [e]
    rw [this]
    cases (List.range w.2.1.n).all (delC d w.2.1) <;> simp [e]
  · cases (List.range (mnN d.n w.2.1.n)).all (delC d w.2.1) <;> simp [e]

/-! alarms -/
def farI (a b : Int) : Int := mx (W (a - b)) (W (b - a))
theorem M110xe (a b : Int) : M110 (no_index (a, (b, ()))) = some (farI a b, ()) := rfl
theorem M101xe (a b : Int) : M101 (no_index (a, (b, ()))) = some (farI a b, ()) := rfl
def fallB (w : wT) (r s : repT) : Bool := decide (r.1 = s.1) && (decide (r.2.1 < s.2.1) && decide (w.2.2.2.2.1 ≤ W (r.2.2.1 - s.2.2.1)))
theorem M111xe (w : wT) (r s : repT) : M111 (no_index (w, (r, (s, ())))) = some (fallB w r s, ()) := by
  unfold M111 Q111 fallB
  by_cases h1 : r.1 = s.1 <;> by_cases h2 : r.2.1 < s.2.1 <;> simp [h1, h2]
def betw (l : linkT) (r s : repT) : Bool := (decide (l.1 = r.1) && decide (l.2.1 = s.1)) || (decide (l.1 = s.1) && decide (l.2.1 = r.1))
def diffB (r s : repT) (l : linkT) : Bool := betw l r s && decide (l.2.2.1 ≤ farI r.2.2.1 s.2.2.1)
theorem M124xe (l : linkT) (r s : repT) : M124 (no_index (l, (r, (s, ())))) = some (diffB r s l, ()) := by
  unfold M124 Q124 diffB betw
  simp only [M110xe, cl_some]
  cases decide (l.1 = r.1) <;> cases decide (l.2.1 = s.1) <;> cases decide (l.1 = s.1) <;> cases decide (l.2.1 = r.1) <;> rfl
def linkA (w : wT) (r s : repT) : Bool := (List.range w.2.2.1.n).any fun j => diffB r s (w.2.2.1.g j)
theorem M112xe {w : wT} (h : w.2.2.1.n ≤ 140737488355328) (r s : repT) : M112 (no_index (w, (r, (s, ())))) = some (linkA w r s, ()) := by
  unfold M112 Q112 linkA
  simp only [M86xe (fun y1 : linkT × Unit => ((p124 (y1.1, (r, (s, ())))), (v124 (y1.1, (r, (s, ())))))) (c := diffB r s) (fun y => by simp only [p124, v124, M124xe]; rfl) h, cl_some]
def alB (w : wT) (r s : repT) : Bool := decide (farI r.2.1 s.2.1 ≤ w.2.2.2.2.2.1) && (fallB w r s || (fallB w s r || linkA w r s))
theorem M94xe {w : wT} (h : w.2.2.1.n ≤ 140737488355328) (r s : repT) : M94 (no_index (w, (r, (s, ())))) = some (alB w r s, ()) := by
  unfold M94 Q94 alB
  simp only [M110xe, M111xe, M112xe h, cl_some]
  cases decide (farI r.2.1 s.2.1 ≤ w.2.2.2.2.2.1) <;> cases fallB w r s <;> cases fallB w s r <;> rfl
theorem L70xe {w : wT} (h : w.2.2.1.n ≤ 140737488355328) (r s : repT) :
    L70x0 (no_index ((), ((), ((), (w, (r, (s, ()))))))) (no_index ((0 : Int), ())) = bif (List.range w.2.2.1.n).all (fun j => !diffB r s (w.2.2.1.g j)) then .exit 0 () else .ret (true, ()) := by
  unfold L70x0
  refine iterQ_all (ps := vs70x0) (f := fun j => ((j : Int), ())) (big_lt h) (fun j hj _ => ?_) fun _ => ?_
  · unfold S70x0 Z70x0 diffB betw
    simp only [lt_ok hj, idx_ok hj, W_nat hj h, decide_true, cond_true, and_self, Int.toNat_natCast, M101xe, cl_some]
    cases decide ((w.2.2.1.g j).1 = r.1) <;> cases decide ((w.2.2.1.g j).2.1 = s.1) <;> cases decide ((w.2.2.1.g j).1 = s.1) <;> cases decide ((w.2.2.1.g j).2.1 = r.1) <;> cases decide ((w.2.2.1.g j).2.2.1 ≤ farI r.2.2.1 s.2.2.1) <;> rfl
  · unfold S70x0 Z70x0
    simp
theorem watch_link {w : wT} (hw : watchB w = true) {j : Nat} (hj : j < w.2.2.1.n) : (w.2.2.1.g j).1 ≠ (w.2.2.1.g j).2.1 := by
  simp only [watchB, Bool.and_eq_true] at hw
  have := all_t hw.2.2.1 hj
  simp only [linkC, Bool.and_eq_true, Bool.not_eq_true', decide_eq_false_iff_not] at this
  exact this.2.2.1
theorem link_same {w : wT} (hw : watchB w = true) {r s : repT} (h : r.1 = s.1) : linkA w r s = false := by
  unfold linkA
  rw [List.any_eq_false]
  intro j hj
  have := watch_link hw (show j < w.2.2.1.n by simpa using hj)
  unfold diffB betw
  simp only [Bool.and_eq_true, Bool.or_eq_true, decide_eq_true_eq, not_and]
  rintro (⟨a, b⟩ | ⟨a, b⟩) <;> exact absurd (by omega) this
theorem link_any (w : wT) (r s : repT) : linkA w r s = !(List.range w.2.2.1.n).all (fun j => !diffB r s (w.2.2.1.g j)) := by
  unfold linkA
  rw [List.any_eq_not_all_not]
theorem M70xe {w : wT} (hw : watchB w = true) (h : w.2.2.1.n ≤ 140737488355328) {i j : Nat} (hi : i < w.2.1.n) (hj : j < w.2.1.n) :
    M70 (no_index (w, ((i : Int), ((j : Int), ())))) = some (alB w (w.2.1.g i) (w.2.1.g j), ()) := by
  unfold M70 Q70 alB
  simp only [idx_ok hi, idx_ok hj, and_self, decide_true, cond_true, Int.toNat_natCast, M101xe, cl_some, L70xe h]
  obtain ⟨r, hr⟩ : ∃ r, w.2.1.g i = r := ⟨_, rfl⟩
  obtain ⟨s, hs⟩ : ∃ s, w.2.1.g j = s := ⟨_, rfl⟩
  simp only [hr, hs]
  by_cases h0 : farI r.2.1 s.2.1 ≤ w.2.2.2.2.2.1
  case neg =>
    have : w.2.2.2.2.2.1 < farI r.2.1 s.2.1 := by omega
    simp [h0, this]
  have : ¬ w.2.2.2.2.2.1 < farI r.2.1 s.2.1 := by omega
  simp only [this, h0, decide_false, decide_true, cond_false, Bool.true_and]
  by_cases h1 : r.1 = s.1
  · simp only [h1, decide_true, cond_true, link_same hw h1, Bool.or_false]
    unfold fallB
    simp only [h1, decide_true, Bool.true_and]
    by_cases h2 : r.2.1 < s.2.1
    · have h3 : ¬ s.2.1 < r.2.1 := by omega
      simp only [h2, h3, decide_true, decide_false, cond_true, cond_false, Bool.true_and, Bool.false_and, Bool.or_false]
      cases decide (w.2.2.2.2.1 ≤ W (r.2.2.1 - s.2.2.1)) <;> rfl
    · simp only [h2, decide_false, cond_false, Bool.false_and, Bool.false_or]
      by_cases h3 : s.2.1 < r.2.1 <;> simp [h3]
  · have h1' : ¬ s.1 = r.1 := fun e => h1 e.symm
    simp only [h1, decide_false, cond_false, link_any]
    unfold fallB
    simp only [h1, h1', decide_false, Bool.false_and, Bool.false_or]
    cases (List.range w.2.2.1.n).all (fun j => !diffB r s (w.2.2.1.g j)) <;> simp
end Go.Dm

/- What is shown of all alarms. -/
import Derived.Test.YtlfifailjikhaaaL16CP3
set_option linter.unusedVariables false
set_option linter.unusedSimpArgs false
namespace Go.Dm
set_option maxRecDepth 100000

def prN (i j : Nat) : prT := ((i : Int), ((j : Int), ()))
theorem snoc_list {α : Type} (s : Sl α) (y : α) : (snoc s y).list = s.list ++ [y] := by
  rw [← list_append]
  unfold snoc catSl Sl.list
  refine List.map_congr_left fun i hi => ?_
  have hi : i < s.n + 1 := by simpa using hi
  cases h : Nat.blt i s.n with
  | true => simp only [h, cond_true]
  | false =>
    have : ¬ i < s.n := fun q => by
      have q' : Nat.blt i s.n = true := by rw [Nat.blt_eq]; exact q
      rw [q'] at h; cases h
    have e : i - s.n = 0 := by omega
    simp only [h, cond_false, e]
    rfl
theorem list_len {α : Type} (s : Sl α) : s.list.length = s.n := by simp [Sl.list]
theorem list_at {α : Type} {s t : Sl α} (h : s.list = t.list) : s.n = t.n ∧ ∀ j, j < s.n → s.g j = t.g j := by
  have e : s.n = t.n := by rw [← list_len s, ← list_len t, h]
  refine ⟨e, fun j hj => ?_⟩
  have h1 : s.list[j]? = some (s.g j) := by simp [Sl.list, hj]
  have h2 : t.list[j]? = some (t.g j) := by simp [Sl.list, show j < t.n by omega]
  rw [h, h2] at h1
  exact (Option.some.inj h1).symm

/-! what the rule hands on -/
theorem L35xe : ∀ (l : List al_eF.den) (s : Sl prT), s.n + l.length ≤ 1000 →
    ∃ s' : Sl prT, L35x0 (no_index ((), ((s, ()), ()))) l = .next ((), ((s', ()), ())) ∧ s'.list = s.list ++ l.map (·.1)
  | [], s, _ => ⟨s, rfl, by simp⟩
  | it :: l, s, h => by
    have hb : (s.n + 1) * 16 ≤ 140737488355328 := by simp only [List.length_cons] at h; omega
    obtain ⟨s', h1, h2⟩ := L35xe l (snoc s it.1) (by simp only [List.length_cons] at h; rw [snoc_n]; omega)
    refine ⟨s', ?_, by rw [h2, snoc_list, List.append_assoc]; rfl⟩
    rw [← h1]
    unfold L35x0
    have : S35x0 (no_index ((), ((s, ()), ()))) it = .next ((), ((snoc s it.1, ()), ())) := by
      unfold S35x0 Z35x0
      simp only [hb, decide_true, cond_true]
      rfl
    simp only [runAllD, this]
theorem small {w : wT} (h : watchB w = true) : w.2.1.n ≤ 9 ∧ w.2.2.1.n ≤ 8 ∧ w.2.2.2.1.n ≤ 4 := by
  simp only [watchB, numC, Bool.and_eq_true, decide_eq_true_eq] at h
  exact ⟨h.1.2.1, h.1.2.2.1, h.1.2.2.2.1⟩
theorem M35xe {w : wT} (h : watchB w = true) : ∃ s : Sl prT, M35 (no_index (w, ())) = some (s, ((0 : Int), ())) ∧ s.list = allL prN w w.2.1.n := by
  obtain ⟨h1, h2, h3⟩ := small h
  have hl : (allL itN w w.2.1.n).length ≤ 81 := Nat.le_trans (allL_len itN w _) (Nat.mul_le_mul h1 h1)
  obtain ⟨s, e1, e2⟩ := L35xe (allL itN w w.2.1.n) ⟨0, fun _ => ((0 : Int), ((0 : Int), ()))⟩ (by show 0 + _ ≤ 1000; omega)
  refine ⟨s, ?_, ?_⟩
  · unfold M35 Q35
    simp only [M55xe, h, cl_some, M57xe (show w.2.2.1.n ≤ _ by omega) (show w.2.1.n ≤ _ by omega), items_ok (show w.2.1.n ≤ _ by omega), Bool.not_true, cond_false, cond_true]
    have key : ∀ l : List al_eF.den, l = allL itN w w.2.1.n → onNext (L35x0 (no_index ((), (((⟨0, fun _ => ((0 : Int), ((0 : Int), ()))⟩ : Sl prT), ()), ()))) l) (fun u2 => some (u2.2.1.1, ((0 : Int), ()))) (onRetO (L35x0 (no_index ((), (((⟨0, fun _ => ((0 : Int), ((0 : Int), ()))⟩ : Sl prT), ()), ()))) l) (fun u3 => none) none) = some (s, ((0 : Int), ())) := fun l hl => by
      rw [hl, e1]; rfl
    exact key _ (items_list w)
  · rw [e2, allL_map]
    show [] ++ _ = _
    rw [List.nil_append]
    rfl
theorem M35xn {w : wT} (h : watchB w = false) : M35 (no_index (w, ())) = some (⟨0, fun _ => ((0 : Int), ((0 : Int), ()))⟩, ((2 : Int), ())) := by
  unfold M35 Q35
  simp only [M55xe, h, cl_some, Bool.not_false, cond_true]
theorem M34xe (w : wT) : M34 (no_index (w, ())) = some (bif watchB w then 0 else 2, ()) := by
  unfold M34 Q34
  simp only [M55xe, cl_some]
  cases watchB w <;> rfl

/-! the specification's -/
def refRow (w : wT) (a : Nat) (s : Sl prT) : Nat → Sl prT
  | 0 => s
  | b + 1 => bif isP w a b then snoc (refRow w a s b) (prN a b) else refRow w a s b
def refAll (w : wT) : Nat → Sl prT
  | 0 => ⟨0, fun _ => ((0 : Int), ((0 : Int), ()))⟩
  | a + 1 => refRow w a (refAll w a) w.2.1.n
theorem refRow_list (w : wT) (a : Nat) (s : Sl prT) : ∀ b, (refRow w a s b).list = s.list ++ rowL prN w a b
  | 0 => by simp [refRow, rowL]
  | b + 1 => by
    simp only [refRow, rowL]
    cases isP w a b with
    | true => rw [cond_true, cond_true, snoc_list, refRow_list w a s b, List.append_assoc]
    | false => rw [cond_false, cond_false, refRow_list w a s b, List.append_nil]
theorem refAll_list (w : wT) : ∀ a, (refAll w a).list = allL prN w a
  | 0 => rfl
  | a + 1 => by simp only [refAll, allL, refRow_list, refAll_list w a]
theorem refRow_n (w : wT) (a : Nat) (s : Sl prT) : ∀ b, (refRow w a s b).n ≤ s.n + b
  | 0 => Nat.le_refl _
  | b + 1 => by
    have := refRow_n w a s b
    simp only [refRow]
    cases isP w a b with
    | true => rw [cond_true, snoc_n]; omega
    | false => rw [cond_false]; omega
theorem refAll_n (w : wT) (a : Nat) : (refAll w a).n ≤ a * w.2.1.n := by
  rw [← list_len, refAll_list]
  exact allL_len prN w a
theorem refRow_0 (w : wT) (a : Nat) (s : Sl prT) : ∀ b, b ≤ a + 1 → refRow w a s b = s
  | 0, _ => rfl
  | b + 1, h => by
    have : isP w a b = false := by
      unfold isP
      have : ¬ a < b := by omega
      simp [this]
    simp only [refRow, refRow_0 w a s b (by omega), this, cond_false]
theorem L37i_e {w : wT} (hw : watchB w = true) {a : Nat} (ha : a < w.2.1.n) (s : Sl prT) (hs : s.n ≤ 1000) :
    L37x0x0 (no_index ((), ((a : Int), (w, ())))) (no_index (s, (((a + 1 : Nat) : Int), ()))) = .exit 2 (refRow w a s w.2.1.n, ()) := by
  obtain ⟨h1, h2, h3⟩ := small hw
  have hk : a + 1 + (w.2.1.n - (a + 1)) = w.2.1.n := by omega
  unfold L37x0x0
  conv => lhs; rw [← refRow_0 w a s (a + 1) (Nat.le_refl _)]
  refine iterQ_steps (ps := vs37x0x0) (w.2.1.n - (a + 1)) big (fun t => (refRow w a s (a + 1 + t), (((a + 1 + t : Nat) : Int), ()))) (big_lt (by omega)) (fun t ht => ?_) ?_
  · have hj : a + 1 + t < w.2.1.n := by omega
    have hn := refRow_n w a s (a + 1 + t)
    have hb : ((refRow w a s (a + 1 + t)).n + 1) * 16 ≤ 140737488355328 := by omega
    show S37x0x0 _ _ = RQ.next (refRow w a s (a + 1 + t + 1), (((a + 1 + t + 1 : Nat) : Int), ()))
    have hp : isP w a (a + 1 + t) = alB w (w.2.1.g a) (w.2.1.g (a + 1 + t)) := by
      unfold isP alM
      have : a < a + 1 + t := by omega
      simp [this]
    simp only [refRow, hp]
    unfold S37x0x0 Z37x0x0
    simp only [lt_ok hj, W_nat hj (show w.2.1.n ≤ _ by omega), decide_true, cond_true, M70xe hw (show w.2.2.1.n ≤ _ by omega) ha hj, cl_some, hb]
    cases alB w (w.2.1.g a) (w.2.1.g (a + 1 + t)) <;> rfl
  · unfold S37x0x0 Z37x0x0
    simp only [hk, Int.lt_irrefl, decide_false, cond_false]
theorem M37xe {w : wT} (hw : watchB w = true) : M37 (no_index (w, ())) = some (refAll w w.2.1.n, ()) := by
  obtain ⟨h1, h2, h3⟩ := small hw
  have : L37x0 (no_index ((), (w, ()))) (no_index ((⟨0, fun _ => ((0 : Int), ((0 : Int), ()))⟩ : Sl prT), ((0 : Int), ()))) = .exit 0 (refAll w w.2.1.n, ()) := by
    unfold L37x0
    refine iterQ_steps (ps := vs37x0) w.2.1.n big (fun a => (refAll w a, ((a : Int), ()))) (big_lt (by omega)) (fun a ha => ?_) ?_
    · have hn : (refAll w a).n ≤ 1000 := Nat.le_trans (refAll_n w a) (Nat.le_trans (Nat.mul_le_mul (show a ≤ 9 by omega) h1) (by omega))
      unfold S37x0 Z37x0
      simp only [lt_ok ha, W_nat ha (show w.2.1.n ≤ _ by omega), decide_true, cond_true]
      rw [L37i_e hw ha (refAll w a) hn]
      rfl
    · unfold S37x0 Z37x0
      simp only [Int.lt_irrefl, decide_false, cond_false]
  unfold M37 Q37
  rw [this]
  rfl
theorem M36xe {s t : Sl prT} (h : s.list = t.list) (hn : s.n ≤ 140737488355328) : M36 (no_index (s, (t, ()))) = some (true, ()) := by
  obtain ⟨e, hg⟩ := list_at h
  have : L36x0 (no_index (s, (t, ()))) (no_index ((0 : Int), ())) = .exit 0 () := by
    unfold L36x0
    refine iterQ_steps (ps := vs36x0) s.n big (fun j => ((j : Int), ())) (big_lt hn) (fun j hj => ?_) ?_
    · unfold S36x0 Z36x0
      simp only [lt_ok hj, idx_ok hj, idx_ok (show j < t.n by omega), W_nat hj hn, hg j hj, decide_true, cond_true, and_self, Int.toNat_natCast, Bool.and_true, Bool.not_true, cond_false]
    · unfold S36x0 Z36x0
      simp only [Int.lt_irrefl, decide_false, cond_false]
  unfold M36 Q36
  simp only [e, decide_true, Bool.not_true, cond_false]
  rw [this]
  rfl
theorem M10xe (w : wT) : M10 (no_index (w, ())) = some (true, ()) := by
  unfold M10 Q10
  simp only [M17xe, M34xe, cl_some, known_M]
  cases hs : shortB w with
  | false => rfl
  | true =>
    simp only [M20xe hs, cl_some, Bool.not_true, cond_false]
    cases hw : watchB w with
    | false =>
      simp only [M35xn hw, cl_some, Bool.not_false, cond_true, cond_false]
      rfl
    | true =>
      obtain ⟨s, e1, e2⟩ := M35xe hw
      have hl : s.n ≤ 81 := by
        rw [← list_len, e2]
        exact Nat.le_trans (allL_len prN w _) (Nat.mul_le_mul (small hw).1 (small hw).1)
      simp only [e1, M37xe hw, cl_some, Bool.not_true, cond_false, cond_true, M36xe (e2.trans (refAll_list w _).symm) (show s.n ≤ _ by omega)]
      rfl
theorem law10 (x : (a10).den) : M10 x = some (true, ()) := by
  obtain ⟨w, ⟨⟩⟩ := x
  exact M10xe w
end Go.Dm

/- Cones, and boats. -/
import Derived.Test.YtlfifailjikhaaaL16CP6
set_option linter.unusedVariables false
set_option linter.unusedSimpArgs false
namespace Go.Dm
set_option maxRecDepth 100000

/-! the rule at a minute -/
theorem L72xe {w : wT} {d : rowI} (hd : d.n = w.2.1.n) (m : Int) : ∀ (l : List al_eF.den), (∀ it ∈ l, inP w it.1) →
    L72x0 (no_index ((), ((), ((), ((), (lookK w, ((d, ()), ((m, ()), ((false, ()), ()))))))))) l = bif l.any (fun it => seenAt w d m it.1) then .ret ((), ((), ((), ((), (lookK w, ((d, ()), ((m, ()), ((true, ()), ())))))))) else .next ((), ((), ((), ((), (lookK w, ((d, ()), ((m, ()), ((false, ()), ()))))))))
  | [], _ => rfl
  | it :: l, h => by
    have hi := h it (List.mem_cons_self ..)
    have ih := L72xe hd m l fun x hx => h x (List.mem_cons_of_mem _ hx)
    have : S72x0 (no_index ((), ((), ((), ((), (lookK w, ((d, ()), ((m, ()), ((false, ()), ()))))))))) it = bif seenAt w d m it.1 then .ret ((), ((), ((), ((), (lookK w, ((d, ()), ((m, ()), ((true, ()), ())))))))) else .next ((), ((), ((), ((), (lookK w, ((d, ()), ((m, ()), ((false, ()), ())))))))) := by
      unfold S72x0 Z72x0 seenAt
      simp only [M102xe hd hi, cl_some]
      cases decide (loI w d it.1 ≤ m) with
      | false => rfl
      | true => cases decide (m < hiI w it.1) <;> rfl
    unfold L72x0 at ih ⊢
    simp only [runAllD, this, List.any_cons]
    cases seenAt w d m it.1 with
    | true => rfl
    | false => rw [cond_false, Bool.false_or]; exact ih
theorem any_sees {w : wT} {d : rowI} {m : Int} : (allL itN w w.2.1.n).any (fun it => seenAt w d m it.1) = seesB w d m := by
  rw [Bool.eq_iff_iff, sees_iff, List.any_eq_true]
  constructor
  · rintro ⟨it, h, hs⟩
    obtain ⟨i, j, h1, h2, h3, rfl⟩ := mem_all.1 h
    simp only [seenAt, Bool.and_eq_true, decide_eq_true_eq] at hs
    exact ⟨i, j, h1, h2, h3, hs⟩
  · rintro ⟨i, j, h1, h2, h3, h4, h5⟩
    refine ⟨itN i j, mem_all.2 ⟨i, j, h1, h2, h3, rfl⟩, ?_⟩
    have h4' : loI w d (itN i j).1 ≤ m := h4
    have h5' : m < hiI w (itN i j).1 := h5
    unfold seenAt
    rw [decide_eq_true h4', decide_eq_true h5']
    rfl
theorem M72xe {w : wT} (h : w.2.1.n ≤ 140737488355328) {d : rowI} (hd : d.n = w.2.1.n) (m : Int) : M72 (no_index (lookK w, (d, (m, ())))) = some (seesB w d m, ()) := by
  unfold M72 Q72
  simp only [items_ok h, cond_true]
  have key : ∀ l : List al_eF.den, l = allL itN w w.2.1.n → L72x0 (no_index ((), ((), ((), ((), (lookK w, ((d, ()), ((m, ()), ((false, ()), ()))))))))) l = bif seesB w d m then .ret ((), ((), ((), ((), (lookK w, ((d, ()), ((m, ()), ((true, ()), ())))))))) else .next ((), ((), ((), ((), (lookK w, ((d, ()), ((m, ()), ((false, ()), ())))))))) := fun l hl => by
    rw [hl, ← any_sees]; exact L72xe hd m _ all_in
  have k := key _ (items_list w)
  refine (congrArg (fun o => onNext o _ (onRetO o _ _)) k).trans ?_
  cases seesB w d m <;> rfl

/-! cones in truth -/
def portI (w : wT) (p : Int) : Bool := inB p 0 (W ((w.2.2.2.1.n : Int) - 1))
def portA (w : wT) (p : Int) : portT := w.2.2.2.1.g p.toNat
def ordB (w : wT) (p o : Int) : Bool := portI w p && inB o (portA w p).1 (portA w p).2.1
theorem port_ix {w : wT} (h : w.2.2.2.1.n ≤ 140737488355328) {p : Int} (hp : portI w p = true) : 0 ≤ p ∧ p < (w.2.2.2.1.n : Int) := by
  have := inB_t hp
  rw [W_id ⟨by omega, by omega⟩] at this
  omega
theorem M26xe (w : wT) (p : Int) : M26 (no_index (w, (p, ()))) = some (portI w p, ()) := by
  unfold M26 Q26; simp only [M60xe, cl_some]; rfl
theorem M27xe (m : Int) : M27 (no_index (m, ())) = some (inB m 0 20000, ()) := by
  unfold M27 Q27; simp only [M60xe, cl_some]
theorem M42xe (m : Int) : M42 (no_index (m, ())) = some (inB m 0 50000, ()) := by
  unfold M42 Q42; simp only [M60xe, cl_some]
theorem M39xe {w : wT} (h : w.2.2.2.1.n ≤ 140737488355328) (p o : Int) : M39 (no_index (w, (p, (o, ())))) = some (ordB w p o, ()) := by
  unfold M39 Q39 ordB
  simp only [M26xe, cl_some]
  cases hp : portI w p with
  | false => rfl
  | true =>
    have := port_ix h hp
    simp only [this, and_self, decide_true, cond_true, M60xe, cl_some, Bool.true_and]
    rfl
def hoB (w : wT) (d : rowI) (p o m : Int) : Bool := watchB w && (delB w d && (ordB w p o && inB m 0 20000))
theorem M71xe {w : wT} (h1 : w.2.1.n ≤ 140737488355328) (h : w.2.2.2.1.n ≤ 140737488355328) (d : rowI) (p o m : Int) : M71 (no_index (w, (d, (p, (o, (m, ())))))) = some (hoB w d p o m, ()) := by
  unfold M71 Q71 hoB ordB
  simp only [M55xe, M56xe h1, M63xe, cl_some]
  cases watchB w with
  | false => rfl
  | true =>
  cases delB w d with
  | false => rfl
  | true =>
  show (bif portI w p then _ else _) = _
  cases hp : portI w p with
  | false => rfl
  | true =>
    have := port_ix h hp
    simp only [this, and_self, decide_true, cond_true, M63xe, cl_some, Bool.true_and]
    show (bif inB o (portA w p).1 (portA w p).2.1 then _ else _) = _
    cases inB o (portA w p).1 (portA w p).2.1 <;> rfl
theorem M38xe {w : wT} (hs : shortB w = true) (d : rowI) (p o m : Int) : M38 (no_index (w, (d, (p, (o, (m, ())))))) = some (bif hoB w d p o m then (seesB w d (W (m - o)), ((0 : Int), ())) else (false, ((2 : Int), ()))) := by
  obtain ⟨s1, s2, s3⟩ := shortB_t hs
  unfold M38 Q38
  simp only [M71xe (show w.2.1.n ≤ _ by omega) (show w.2.2.2.1.n ≤ _ by omega), cl_some]
  cases hh : hoB w d p o m with
  | false => rfl
  | true =>
    have hd : delB w d = true := by
      simp only [hoB, Bool.and_eq_true] at hh
      exact hh.2.1
    simp only [M57xe (show w.2.2.1.n ≤ _ by omega) (show w.2.1.n ≤ _ by omega), M72xe (show w.2.1.n ≤ _ by omega) (del_n hd), cl_some, Bool.not_true, cond_false, cond_true]
theorem M11xe (w : wT) (d : rowI) (p o m : Int) : M11 (no_index (w, (d, (p, (o, (m, ())))))) = some (true, ()) := by
  unfold M11 Q11
  simp only [M17xe, cl_some, known_M]
  cases hs : shortB w with
  | false => rfl
  | true =>
  by_cases hn : d.n ≤ 12
  case neg =>
    have : (12 : Int) < (d.n : Int) := by omega
    simp only [this, decide_true, cond_true, Bool.not_true, cond_false]
  have hn' : ¬ (12 : Int) < (d.n : Int) := by omega
  obtain ⟨s1, s2, s3⟩ := shortB_t hs
  simp only [hn', decide_false, M38xe hs, M20xe hs, M21xe (show w.2.1.n ≤ _ by omega) (show d.n ≤ _ by omega), M39xe (show w.2.2.2.1.n ≤ _ by omega), M27xe, cl_some, Bool.not_true, cond_false]
  unfold hoB
  cases hw : watchB w with
  | false => rfl
  | true =>
  cases hd : delB w d with
  | false => rfl
  | true =>
  cases ordB w p o with
  | false => rfl
  | true =>
  cases inB m 0 20000 with
  | false => rfl
  | true =>
  simp only [M40xe hw (del_n hd), cl_some, Bool.and_true, cond_true, Bool.not_true, cond_false]
  simp
theorem law11 (x : (a11).den) : M11 x = some (true, ()) := by
  obtain ⟨w, d, p, o, m, ⟨⟩⟩ := x
  exact M11xe w d p o m

/-! boats in truth -/
def lightB (w : wT) (t : Int) : Bool := inB (Int.tmod t 1440) w.2.2.2.2.2.2.2.1 (W (w.2.2.2.2.2.2.2.2.1 - 1))
def sightI (w : wT) (p t : Int) : Int := bif lightB w t then (portA w p).2.2.1 else (portA w p).2.2.2.1
theorem dusk_in {w : wT} (hw : watchB w = true) : 0 ≤ w.2.2.2.2.2.2.2.1 ∧ w.2.2.2.2.2.2.2.1 ≤ w.2.2.2.2.2.2.2.2.1 ∧ w.2.2.2.2.2.2.2.2.1 ≤ 1440 := by
  simp only [watchB, numC, Bool.and_eq_true] at hw
  exact of_decide_eq_true hw.1.2.2.2.2.2.2.2
theorem M43xe {w : wT} {p : Int} (hp : 0 ≤ p ∧ p < (w.2.2.2.1.n : Int)) (t : Int) : M43 (no_index (w, (p, (t, ())))) = some (sightI w p t, ()) := by
  unfold M43 Q43 sightI lightB
  simp only [M60xe, cl_some, hp, and_self, decide_true, cond_true]
  cases inB (Int.tmod t 1440) w.2.2.2.2.2.2.2.1 (W (w.2.2.2.2.2.2.2.2.1 - 1)) <;> rfl
theorem M68xe {w : wT} (hw : watchB w = true) {p : Int} (hp : 0 ≤ p ∧ p < (w.2.2.2.1.n : Int)) (t : Int) : M68 (no_index (lookK w, (p, (t, ())))) = some (sightI w p t, ()) := by
  obtain ⟨h1, h2, h3⟩ := dusk_in hw
  have hb : lightB w t = (decide (w.2.2.2.2.2.2.2.1 ≤ Int.tmod t 1440) && decide (Int.tmod t 1440 < w.2.2.2.2.2.2.2.2.1)) := by
    unfold lightB inB
    rw [W_id ⟨by omega, by omega⟩]
    by_cases a : w.2.2.2.2.2.2.2.1 ≤ Int.tmod t 1440
    · by_cases b : Int.tmod t 1440 < w.2.2.2.2.2.2.2.2.1
      · have c : Int.tmod t 1440 ≤ w.2.2.2.2.2.2.2.2.1 - 1 := by omega
        simp [a, b, c]
      · have c : ¬ Int.tmod t 1440 ≤ w.2.2.2.2.2.2.2.2.1 - 1 := by omega
        simp [a, b, c]
    · simp [a]
  unfold M68 Q68 sightI
  simp only [lookK, kW, hp, and_self, decide_true, cond_true, hb]
  by_cases a : w.2.2.2.2.2.2.2.1 ≤ Int.tmod t 1440 <;> by_cases b : Int.tmod t 1440 < w.2.2.2.2.2.2.2.2.1 <;> simp only [a, b, decide_true, decide_false, cond_true, cond_false, Bool.and_true, Bool.and_false, Bool.and_self] <;> rfl
theorem M41xe {w : wT} (hs : shortB w = true) (d : rowI) (p o m a : Int) : M41 (no_index (w, (d, (p, (o, (m, (a, ()))))))) = some (bif hoB w d p o m && inB a 0 50000 then (seesB w d (W (m - o)) && decide (a ≤ sightI w p m), ((0 : Int), ())) else (false, ((2 : Int), ()))) := by
  obtain ⟨s1, s2, s3⟩ := shortB_t hs
  unfold M41 Q41
  simp only [M71xe (show w.2.1.n ≤ _ by omega) (show w.2.2.2.1.n ≤ _ by omega), M63xe, cl_some]
  cases hh : hoB w d p o m with
  | false => rfl
  | true =>
  cases inB a 0 50000 with
  | false => rfl
  | true =>
    simp only [hoB, ordB, Bool.and_eq_true] at hh
    obtain ⟨hw, hd, ⟨hp, _⟩, _⟩ := hh
    have hx := port_ix (show w.2.2.2.1.n ≤ _ by omega) hp
    simp only [M57xe (show w.2.2.1.n ≤ _ by omega) (show w.2.1.n ≤ _ by omega), M68xe hw hx, M72xe (show w.2.1.n ≤ _ by omega) (del_n hd), cl_some, Bool.not_true, cond_false, cond_true]
    by_cases e : a ≤ sightI w p m <;> simp [e]
theorem M13xe (w : wT) (d : rowI) (p o m a : Int) : M13 (no_index (w, (d, (p, (o, (m, (a, ()))))))) = some (true, ()) := by
  unfold M13 Q13
  simp only [M17xe, cl_some, known_M]
  cases hs : shortB w with
  | false => rfl
  | true =>
  by_cases hn : d.n ≤ 12
  case neg =>
    have : (12 : Int) < (d.n : Int) := by omega
    simp only [this, decide_true, cond_true, Bool.not_true, cond_false]
  have hn' : ¬ (12 : Int) < (d.n : Int) := by omega
  obtain ⟨s1, s2, s3⟩ := shortB_t hs
  simp only [hn', decide_false, M41xe hs, M20xe hs, M21xe (show w.2.1.n ≤ _ by omega) (show d.n ≤ _ by omega), M39xe (show w.2.2.2.1.n ≤ _ by omega), M27xe, M42xe, cl_some, Bool.not_true, cond_false]
  unfold hoB
  cases hw : watchB w with
  | false => rfl
  | true =>
  cases hd : delB w d with
  | false => rfl
  | true =>
  cases ho : ordB w p o with
  | false => rfl
  | true =>
  cases inB m 0 20000 with
  | false => rfl
  | true =>
  cases inB a 0 50000 with
  | false => rfl
  | true =>
  simp only [ordB, Bool.and_eq_true] at ho
  have hx := port_ix (show w.2.2.2.1.n ≤ _ by omega) ho.1
  simp only [M40xe hw (del_n hd), M43xe hx, cl_some, Bool.and_true, cond_true, Bool.not_true, cond_false]
  cases seesB w d (W (m - o)) <;> simp
theorem law13 (x : (a13).den) : M13 x = some (true, ()) := by
  obtain ⟨w, d, p, o, m, a, ⟨⟩⟩ := x
  exact M13xe w d p o m a
end Go.Dm

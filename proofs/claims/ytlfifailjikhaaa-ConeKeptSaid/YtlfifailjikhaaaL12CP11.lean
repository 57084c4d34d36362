/- Cones: what is so in every truth, and what in some. -/
import Derived.Test.YtlfifailjikhaaaL12CP10
set_option linter.unusedVariables false
set_option linter.unusedSimpArgs false
namespace Go.Dm
set_option maxRecDepth 100000

theorem first_sees {w : wT} (hw : watchB w = true) {d : rowI} (hd : delB w d = true) {t : Int} (h : seesB w d t = true) : 0 ≤ fstR w d ∧ fstR w d ≤ t := by
  obtain ⟨i, j, h1, h2, h3, h4, h5⟩ := sees_iff.1 h
  have hs : SeenP w d (loI w d (prN i j)) := ⟨i, j, h1, h2, h3, by omega, rfl⟩
  rcases fstR_min hw hd with ⟨_, n⟩ | ⟨p1, _, p3⟩
  · exact absurd hs (n _)
  · have := p3 _ hs
    exact ⟨p1, by omega⟩
theorem sees_first {w : wT} (hw : watchB w = true) {d : rowI} (hd : delB w d = true) (h : 0 ≤ fstR w d) : seesB w d (fstR w d) = true := by
  rcases fstR_min hw hd with ⟨e, _⟩ | ⟨_, ⟨i, j, h1, h2, h3, h4, h5⟩, _⟩
  · omega
  · exact sees_iff.2 ⟨i, j, h1, h2, h3, by omega, by omega⟩
theorem L12xe {w : wT} (hs : shortB w = true) (hw : watchB w = true) {p m : Int} (hp : 0 ≤ p ∧ p < (w.2.2.2.1.n : Int)) (hpi : portI w p = true) (hm : inB m 0 20000 = true) :
    L12x0 (no_index (p, (m, ((), ((), (w, (((w.2.2.2.1.g (Int.toNat p)).1, ((w.2.2.2.1.g (Int.toNat p)).2.1, ())), ()))))))) (no_index (false, (false, ((w.2.2.2.1.g (Int.toNat p)).1, ())))) = LQ.exit (wy := wv12x0) 0 (someB w p m, (!allB w p m, ())) := by
  obtain ⟨h1, h2, h3⟩ := small hw
  obtain ⟨p1, p2, p3⟩ := port_in hw hp
  have hn : numO w p ≤ 100000 := by unfold numO; omega
  have hN : ((numO w p : Nat) : Int) = (portA w p).2.1 - (portA w p).1 + 1 := by unfold numO; omega
  show L12x0 (p, (m, ((), ((), (w, (((portA w p).1, ((portA w p).2.1, ())), ())))))) (false, (false, ((portA w p).1, ()))) = _
  unfold L12x0
  refine (congrArg (iterQ (ps := vs12x0) _ big) ?_).trans (iterQ_steps (ps := vs12x0) (numO w p) big (fun j => ((List.range j).any (sA w false (portA w p).1 m), (!(List.range j).all (sA w true (portA w p).1 m), ((portA w p).1 + (j : Int), ())))) (big_lt (by omega)) (fun j hj => ?_) ?_)
  · show (false, (false, ((portA w p).1, ()))) = (false, (false, ((portA w p).1 + ((0 : Nat) : Int), ())))
    simp
  · have a1 : (portA w p).1 + (j : Int) ≤ (portA w p).2.1 := by omega
    have a2 : W ((portA w p).1 + (j : Int) + 1) = (portA w p).1 + ((j + 1 : Nat) : Int) := by rw [W_id ⟨by omega, by omega⟩]; omega
    have b1 : sA w true (portA w p).1 m j = seesB w (endS w true) (W (m - ((portA w p).1 + (j : Int)))) := rfl
    have b2 : sA w false (portA w p).1 m j = seesB w (endS w false) (W (m - ((portA w p).1 + (j : Int)))) := rfl
    have ho : ordB w p ((portA w p).1 + (j : Int)) = true := by
      unfold ordB
      rw [hpi, Bool.true_and]
      exact decide_eq_true (by omega)
    have c1 : hoB w (endS w false) p ((portA w p).1 + (j : Int)) m = true := by unfold hoB; rw [hw, endS_del hw, ho, hm]; rfl
    have c2 : hoB w (endS w true) p ((portA w p).1 + (j : Int)) m = true := by unfold hoB; rw [hw, endS_del hw, ho, hm]; rfl
    unfold S12x0 Z12x0
    simp only [a1, a2, b1, b2, c1, c2, decide_true, cond_true, M24xe (show w.2.1.n ≤ 1000 by omega), M38xe hs, cl_some, List.range_succ, List.all_append, List.any_append, List.all_cons, List.all_nil, List.any_cons, List.any_nil, Bool.and_true, Bool.or_false, Bool.not_true, cond_false]
    cases (List.range j).all (sA w true (portA w p).1 m) <;> cases (List.range j).any (sA w false (portA w p).1 m) <;> rfl
  · have a1 : ¬ (portA w p).1 + ((numO w p : Nat) : Int) ≤ (portA w p).2.1 := by omega
    unfold S12x0 Z12x0
    simp only [a1, decide_false, cond_false]
    rfl
theorem M12xe (w : wT) (d : rowI) (p o m : Int) : M12 (no_index (w, (d, (p, (o, (m, ())))))) = some (true, ()) := by
  unfold M12 Q12
  simp only [M17xe, cl_some, known_M]
  cases hs : shortB w with
  | false => rfl
  | true =>
  by_cases hn : d.n ≤ 12
  case neg =>
    have : (12 : Int) < (d.n : Int) := by omega
    simp only [this, decide_true, cond_true, Bool.not_true, cond_false]
  have hn' : ¬ (12 : Int) < (d.n : Int) := by omega
  obtain ⟨s1, s2, s3⟩ := shortB_t hs
  simp only [hn', decide_false, M20xe hs, M21xe (show w.2.1.n ≤ _ by omega) (show d.n ≤ _ by omega), M39xe (show w.2.2.2.1.n ≤ _ by omega), M27xe, cl_some, Bool.not_true, cond_false]
  cases hw : watchB w with
  | false => rfl
  | true =>
  cases hd : delB w d with
  | false => rfl
  | true =>
  cases ho : ordB w p o with
  | false => rfl
  | true =>
  cases im : inB m 0 20000 with
  | false => rfl
  | true =>
  have hpi : portI w p = true := by
    simp only [ordB, Bool.and_eq_true] at ho
    exact ho.1
  have hx := port_ix (show w.2.2.2.1.n ≤ _ by omega) hpi
  have hho : hoB w d p o m = true := by unfold hoB; rw [hw, hd, ho, im]; rfl
  have hm := inB_t im
  obtain ⟨t1, t2⟩ := truth hw hd hx ho (m := m) (by omega)
  obtain ⟨is, his⟩ : ∃ is, seesB w d (W (m - o)) = is := ⟨_, rfl⟩
  have k2 : is = true → 0 ≤ fstR w d ∧ fstR w d ≤ W (m - o) := fun e => first_sees hw hd (his.trans e)
  have k3 : 0 ≤ fstR w d → W (m - o) = fstR w d → is = true := fun e f => by
    have := sees_first hw hd e
    rw [← f, his] at this
    exact this
  rw [his] at t1 t2
  simp only [M38xe hs, M25xe hs, M19xe (show w.2.1.n ≤ _ by omega) (show w.2.2.1.n ≤ _ by omega), hho, im, hpi, hw, hd, his, cl_some, Bool.not_true, cond_false, cond_true, Bool.and_self, decide_true, hx, and_self, L12xe hs hw hx hpi im, xe12x0e0]
  cases hi : is with
  | true =>
    obtain ⟨f1, f2⟩ := k2 hi
    have n1 : ¬ fstR w d < 0 := by omega
    have n2 : ¬ W (m - o) < fstR w d := by omega
    simp only [t1 hi, n1, n2, decide_false, cond_false]
    cases allB w p m <;> rfl
  | false =>
    have ha : allB w p m = false := by
      cases h : allB w p m with
      | false => rfl
      | true => rw [t2 h] at hi; cases hi
    rw [ha]
    rcases fst_lt hw hd with e | e
    · rw [e]
      cases someB w p m <;> rfl
    · have n1 : ¬ fstR w d < 0 := by omega
      have n2 : ¬ W (m - o) = fstR w d := fun f => by rw [k3 e f] at hi; cases hi
      simp only [n1, n2, decide_false, cond_false]
      cases someB w p m <;> rfl
theorem law12 (x : (a12).den) : M12 x = some (true, ()) := by
  obtain ⟨w, d, p, o, m, ⟨⟩⟩ := x
  exact M12xe w d p o m
end Go.Dm

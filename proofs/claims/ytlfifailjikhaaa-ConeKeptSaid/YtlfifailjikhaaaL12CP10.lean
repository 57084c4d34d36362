/- Boats and cones: what is so in every truth. -/
import Derived.Test.YtlfifailjikhaaaL12CP9
set_option linter.unusedVariables false
set_option linter.unusedSimpArgs false
namespace Go.Dm
set_option maxRecDepth 100000

theorem truth {w : wT} (hw : watchB w = true) {d : rowI} (hd : delB w d = true) {p o m : Int} (hp : 0 ≤ p ∧ p < (w.2.2.2.1.n : Int)) (ho : ordB w p o = true) (hm : 0 ≤ m ∧ m ≤ 20000) :
    (seesB w d (W (m - o)) = true → someB w p m = true) ∧ (allB w p m = true → seesB w d (W (m - o)) = true) := by
  obtain ⟨p1, p2, p3⟩ := port_in hw hp
  simp only [ordB, Bool.and_eq_true] at ho
  have h2 := inB_t ho.2
  have hj : (o - (portA w p).1).toNat < numO w p := by unfold numO; omega
  have he : (portA w p).1 + ((o - (portA w p).1).toNat : Int) = o := by omega
  constructor
  · intro h
    refine List.any_eq_true.2 ⟨(o - (portA w p).1).toNat, by simpa using hj, ?_⟩
    unfold sA
    rw [he]
    exact sees_mono hw (endS_del hw false) hd (fun i hi => (del_le hd hi).1) h
  · intro h
    have := all_t h hj
    unfold sA at this
    rw [he] at this
    exact sees_mono hw hd (endS_del hw true) (fun i hi => (del_le hd hi).2) this
theorem boat_away {b : boT} (h : boatB b = true) : 0 ≤ b.2.2.1 ∧ b.2.2.1 ≤ b.2.2.2.1 ∧ b.2.2.2.1 ≤ 50000 := by
  simp only [boatB, Bool.and_eq_true] at h
  exact of_decide_eq_true h.2.2
theorem M14xe (w : wT) (d : rowI) (p o : Int) (b : boT) (m a : Int) : M14 (no_index (w, (d, (p, (o, (b, (m, (a, ())))))))) = some (true, ()) := by
  unfold M14 Q14
  simp only [M17xe, cl_some, known_M]
  cases hs : shortB w with
  | false => rfl
  | true =>
  by_cases hn : d.n ≤ 12
  case neg =>
    have : (12 : Int) < (d.n : Int) := by omega
    simp only [this, decide_true, cond_true, Bool.not_true, cond_false]
  have hn' : ¬ (12 : Int) < (d.n : Int) := by omega
  obtain ⟨s1, s2, s3⟩ := shortB_t hs
  simp only [hn', decide_false, M20xe hs, M21xe (show w.2.1.n ≤ _ by omega) (show d.n ≤ _ by omega), M39xe (show w.2.2.2.1.n ≤ _ by omega), M31xe, cl_some, Bool.not_true, cond_false]
  cases hw : watchB w with
  | false => rfl
  | true =>
  cases hd : delB w d with
  | false => rfl
  | true =>
  cases ho : ordB w p o with
  | false => rfl
  | true =>
  cases hb : boatB b with
  | false => rfl
  | true =>
  by_cases l1 : m < b.1
  · simp only [l1, decide_true, cond_true, Bool.not_true, cond_false]
  by_cases l2 : b.2.1 < m
  · simp only [l1, l2, decide_true, decide_false, cond_true, Bool.not_true, cond_false]
  by_cases l3 : a < b.2.2.1
  · simp only [l1, l2, l3, decide_true, decide_false, cond_true, Bool.not_true, cond_false]
  by_cases l4 : b.2.2.2.1 < a
  · simp only [l1, l2, l3, l4, decide_true, decide_false, cond_true, Bool.not_true, cond_false]
  obtain ⟨b1, b2, b3, b4⟩ := boat_in hb
  obtain ⟨b5, b6, b7⟩ := boat_away hb
  have hpi : portI w p = true := by
    simp only [ordB, Bool.and_eq_true] at ho
    exact ho.1
  have hx := port_ix (show w.2.2.2.1.n ≤ _ by omega) hpi
  have im : inB m 0 20000 = true := decide_eq_true (by omega)
  have ia : inB a 0 50000 = true := decide_eq_true (by omega)
  have hho : hoB w d p o m = true := by unfold hoB; rw [hw, hd, ho, im]; rfl
  obtain ⟨t1, t2⟩ := truth hw hd hx ho (m := m) (by omega)
  have hj : (m - b.1).toNat < numB b := by unfold numB; omega
  have he : b.1 + ((m - b.1).toNat : Int) = m := by omega
  obtain ⟨is, his⟩ : ∃ is, (seesB w d (W (m - o)) && decide (a ≤ sightI w p m)) = is := ⟨_, rfl⟩
  have f1 : is = true → someB w p m = true ∧ anyC w p b (numB b) = true := fun e => by
    rw [e, Bool.and_eq_true, decide_eq_true_eq] at his
    have g1 := t1 his.1
    refine ⟨g1, List.any_eq_true.2 ⟨(m - b.1).toNat, by simpa using hj, ?_⟩⟩
    unfold canJ
    rw [he, g1, Bool.true_and]
    exact decide_eq_true (by omega)
  have f2 : allM w p b (numB b) = true → allB w p m = true ∧ is = true := fun e => by
    have g := all_t e hj
    unfold mustJ at g
    rw [he] at g
    simp only [Bool.and_eq_true, decide_eq_true_eq] at g
    refine ⟨g.1.2, ?_⟩
    rw [← his, t2 g.1.2, Bool.true_and]
    exact decide_eq_true (by omega)
  simp only [l1, l2, l3, l4, decide_false, M41xe hs, M30xe hs, M25xe hs, hho, ia, im, hpi, hw, hb, his, warnI, cl_some, Bool.not_true, cond_false, cond_true, Bool.and_self, decide_true]
  cases hM : allM w p b (numB b) with
  | true =>
    obtain ⟨g1, g2⟩ := f2 hM
    obtain ⟨g3, g4⟩ := f1 g2
    simp only [g1, g2, g3, g4]
    rfl
  | false =>
    cases hi : is with
    | true =>
      obtain ⟨g3, g4⟩ := f1 hi
      simp only [g3, g4]
      cases allB w p m <;> rfl
    | false => cases anyC w p b (numB b) <;> cases someB w p m <;> cases allB w p m <;> rfl
theorem law14 (x : (a14).den) : M14 x = some (true, ()) := by
  obtain ⟨w, d, p, o, b, m, a, ⟨⟩⟩ := x
  exact M14xe w d p o b m a
end Go.Dm

/- WatchRivals. -/
import Derived.Test.YtiapgkbnjpkagaaL12WP4
import Derived.Test.YtiapgkbnjpkagaaL12WP13
set_option linter.unusedVariables false
set_option linter.unusedSimpArgs false
namespace Go.Dm
set_option maxRecDepth 100000

theorem M58xe {a b : rowI} (hn : a.n = b.n) (hs : a.n ≤ 10) : M58 (no_index (a, (b, ()))) = some (lexB a b a.n, ()) := by
  have : L58x0 (no_index (a, (b, ()))) (no_index ((0 : Int), ())) = match difN a b a.n with
      | some k => .ret (decide ((a.g k).1 < (b.g k).1), ())
      | none => .exit 0 () := by
    unfold L58x0 difN
    refine iterQ_find (ps := vs58x0) (wy := wv58x0) (f := fun j => ((j : Int), ())) (big_lt (n := a.n) (by omega)) (fun j hj _ => ?_) fun _ => ?_
    · have hj' : j < b.n := by omega
      unfold S58x0 Z58x0
      simp only [lt_ok hj, lt_ok hj', idx_ok hj, idx_ok hj', W_nat hj (by omega : a.n ≤ 140737488355328), decide_true, cond_true, and_self, Int.toNat_natCast]
    · unfold S58x0 Z58x0
      simp
  unfold M58 Q58 lexB
  rw [this]
  cases h : difN a b a.n with
  | none =>
    have e : ¬ (((a.n : Nat) : Int) < ((b.n : Nat) : Int)) := by omega
    show (some (decide (((a.n : Nat) : Int) < ((b.n : Nat) : Int)), ()) : Option (r58).den) = _
    simp only [e, decide_false]
  | some k => rfl
def part (s : spanT) (p : Int) : Int := W (s.1 + W (Int.tdiv (W (W (s.2.1 - s.1) * p)) 100))
theorem part_bd {s : spanT} (h : 0 ≤ s.1 ∧ s.1 ≤ s.2.1 ∧ s.2.1 ≤ 60) {p : Int} (hp : 0 ≤ p ∧ p ≤ 100) : part s p = s.1 + ((s.2.1 - s.1) * p) / 100 ∧ s.1 ≤ part s p ∧ part s p ≤ s.2.1 := by
  have m1 : 0 ≤ (s.2.1 - s.1) * p := Int.mul_nonneg (by omega) hp.1
  have m2 : (s.2.1 - s.1) * p ≤ (s.2.1 - s.1) * 100 := Int.mul_le_mul_of_nonneg_left hp.2 (by omega)
  have e : part s p = s.1 + ((s.2.1 - s.1) * p) / 100 := by
    unfold part
    rw [W_id (n := s.2.1 - s.1) ⟨by omega, by omega⟩, W_id (n := (s.2.1 - s.1) * p) ⟨by omega, by omega⟩, Int.tdiv_eq_ediv_of_nonneg m1]
    have d1 : ((s.2.1 - s.1) * p) / 100 ≤ 60 := by omega
    have d2 : 0 ≤ ((s.2.1 - s.1) * p) / 100 := by omega
    rw [W_id (n := ((s.2.1 - s.1) * p) / 100) ⟨by omega, by omega⟩, W_id ⟨by omega, by omega⟩]
  rw [e]
  omega
def pctC (P : rowI) (j : Nat) : Bool := decide (j < P.n) && inB (P.g j).1 0 100
def legP (r : wrT) (o P : rowI) (j : Nat) : Int := part (road r o j) (P.g j).1
theorem law16' (r : wrT) (o P : rowI) : M16 (no_index (r, (o, (P, ())))) = some (true, ()) := by
  unfold M16 Q16
  simp only [M38xe, cl_some, known_M]
  cases hb : briefB r with
  | false => rfl
  | true =>
  have h := briefB_t hb
  simp only [M39xe h, cl_some, Bool.not_true, cond_false]
  cases hr : roundB r with
  | false => rfl
  | true =>
  by_cases ho : o.n ≤ 10
  case neg =>
    have e1 : ((10 : Int) < ((o.n : Nat) : Int)) := by omega
    simp [e1]
  by_cases hP : P.n ≤ 10
  case neg =>
    have e1 : ¬ ((10 : Int) < ((o.n : Nat) : Int)) := by omega
    have e2 : ((10 : Int) < ((P.n : Nat) : Int)) := by omega
    simp [e1, e2]
  have e1 : ¬ ((10 : Int) < ((o.n : Nat) : Int)) := by omega
  have e2 : ¬ ((10 : Int) < ((P.n : Nat) : Int)) := by omega
  simp only [e1, e2, decide_false, cond_false, Bool.not_true, M46xe r o (by omega), cl_some]
  cases hq : orderB r o with
  | false => rfl
  | true =>
  obtain ⟨l, d, e40, hB⟩ := M40xe hr h
  have hm := round_n hr
  have hl := order_len hB.ord (by omega)
  have hl10 : l.n ≤ 10 := by omega
  have e3 : ¬ (((r.2.1.n : Nat) : Int) < ((l.n : Nat) : Int)) := by omega
  have hlo := hB.ord
  simp only [e40, e3, cl_some, decide_true, decide_false, Bool.not_true, cond_false, M46xe r l (by omega), hlo]
  have hloop : L16x0 (no_index (o, (P, ((), (l, (d, (r, ()))))))) (no_index (s0I, ((0 : Int), ()))) = bif (List.range l.n).all (pctC P) then .exit 0 (tab s0I (fun j => (legP r l P j, ())) l.n, ()) else .ret (true, ()) := by
    unfold L16x0
    refine iterQ_all (ps := vs16x0) (wy := wv16x0) (f := fun j => (tab s0I (fun j => (legP r l P j, ())) j, ((j : Int), ()))) (big_lt (n := l.n) (by omega)) (fun j hj _ => ?_) fun _ => ?_
    · have e4 : (j + 1) * 8 ≤ 140737488355328 := by omega
      unfold S16x0 Z16x0 pctC
      simp only [lt_ok hj, decide_true, cond_true, M57xe hr hlo hl10 hj, cl_some, known_M, tab_n0 (s0 := s0I) rfl, e4, W_nat hj (by omega : l.n ≤ 140737488355328)]
      by_cases hjP : j < P.n
      case neg =>
        have : (((P.n : Nat) : Int) ≤ (j : Int)) := by omega
        simp [this, hjP]
      have e5 : ¬ (((P.n : Nat) : Int) ≤ (j : Int)) := by omega
      simp only [e5, decide_false, cond_false, idx_ok hjP, and_self, decide_true, cond_true, Int.toNat_natCast, hjP, Bool.true_and, inB]
      by_cases h1 : (P.g j).1 < 0
      · have h1' : ¬ (0 ≤ (P.g j).1) := by omega
        simp [h1, h1']
      · have h1' : (0 ≤ (P.g j).1) := by omega
        by_cases h2 : 100 < (P.g j).1
        · have h2' : ¬ ((P.g j).1 ≤ 100) := by omega
          simp [h1, h1', h2, h2']
        · have h2' : ((P.g j).1 ≤ 100) := by omega
          simp only [h1, h1', h2, h2', decide_false, cond_false, and_self, decide_true, cond_true, tab]
          rfl
    · unfold S16x0 Z16x0
      simp
  have hloop' : L16x0 (no_index (o, (P, ((), (l, (d, (r, ()))))))) (no_index ((⟨0, fun i => ((0 : Int), ())⟩ : Sl _), ((0 : Int), ()))) = bif (List.range l.n).all (pctC P) then .exit 0 (tab s0I (fun j => (legP r l P j, ())) l.n, ()) else .ret (true, ()) := hloop
  rw [hloop']
  cases hp : (List.range l.n).all (pctC P) with
  | false => rfl
  | true =>
  have hpc : ∀ j, j < l.n → 0 ≤ (P.g j).1 ∧ (P.g j).1 ≤ 100 := fun j hj => by
    have := all_t hp hj
    simp only [pctC, Bool.and_eq_true] at this
    exact inB_t this.2
  have hpt := fun (j : Nat) (hj : j < l.n) => part_bd (road_bd hr hlo hj) (hpc j hj)
  have hlg : legsB r l (tab s0I (fun j => (legP r l P j, ())) l.n) = true := by
    unfold legsB
    rw [tab_n0 rfl, decide_eq_true rfl, Bool.true_and]
    refine all_i fun j hj => ?_
    unfold legC
    rw [tab_g0 rfl hj]
    exact decide_eq_true ⟨(hpt j hj).2.1, (hpt j hj).2.2⟩
  have h53 := M53xg h hl10 hr hlo hlg (g := legP r l P) (fun j hj => by rw [tab_g0 rfl hj])
  refine (xe16x0e0 _ _ _).trans ?_
  have hs := hB.sure
  have hend : st r l (highL r l) l.n = d := hB.fin.symm
  have hendo : st r o (highL r o) o.n = endH r o := rfl
  have h53' : M53 (no_index (r, (l, (tab s0I (fun j => (legP r l P j, ())) l.n, ())))) = _ := h53
  simp only [M47xe h hl10, M49xe h hl10, M47xe h ho, M49xe h ho, hr, hlo, hq, hs, hend, hendo, cl_some, Bool.and_self, cond_true, decide_true, Bool.not_true, cond_false]
  refine (congrArg (fun q => cl _ q _ _) h53').trans ?_
  simp only [cl_some, days_n, decide_true, Bool.not_true, cond_false]
  have hl1 : L16x1 (no_index (o, ((), (l, (d, (days r l (legP r l P), (r, ()))))))) (no_index ((0 : Int), ())) = .exit 2 () := by
    unfold L16x1
    refine iterQ_steps (ps := vs16x1) (wy := wv16x1) l.n big (fun j => ((j : Int), ())) (big_lt (by omega)) (fun j hj => ?_) ?_
    · have h1 := order_bd hr hlo hj
      have e3 : ((0 : Int) ≤ (l.g j).1 ∧ (l.g j).1 < ((r.2.1.n : Nat) : Int)) := ⟨h1.1, h1.2.1⟩
      have hm1 := arr_mono hr hlo hl10 (l := legP r l P) (l' := highL r l) (fun i hi => by have := hpt i hi; have := road_bd hr hlo hi; unfold legP; omega) (high_bd hr hlo) (fun i hi => (hpt i hi).2.2) hj
      have hn := all_t hs hj
      unfold lateC at hn
      have hn' : ¬ ((r.2.1.g (l.g j).1.toNat).2.1 < arr r l (highL r l) j) := by simpa using hn
      have m3 : ¬ ((r.2.1.g (l.g j).1.toNat).2.1 < arr r l (legP r l P) j) := by omega
      unfold S16x1 Z16x1
      simp only [lt_ok hj, idx_ok hj, days_n, days_g r l _ hj, e3, m3, W_nat hj (by omega : l.n ≤ 140737488355328), decide_true, decide_false, cond_true, cond_false, and_self, Int.toNat_natCast]
    · unfold S16x1 Z16x1
      simp
  rw [hl1]
  refine (xe16x1e2 _ _ _).trans ?_
  cases hso : sureB r o with
  | false => rfl
  | true =>
  have htop := hB.top o hq hso
  have hco := lexB_e (n := o.n) (order_dig hr hq) (b := l)
  simp only [cond_true, Bool.not_true, cond_false]
  by_cases c1 : o.n < l.n
  · have : (((o.n : Nat) : Int) < ((l.n : Nat) : Int)) := by omega
    simp [this]
  have c1' : ¬ (((o.n : Nat) : Int) < ((l.n : Nat) : Int)) := by omega
  have c2 : o.n = l.n := by unfold Bet at htop; omega
  have c2' : (((o.n : Nat) : Int) = ((l.n : Nat) : Int)) := by omega
  have c3 : ¬ (endH r o < d) := by unfold Bet at htop; omega
  simp only [c1', c2', decide_false, decide_true, cond_false, cond_true]
  by_cases c4 : d < endH r o
  · simp [c4]
  have c5 : endH r o = d := by
    have c4 : ¬ (d < endH r o) := c4
    have c3 : ¬ (endH r o < d) := c3
    exact Int.le_antisymm (Int.not_lt.1 c4) (Int.not_lt.1 c3)
  simp only [c4, c5, decide_false, decide_true, cond_false, cond_true, M58xe c2 ho, cl_some]
  have c6 : ¬ (cod o o.n < cod l l.n) := by unfold Bet at htop; omega
  rw [hco (fun j hj => order_dig hr hlo j (by omega))]
  have c7 : ¬ (cod o o.n < cod l o.n) := by rw [c2] at c6 ⊢; exact c6
  simp [c7]
theorem law16 (x : (a16).den) : M16 x = some (true, ()) := by
  obtain ⟨r, o, P, ⟨⟩⟩ := x
  exact law16' r o P
end Go.Dm

/- WatchMore. -/
import Derived.Test.YtiapgkbnjpkagaaL12WP14
set_option linter.unusedVariables false
set_option linter.unusedSimpArgs false
namespace Go.Dm
set_option maxRecDepth 100000

def s0R : Sl (Sl spanT × Unit) := ⟨0, fun i => ((⟨0, fun i => ((0 : Int), ((0 : Int), ()))⟩ : Sl _), ())⟩
def moreS (s : spanT) (t : Int) : spanT := (s.1, (mn 400 (W (s.2.1 + t)), ()))
def nearS (s : spanT) (a b : Int) : spanT := (part s a, (part s b, ()))
def moreL (r : wrT) (t : Int) : Nat → Sl spanT := tab s0S fun j => moreS (r.2.1.g j) t
def nearL (s : Sl spanT) (a b : Int) : Nat → Sl spanT := tab s0S fun k => nearS (s.g k) a b
def nearR (r : wrT) (a b : Int) : Nat → Sl (Sl spanT × Unit) := tab s0R fun i => (nearL (r.2.2.1.g i).1 a b (r.2.2.1.g i).1.n, ())
def moreR (r : wrT) (a b t : Int) : wrT := (r.1, (moreL r t r.2.1.n, (nearR r a b r.2.2.1.n, ())))
theorem tab_g1 {α : Type} {s0 : Sl α} (h0 : s0.n = 0) {y : Nat → α} {i j : Nat} (h : i < j) : (tab s0 y j).g i = y i := tab_g0 h0 h

structure Near (a b t : Int) : Prop where
  a0 : 0 ≤ a
  ab : a ≤ b
  b1 : b ≤ 100
  t0 : 0 ≤ t
  t1 : t ≤ 400
theorem near_bd {s : spanT} (h : spanC s = true) {a b t : Int} (n : Near a b t) : s.1 ≤ part s a ∧ part s a ≤ part s b ∧ part s b ≤ s.2.1 := by
  have hs : 0 ≤ s.1 ∧ s.1 ≤ s.2.1 ∧ s.2.1 ≤ 60 := of_decide_eq_true h
  have := n.a0; have := n.ab; have := n.b1
  have p1 := part_bd hs (p := a) (by omega)
  have p2 := part_bd hs (p := b) (by omega)
  refine ⟨p1.2.1, ?_, p2.2.2⟩
  rw [p1.1, p2.1]
  have := Int.mul_le_mul_of_nonneg_left n.ab (show 0 ≤ s.2.1 - s.1 by omega)
  omega
section
variable {r : wrT} {a b t : Int}
theorem more_n : (moreR r a b t).2.1.n = r.2.1.n := tab_n0 rfl
theorem more_m : (moreR r a b t).2.2.1.n = r.2.2.1.n := tab_n0 rfl
theorem more_st {j : Nat} (h : j < r.2.1.n) : (moreR r a b t).2.1.g j = moreS (r.2.1.g j) t := tab_g1 rfl h
theorem more_row {j : Nat} (h : j < r.2.2.1.n) : (moreR r a b t).2.2.1.g j = (nearL (r.2.2.1.g j).1 a b (r.2.2.1.g j).1.n, ()) := tab_g1 rfl h
theorem near_n {s : Sl spanT} {k : Nat} : (nearL s a b k).n = k := tab_n0 rfl
theorem near_g {s : Sl spanT} {k j : Nat} (h : j < k) : (nearL s a b k).g j = nearS (s.g j) a b := tab_g1 rfl h
theorem due_bd (hr : roundB r = true) {j : Nat} (hj : j < r.2.1.n) : 0 ≤ (r.2.1.g j).1 ∧ (r.2.1.g j).1 ≤ 10 ∧ 0 ≤ (r.2.1.g j).2.1 ∧ (r.2.1.g j).2.1 ≤ 400 := by
  simp only [roundB, Bool.and_eq_true] at hr
  have := all_t hr.2.2.2.1 hj
  simp only [staC, Bool.and_eq_true] at this
  have h1 := inB_t this.1
  have h2 := inB_t this.2
  omega
theorem due_more (hr : roundB r = true) (n : Near a b t) {j : Nat} (hj : j < r.2.1.n) : (r.2.1.g j).2.1 ≤ (moreS (r.2.1.g j) t).2.1 ∧ (moreS (r.2.1.g j) t).2.1 ≤ 400 := by
  have h1 := due_bd hr hj
  have := n.t0; have := n.t1
  show (r.2.1.g j).2.1 ≤ mn 400 (W ((r.2.1.g j).2.1 + t)) ∧ mn 400 (W ((r.2.1.g j).2.1 + t)) ≤ 400
  rw [W_id ⟨by omega, by omega⟩]
  unfold mn
  split <;> omega
theorem more_small (h : smallR r) : smallR (moreR r a b t) := by
  refine ⟨by rw [more_n]; exact h.1, by rw [more_m]; exact h.2.1, fun j hj => ?_⟩
  rw [more_m] at hj
  rw [more_row hj]
  show (nearL _ a b _).n ≤ 10
  rw [near_n]
  exact h.2.2 j hj
theorem more_round (hr : roundB r = true) (n : Near a b t) : roundB (moreR r a b t) = true := by
  have hr' := hr
  simp only [roundB, Bool.and_eq_true, decide_eq_true_eq] at hr'
  unfold roundB
  rw [more_n, more_m]
  simp only [Bool.and_eq_true, decide_eq_true_eq]
  refine ⟨hr'.1, hr'.2.1, hr'.2.2.1, all_i fun j hj => ?_, all_i fun j hj => ?_⟩
  · unfold staC
    rw [more_st hj, Bool.and_eq_true]
    have h1 := due_bd hr hj
    have h2 := due_more hr n hj
    exact ⟨decide_eq_true ⟨h1.1, h1.2.1⟩, decide_eq_true ⟨by omega, h2.2⟩⟩
  · unfold rowC
    rw [more_row hj, more_m, Bool.and_eq_true]
    have hl := row_len hr hj
    refine ⟨decide_eq_true (by show (nearL _ a b _).n = _; rw [near_n]; exact hl), all_i fun k hk => ?_⟩
    have hk' : k < (r.2.2.1.g j).1.n := by
      have : k < (nearL (r.2.2.1.g j).1 a b (r.2.2.1.g j).1.n).n := hk
      rwa [near_n] at this
    show spanC ((nearL (r.2.2.1.g j).1 a b (r.2.2.1.g j).1.n).g k) = true
    rw [near_g hk']
    have hsp := road_ok hr hj (k := k) (by omega)
    have h3 := near_bd hsp n
    have h4 : 0 ≤ ((r.2.2.1.g j).1.g k).1 ∧ ((r.2.2.1.g j).1.g k).1 ≤ ((r.2.2.1.g j).1.g k).2.1 ∧ ((r.2.2.1.g j).1.g k).2.1 ≤ 60 := of_decide_eq_true hsp
    refine decide_eq_true ⟨?_, ?_, ?_⟩
    · show 0 ≤ part _ a; omega
    · show part _ a ≤ part _ b; omega
    · show part _ b ≤ 60; omega
theorem more_order (o : rowI) : orderB (moreR r a b t) o = orderB r o := by
  have : ordC (moreR r a b t) o = ordC r o := funext fun j => by unfold ordC; rw [more_n]
  unfold orderB
  rw [this]
theorem more_road {o : rowI} (hr : roundB r = true) (ho : orderB r o = true) {j : Nat} (hj : j < o.n) : road (moreR r a b t) o j = nearS (road r o j) a b := by
  have h1 := frm_bd hr ho hj
  have h2 := order_bd hr ho hj
  have h3 := row_len hr h1.2.1
  unfold road
  rw [more_row h1.2.1]
  exact near_g (by omega)
theorem more_stE {o : rowI} (hr : roundB r = true) (ho : orderB r o = true) (l : Nat → Int) : ∀ {j : Nat}, j ≤ o.n → st (moreR r a b t) o l j = st r o l j
  | 0, _ => rfl
  | j + 1, hj => by
    have h2 := order_bd hr ho (j := j) (by omega)
    rw [st, st, more_stE hr ho l (by omega), more_st (by omega)]
    rfl
theorem more_sure {o : rowI} (hr : roundB r = true) (n : Near a b t) (ho : orderB r o = true) (hs : sureB r o = true) : sureB (moreR r a b t) o = true := by
  have hm := round_n hr
  have hl := order_len ho (by omega)
  refine all_i fun j hj => ?_
  have h1 := order_bd hr ho hj
  have hn := all_t hs hj
  unfold lateC at hn ⊢
  rw [more_st (by omega)]
  have hd := due_more hr n (j := (o.g j).1.toNat) (by omega)
  have hn' : ¬ ((r.2.1.g (o.g j).1.toNat).2.1 < arr r o (highL r o) j) := by simpa using hn
  have hh : ∀ i, i < o.n → 0 ≤ highL (moreR r a b t) o i ∧ highL (moreR r a b t) o i ≤ 60 ∧ highL (moreR r a b t) o i ≤ highL r o i := fun i hi => by
    unfold highL
    rw [more_road hr ho hi]
    have h3 := frm_bd hr ho hi
    have h4 := order_bd hr ho hi
    have h5 := row_len hr h3.2.1
    have hsp : spanC (road r o i) = true := road_ok hr h3.2.1 (by omega)
    have h6 := near_bd hsp n
    have h7 := road_bd hr ho hi
    refine ⟨?_, ?_, ?_⟩
    · show 0 ≤ part _ b; omega
    · show part _ b ≤ 60; omega
    · show part _ b ≤ _; omega
  have e : arr (moreR r a b t) o (highL (moreR r a b t) o) j = arr r o (highL (moreR r a b t) o) j := by
    unfold arr
    rw [more_stE hr ho _ (by omega)]
  have hm := arr_mono hr ho (by omega) (l := highL (moreR r a b t) o) (l' := highL r o) (fun i hi => ⟨(hh i hi).1, (hh i hi).2.1⟩) (high_bd hr ho) (fun i hi => (hh i hi).2.2) hj
  rw [e]
  have hd1 := hd.1
  have : ¬ ((moreS (r.2.1.g (o.g j).1.toNat) t).2.1 < arr r o (highL (moreR r a b t) o) j) := by omega
  simp [this]
end
theorem law12' (r : wrT) (o : rowI) (a b t : Int) : M12 (no_index (r, (o, (a, (b, (t, ())))))) = some (true, ()) := by
  unfold M12 Q12
  simp only [M38xe, cl_some, known_M]
  cases hb : briefB r with
  | false => rfl
  | true =>
  have h := briefB_t hb
  simp only [M39xe h, cl_some, Bool.not_true, cond_false]
  cases hr : roundB r with
  | false => rfl
  | true =>
  by_cases ho : o.n ≤ 10
  case neg =>
    have e1 : ((10 : Int) < ((o.n : Nat) : Int)) := by omega
    simp [e1]
  have e1 : ¬ ((10 : Int) < ((o.n : Nat) : Int)) := by omega
  simp only [e1, decide_false, cond_false, Bool.not_true, M46xe r o (by omega), cl_some]
  cases hq : orderB r o with
  | false => rfl
  | true =>
  by_cases q1 : a < 0
  case pos => simp [q1]
  by_cases q2 : b < a
  case pos => simp [q1, q2]
  by_cases q3 : 100 < b
  case pos => simp [q1, q2, q3]
  by_cases q4 : t < 0
  case pos => simp [q1, q2, q3, q4]
  by_cases q5 : 400 < t
  case pos => simp [q1, q2, q3, q4, q5]
  simp only [q1, q2, q3, q4, q5, decide_false, cond_false, Bool.not_true]
  have n : Near a b t := ⟨by omega, by omega, by omega, by omega, by omega⟩
  have hm := round_n hr
  have hs1 := h.1
  have hs2 := h.2.1
  have l0 : L12x0 (no_index (o, (a, (b, (t, ((), ((), (r, ())))))))) (no_index ((0 : Int), ((r.1, (s0S, (s0R, ()))), ()))) = .exit 0 ((r.1, (moreL r t r.2.1.n, (s0R, ()))), ()) := by
    unfold L12x0
    refine iterQ_steps (ps := vs12x0) (wy := wv12x0) r.2.1.n big (fun j => ((j : Int), ((r.1, (moreL r t j, (s0R, ()))), ()))) (big_lt (by omega)) (fun j hj => ?_) ?_
    · have e4 : (j + 1) * 16 ≤ 140737488355328 := by omega
      unfold S12x0 Z12x0 moreL
      simp only [lt_ok hj, idx_ok hj, tab_n0 (s0 := s0S) rfl, e4, W_nat hj (by omega : r.2.1.n ≤ 140737488355328), decide_true, cond_true, and_self, Int.toNat_natCast, tab]
      rfl
    · unfold S12x0 Z12x0
      simp
  have l10 : ∀ (i : Nat) (y : wrT), i < r.2.2.1.n → L12x1x0 (no_index (o, (a, (b, ((), ((), ((i : Int), (r, (y, ()))))))))) (no_index (s0S, ((0 : Int), ()))) = .exit 4 (nearL (r.2.2.1.g i).1 a b (r.2.2.1.g i).1.n, ()) := fun i y hi => by
    have hk10 := h.2.2 i hi
    unfold L12x1x0
    refine iterQ_steps (ps := vs12x1x0) (wy := wv12x1x0) (r.2.2.1.g i).1.n big (fun j => (nearL (r.2.2.1.g i).1 a b j, ((j : Int), ()))) (big_lt (by omega)) (fun j hj => ?_) ?_
    · have e4 : (j + 1) * 16 ≤ 140737488355328 := by omega
      unfold S12x1x0 Z12x1x0 nearL
      simp only [lt_ok hj, idx_ok hj, idx_ok hi, tab_n0 (s0 := s0S) rfl, e4, W_nat hj (by omega : (r.2.2.1.g i).1.n ≤ 140737488355328), decide_true, cond_true, and_self, Int.toNat_natCast, tab]
      rfl
    · unfold S12x1x0 Z12x1x0
      simp [idx_ok hi]
  have l1 : L12x1 (no_index (o, (a, (b, ((), ((), (r, ()))))))) (no_index ((0 : Int), ((r.1, (moreL r t r.2.1.n, (s0R, ()))), ()))) = .exit 2 (moreR r a b t, ()) := by
    unfold L12x1
    refine iterQ_steps (ps := vs12x1) (wy := wv12x1) r.2.2.1.n big (fun j => ((j : Int), ((r.1, (moreL r t r.2.1.n, (nearR r a b j, ()))), ()))) (big_lt (by omega)) (fun j hj => ?_) ?_
    · have e4 : (j + 1) * 24 ≤ 140737488355328 := by omega
      unfold S12x1 Z12x1
      simp only [lt_ok hj, decide_true, cond_true]
      have : L12x1x0 (no_index (o, (a, (b, ((), ((), ((j : Int), (r, ((r.1, (moreL r t r.2.1.n, (nearR r a b j, ()))), ()))))))))) (no_index ((⟨0, fun i => ((0 : Int), ((0 : Int), ()))⟩ : Sl _), ((0 : Int), ()))) = .exit 4 (nearL (r.2.2.1.g j).1 a b (r.2.2.1.g j).1.n, ()) := l10 j (r.1, (moreL r t r.2.1.n, (nearR r a b j, ()))) hj
      rw [this]
      refine (xe12x1_0e4 _ _ _).trans ?_
      have en : (nearR r a b j).n = j := tab_n0 rfl
      show (bif decide (((nearR r a b j).n + 1) * 24 ≤ 140737488355328) then _ else _) = _
      rw [en, decide_eq_true e4, cond_true, W_nat hj (by omega : r.2.2.1.n ≤ 140737488355328)]
      rfl
    · unfold S12x1 Z12x1
      simp [moreR]
  have l0' : L12x0 (no_index (o, (a, (b, (t, ((), ((), (r, ())))))))) (no_index ((0 : Int), ((r.1, ((⟨0, fun i => ((0 : Int), ((0 : Int), ()))⟩ : Sl _), ((⟨0, fun i => ((⟨0, fun i => ((0 : Int), ((0 : Int), ()))⟩ : Sl _), ())⟩ : Sl _), ()))), ()))) = .exit 0 ((r.1, (moreL r t r.2.1.n, (s0R, ()))), ()) := l0
  rw [l0']
  refine (xe12x0e0 _ _ _).trans ?_
  simp only []
  rw [l1]
  refine (xe12x1e2 _ _ _).trans ?_
  have hx := more_round (a := a) (b := b) (t := t) hr n
  have hxs := more_small (a := a) (b := b) (t := t) h
  obtain ⟨l, d, e2, hB⟩ := M40xe hr h
  obtain ⟨l', d', e3, hB'⟩ := M40xe hx hxs
  have htop := hB'.top l (by rw [more_order]; exact hB.ord) (more_sure hr n hB.ord hB.sure)
  have hle : l.n ≤ l'.n := by unfold Bet at htop; omega
  have hle' : (((l.n : Nat) : Int) ≤ ((l'.n : Nat) : Int)) := by omega
  have hso : sureB r o = true → sureB (moreR r a b t) o = true := more_sure hr n hq
  simp only [M47xe h ho, M47xe hxs ho, hr, hx, hq, more_order, e2, e3, cl_some, Bool.and_self, cond_true, decide_true, hle']
  cases hs : sureB r o with
  | false => rfl
  | true =>
    simp only [hso hs]
    rfl
theorem law12 (x : (a12).den) : M12 x = some (true, ()) := by
  obtain ⟨r, o, a, b, t, ⟨⟩⟩ := x
  exact law12' r o a b t
end Go.Dm

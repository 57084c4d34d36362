/- Orders of a round, and the days of a round. -/
import Derived.Test.YtiapgkbnjpkagaaL10WP1
set_option linter.unusedVariables false
set_option linter.unusedSimpArgs false
namespace Go.Dm
set_option maxRecDepth 100000

theorem M101xe (s : rowI) (x : Int) (h : s.n ≤ 140737488355328) : M101 (no_index (s, (x, ()))) = some (fstI (fun j => decide (x = (s.g j).1)) s.n, ()) := by
  have : L101x0 (no_index (s, (x, (((s.n : Nat) : Int), ())))) (no_index ((0 : Int), ())) = match fstN (fun j => decide (x = (s.g j).1)) s.n with | some k => .ret ((k : Int), ()) | none => .exit 0 () := by
    unfold L101x0
    refine iterQ_find (ps := vs101x0) (f := fun j => ((j : Int), ())) (big_lt h) (fun j hj _ => ?_) fun _ => ?_
    · unfold S101x0 Z101x0
      simp only [lt_ok hj, idx_ok hj, W_nat hj h, decide_true, cond_true, and_self, Int.toNat_natCast]
    · unfold S101x0 Z101x0
      simp
  unfold M101 Q101 fstI
  simp only [this]
  cases fstN (fun j => decide (x = (s.g j).1)) s.n <;> simp
theorem M81xe (s : rowI) (x : Int) (h : s.n ≤ 140737488355328) : M81 (no_index (s, (x, ()))) = some ((List.range s.n).any (fun j => decide (x = (s.g j).1)), ()) := by
  unfold M81 Q81
  rw [M101xe s x h]
  simp only [cl_some, fstI_dec]

/-- A number of an order: one of a station, and none that was there before. -/
def newC (o : rowI) (j : Nat) : Bool := (List.range j).all fun k => !decide ((o.g j).1 = (o.g k).1)
def ordC (r : wrT) (o : rowI) (j : Nat) : Bool := inB (o.g j).1 0 (W (((r.2.1.n : Nat) : Int) - 1)) && newC o j
def orderB (r : wrT) (o : rowI) : Bool := (List.range o.n).all (ordC r o)
theorem L46x0_0_e (r : wrT) (o : rowI) {j : Nat} (hj : j < o.n) (h : o.n ≤ 140737488355328) : L46x0x0 (no_index (o, ((), ((j : Int), (r, ()))))) (no_index ((0 : Int), ())) = bif newC o j then .exit 2 () else .ret (false, ()) := by
  unfold L46x0x0 newC
  refine iterQ_all (ps := vs46x0x0) (f := fun k => ((k : Int), ())) (big_lt (n := j) (by omega)) (fun k hk _ => ?_) fun _ => ?_
  · have hk' : k < o.n := by omega
    have e : decide ((o.g k).1 = (o.g j).1) = decide ((o.g j).1 = (o.g k).1) := by
      by_cases e : (o.g k).1 = (o.g j).1
      · simp [e]
      · simp [e, Ne.symm e]
    unfold S46x0x0 Z46x0x0
    simp only [lt_ok hk, idx_ok hk', idx_ok hj, W_nat hk' h, decide_true, cond_true, and_self, Int.toNat_natCast, e]
    cases decide ((o.g j).1 = (o.g k).1) <;> rfl
  · unfold S46x0x0 Z46x0x0
    simp
theorem M46xe (r : wrT) (o : rowI) (h : o.n ≤ 140737488355328) : M46 (no_index (r, (o, ()))) = some (orderB r o, ()) := by
  have : L46x0 (no_index (o, ((), (r, ())))) (no_index ((0 : Int), ())) = bif orderB r o then .exit 0 () else .ret (false, ()) := by
    unfold L46x0 orderB
    refine iterQ_all (ps := vs46x0) (f := fun j => ((j : Int), ())) (big_lt h) (fun j hj _ => ?_) fun _ => ?_
    · unfold S46x0 Z46x0 ordC
      simp only [lt_ok hj, idx_ok hj, W_nat hj h, decide_true, cond_true, and_self, Int.toNat_natCast, M63xe, cl_some, L46x0_0_e r o hj h]
      cases inB (o.g j).1 0 (W (((r.2.1.n : Nat) : Int) - 1)) <;> cases newC o j <;> rfl
    · unfold S46x0 Z46x0
      simp
  unfold M46 Q46
  simp only [this]
  cases orderB r o <;> rfl
theorem order_len {r : wrT} {o : rowI} (h : orderB r o = true) (hr : r.2.1.n ≤ 9) : o.n ≤ r.2.1.n := by
  have hw : W (((r.2.1.n : Nat) : Int) - 1) = ((r.2.1.n : Nat) : Int) - 1 := W_id ⟨by omega, by omega⟩
  have hc : ∀ j, j < o.n → 0 ≤ (o.g j).1 ∧ (o.g j).1 < (r.2.1.n : Int) ∧ newC o j = true := fun j hj => by
    have := all_t h hj
    simp only [ordC, Bool.and_eq_true, hw] at this
    have h1 := inB_t this.1
    exact ⟨h1.1, by omega, this.2⟩
  refine pigeon r.2.1.n o.n (fun j => (o.g j).1.toNat) (fun j hj => ?_) (fun i j hij hj => ?_)
  · have := hc j hj; show (o.g j).1.toNat < _; omega
  · have h1 := hc j hj
    have h2 := hc i (by omega)
    have := all_t h1.2.2 (j := i) hij
    have hne : (o.g j).1 ≠ (o.g i).1 := by simpa using this
    show (o.g i).1.toNat ≠ (o.g j).1.toNat
    omega
theorem M85xe (r : wrT) (o : rowI) (h : o.n ≤ 140737488355328) (hr : r.2.1.n ≤ 9) : M85 (no_index (r, (o, ()))) = some (orderB r o, ()) := by
  have : L85x0 (no_index (o, ((), (o, (((o.n : Nat) : Int), (r, ())))))) (no_index ((0 : Int), ())) = bif orderB r o then .exit 0 () else .ret (false, ()) := by
    unfold L85x0 orderB
    refine iterQ_all (ps := vs85x0) (f := fun j => ((j : Int), ())) (big_lt h) (fun j hj _ => ?_) fun _ => ?_
    · have e1 : ((0 : Int) ≤ (0 : Int)) ∧ (((0 : Int) ≤ (j : Int)) ∧ ((j : Int) ≤ ((o.n : Nat) : Int))) := by omega
      have e2 : Int.toNat ((j : Int) - (0 : Int)) = j := by omega
      have e3 := M81xe (⟨j, fun i => o.g (i + 0)⟩ : rowI) (o.g j).1 (by show j ≤ _; omega)
      have e4 : (List.range j).any (fun i => decide ((o.g j).1 = (o.g (i + 0)).1)) = !newC o j := by
        unfold newC
        rw [List.any_eq_not_all_not]
        rfl
      unfold S85x0 Z85x0 ordC
      simp only [lt_ok hj, idx_ok hj, W_nat hj h, e1, e2, decide_true, cond_true, and_self, Int.toNat_natCast, M60xe, cl_some, and_self]
      have e5 : M81 (no_index ((⟨j, fun i => o.g (i + 0)⟩ : rowI), o.g j)) = some (!newC o j, ()) := by
        rw [← e4]; exact e3
      rw [e5]
      cases inB (o.g j).1 0 (W (((r.2.1.n : Nat) : Int) - 1)) <;> cases newC o j <;> rfl
    · unfold S85x0 Z85x0
      simp
  unfold M85 Q85
  simp only [this]
  by_cases hl : o.n ≤ r.2.1.n
  · have hl' : ¬ (((r.2.1.n : Nat) : Int) < ((o.n : Nat) : Int)) := by omega
    simp only [hl', decide_false, cond_false]
    cases orderB r o <;> rfl
  · have hl' : (((r.2.1.n : Nat) : Int) < ((o.n : Nat) : Int)) := by omega
    have : orderB r o = false := by
      cases hb : orderB r o with
      | false => rfl
      | true => exact absurd (order_len hb hr) hl
    simp [hl', this]

/-! roads, days -/
def frm (o : rowI) : Nat → Int
  | 0 => 0
  | j + 1 => (o.g j).1 + 1
theorem frm_s (o : rowI) (j : Nat) : frm o (j + 1) = (o.g j).1 + 1 := rfl
def road (r : wrT) (o : rowI) (j : Nat) : spanT := (r.2.2.1.g (frm o j).toNat).1.g ((o.g j).1 + 1).toNat
theorem order_bd {r : wrT} {o : rowI} (hr : roundB r = true) (h : orderB r o = true) {j : Nat} (hj : j < o.n) : 0 ≤ (o.g j).1 ∧ (o.g j).1 < (r.2.1.n : Int) ∧ r.2.1.n ≤ 6 ∧ r.2.2.1.n = r.2.1.n + 1 ∧ 1 ≤ r.2.1.n := by
  simp only [roundB, Bool.and_eq_true, decide_eq_true_eq] at hr
  have h1 := inB_t hr.2.1
  have := all_t h hj
  simp only [ordC, Bool.and_eq_true] at this
  have h2 := inB_t this.1
  rw [W_id ⟨by omega, by omega⟩] at h2
  exact ⟨h2.1, by omega, by omega, hr.2.2.1, by omega⟩
theorem row_len {r : wrT} (hr : roundB r = true) {j : Nat} (hj : j < r.2.2.1.n) : (r.2.2.1.g j).1.n = r.2.2.1.n := by
  simp only [roundB, Bool.and_eq_true] at hr
  have := all_t hr.2.2.2.2 hj
  simp only [rowC, Bool.and_eq_true, decide_eq_true_eq] at this
  exact this.1
theorem frm_bd {r : wrT} {o : rowI} (hr : roundB r = true) (h : orderB r o = true) {j : Nat} (hj : j < o.n) : 0 ≤ frm o j ∧ (frm o j).toNat < r.2.2.1.n ∧ frm o j < (r.2.2.1.n : Int) := by
  cases j with
  | zero => have := order_bd hr h hj; simp only [frm]; omega
  | succ j => have := order_bd hr h (j := j) (by omega); simp only [frm]; omega
theorem road_ok {r : wrT} (hr : roundB r = true) {i k : Nat} (hi : i < r.2.2.1.n) (hk : k < r.2.2.1.n) : spanC ((r.2.2.1.g i).1.g k) = true := by
  have hl := row_len hr hi
  simp only [roundB, Bool.and_eq_true] at hr
  have := all_t hr.2.2.2.2 hi
  simp only [rowC, Bool.and_eq_true, decide_eq_true_eq] at this
  exact all_t this.2 (by omega)
theorem road_bd {r : wrT} {o : rowI} (hr : roundB r = true) (h : orderB r o = true) {j : Nat} (hj : j < o.n) : 0 ≤ (road r o j).1 ∧ (road r o j).1 ≤ (road r o j).2.1 ∧ (road r o j).2.1 ≤ 60 := by
  have h1 := frm_bd hr h hj
  have h2 := order_bd hr h hj
  exact of_decide_eq_true (road_ok hr h1.2.1 (k := ((o.g j).1 + 1).toNat) (by omega))

def s0S : Sl spanT := ⟨0, fun _ => ((0 : Int), ((0 : Int), ()))⟩
def s0I : rowI := ⟨0, fun _ => ((0 : Int), ())⟩
theorem M89xe {r : wrT} {o : rowI} (hr : roundB r = true) (h : orderB r o = true) (hs : o.n ≤ 10) : M89 (no_index (r, (o, ()))) = some (tab s0S (road r o) o.n, ()) := by
  have : L89x0 (no_index ((), (o, (((o.n : Nat) : Int), (r, ()))))) (no_index (s0S, ((0 : Int), ((0 : Int), ())))) = .exit 0 (tab s0S (road r o) o.n, ()) := by
    unfold L89x0
    refine iterQ_steps (ps := vs89x0) o.n big (fun j => (tab s0S (road r o) j, (frm o j, ((j : Int), ())))) (big_lt (by omega)) (fun j hj => ?_) ?_
    · have h1 := order_bd hr h hj
      have h2 := frm_bd hr h hj
      have h3 := row_len hr h2.2.1
      have w1 : W ((o.g j).1 + 1) = (o.g j).1 + 1 := W_id ⟨by omega, by omega⟩
      have e2 : ((0 : Int) ≤ frm o j ∧ frm o j < ((r.2.2.1.n : Nat) : Int)) := ⟨h2.1, h2.2.2⟩
      have e3 : ((0 : Int) ≤ (o.g j).1 + 1 ∧ (o.g j).1 + 1 < (((r.2.2.1.g (frm o j).toNat).1.n : Nat) : Int)) := by rw [h3]; omega
      have e4 : (j + 1) * 16 ≤ 140737488355328 := by omega
      unfold S89x0 Z89x0
      simp only [lt_ok hj, idx_ok hj, W_nat hj (by omega : o.n ≤ 140737488355328), w1, e2, e3, tab_n0 (s0 := s0S) rfl, e4, decide_true, cond_true, and_self, Int.toNat_natCast, tab, frm_s]
      rfl
    · unfold S89x0 Z89x0
      simp
  unfold M89 Q89
  exact congrArg (fun q => onExit q 0 (fun u0 => some u0) none) this

/-- When the inspector is where a station's road begins; when at the station. -/
def st (r : wrT) (o : rowI) (l : Nat → Int) : Nat → Int
  | 0 => r.1
  | j + 1 => W (W (st r o l j + l j) + (r.2.1.g (o.g j).1.toNat).1)
def arr (r : wrT) (o : rowI) (l : Nat → Int) (j : Nat) : Int := W (st r o l j + l j)
def rowOf' (g : Nat → Int) (j : Nat) : Int × Unit := (g j, ())
theorem M87xe {r : wrT} {o l : rowI} (hr : roundB r = true) (h : orderB r o = true) (hs : o.n ≤ 10) (hl : l.n = o.n) :
    M87 (r, (o, (l, ()))) = some (tab s0I (fun j => (arr r o (fun i => (l.g i).1) j, ())) o.n, (st r o (fun i => (l.g i).1) o.n, ())) := by
  have : L87x0 (no_index (l, ((), (o, (((o.n : Nat) : Int), (r, ())))))) (no_index (s0I, (r.1, ((0 : Int), ())))) = .exit 0 (tab s0I (fun j => (arr r o (fun i => (l.g i).1) j, ())) o.n, (st r o (fun i => (l.g i).1) o.n, ())) := by
    unfold L87x0
    refine iterQ_steps (ps := vs87x0) o.n big (fun j => (tab s0I (fun j => (arr r o (fun i => (l.g i).1) j, ())) j, (st r o (fun i => (l.g i).1) j, ((j : Int), ())))) (big_lt (by omega)) (fun j hj => ?_) ?_
    · have h1 := order_bd hr h hj
      have e2 : ((0 : Int) ≤ (o.g j).1 ∧ (o.g j).1 < ((r.2.1.n : Nat) : Int)) := ⟨h1.1, h1.2.1⟩
      have e4 : (j + 1) * 8 ≤ 140737488355328 := by omega
      unfold S87x0 Z87x0
      simp only [lt_ok hj, idx_ok hj, hl, W_nat hj (by omega : o.n ≤ 140737488355328), e2, tab_n0 (s0 := s0I) rfl, e4, decide_true, cond_true, and_self, Int.toNat_natCast, tab, st, arr]
      rfl
    · unfold S87x0 Z87x0
      simp
  unfold M87 Q87
  exact congrArg (fun q => onExit q 0 (fun u0 => some u0) none) this
theorem M55xe {r : wrT} {o l : rowI} (hr : roundB r = true) (h : orderB r o = true) (hs : o.n ≤ 10) (hl : l.n = o.n) :
    M55 (r, (o, (l, ()))) = some (tab s0I (fun j => (arr r o (fun i => (l.g i).1) j, ())) o.n, (st r o (fun i => (l.g i).1) o.n, ())) := by
  have : L55x0 (no_index (o, (l, ((), (r, ()))))) (no_index (s0I, (r.1, ((0 : Int), ())))) = .exit 0 (tab s0I (fun j => (arr r o (fun i => (l.g i).1) j, ())) o.n, (st r o (fun i => (l.g i).1) o.n, ())) := by
    unfold L55x0
    refine iterQ_steps (ps := vs55x0) o.n big (fun j => (tab s0I (fun j => (arr r o (fun i => (l.g i).1) j, ())) j, (st r o (fun i => (l.g i).1) j, ((j : Int), ())))) (big_lt (by omega)) (fun j hj => ?_) ?_
    · have h1 := order_bd hr h hj
      have e2 : ((0 : Int) ≤ (o.g j).1 ∧ (o.g j).1 < ((r.2.1.n : Nat) : Int)) := ⟨h1.1, h1.2.1⟩
      have e4 : (j + 1) * 8 ≤ 140737488355328 := by omega
      unfold S55x0 Z55x0
      simp only [lt_ok hj, idx_ok hj, hl, W_nat hj (by omega : o.n ≤ 140737488355328), e2, tab_n0 (s0 := s0I) rfl, e4, decide_true, cond_true, and_self, Int.toNat_natCast, tab, st, arr]
      rfl
    · unfold S55x0 Z55x0
      simp
  unfold M55 Q55
  exact congrArg (fun q => onExit q 0 (fun u0 => some u0) none) this

/-- The legs of an order. -/
def legC (r : wrT) (o l : rowI) (j : Nat) : Bool := inB (l.g j).1 (road r o j).1 (road r o j).2.1
def legsB (r : wrT) (o l : rowI) : Bool := decide (l.n = o.n) && (List.range o.n).all (legC r o l)
theorem p90xe (x lo hi : Int) : p90 (no_index (x, ((lo, (hi, ())), ()))) = true := by unfold p90 M90 Q90; simp [M60xe]
theorem v90xe (x lo hi : Int) : v90 (no_index (x, ((lo, (hi, ())), ()))) = (inB x lo hi, ()) := by unfold v90 M90 Q90; simp [M60xe]
theorem M88xe {r : wrT} {o l : rowI} (hs : o.n ≤ 10) : M88 (no_index (l, (tab s0S (road r o) o.n, ((fun y1 => ((p90 y1), (v90 y1))), ())))) = some (legsB r o l, ()) := by
  unfold M88 Q88 legsB
  simp only [tab_n0 (s0 := s0S) rfl, Int.natCast_inj]
  by_cases hl : l.n = o.n
  · have : L88x0 (tab s0S (road r o) o.n, ((fun y1 => ((p90 y1), (v90 y1))), (l, (((l.n : Nat) : Int), ())))) ((0 : Int), ()) = bif (List.range o.n).all (legC r o l) then .exit 0 () else .ret (false, ()) := by
      unfold L88x0
      refine iterQ_all (ps := vs88x0) (f := fun j => ((j : Int), ())) (big_lt (n := o.n) (by omega)) (fun j hj _ => ?_) fun _ => ?_
      · have hj' : j < l.n := by omega
        have hx : ∀ x : Int, (tab s0S (road r o) o.n).g j = road r o j := fun _ => tab_g0 rfl hj
        unfold S88x0 Z88x0 legC
        simp only [lt_ok hj', idx_ok hj', idx_ok hj, tab_n0 (s0 := s0S) rfl, W_nat hj (by omega : o.n ≤ 140737488355328), tab_g0 (s0 := s0S) rfl hj, decide_true, cond_true, and_self, Int.toNat_natCast]
        have hp : p90 (no_index ((l.g j).1, (road r o j, ()))) = true := p90xe _ _ _
        have hv : v90 (no_index ((l.g j).1, (road r o j, ()))) = (inB (l.g j).1 (road r o j).1 (road r o j).2.1, ()) := v90xe _ _ _
        rw [hp, hv]
        cases inB (l.g j).1 (road r o j).1 (road r o j).2.1 <;> rfl
      · unfold S88x0 Z88x0
        simp [hl]
    rw [hl] at this
    simp only [hl, decide_true, this]
    cases (List.range o.n).all (legC r o l) <;> rfl
  · simp [hl]
theorem M57xe {r : wrT} {o : rowI} (hr : roundB r = true) (h : orderB r o = true) (hs : o.n ≤ 10) {j : Nat} (hj : j < o.n) : M57 (no_index (r, (o, ((j : Int), ())))) = some (road r o j, ()) := by
  have h1 := order_bd hr h hj
  have h2 := frm_bd hr h hj
  have h3 := row_len hr h2.2.1
  have w1 : W ((o.g j).1 + 1) = (o.g j).1 + 1 := W_id ⟨by omega, by omega⟩
  have e3 : ((0 : Int) ≤ (o.g j).1 + 1 ∧ (o.g j).1 + 1 < (((r.2.2.1.g (frm o j).toNat).1.n : Nat) : Int)) := by rw [h3]; omega
  unfold M57 Q57
  cases j with
  | zero =>
    have e4 : ((0 : Int) ≤ (0 : Int)) ∧ ((0 : Int) < ((r.2.2.1.n : Nat) : Int)) := by omega
    have e5 : ((0 : Int) ≤ (o.g 0).1 + 1 ∧ (o.g 0).1 + 1 < (((r.2.2.1.g 0).1.n : Nat) : Int)) := e3
    have e6 : ¬ ((0 : Int) < ((0 : Nat) : Int)) := by omega
    simp only [e6, idx_ok hj, w1, e4, e5, decide_true, decide_false, cond_true, cond_false, Int.toNat_natCast, and_self]
    rfl
  | succ j =>
    have hj' : j < o.n := by omega
    have h1' := order_bd hr h hj'
    have w0 : W (((j + 1 : Nat) : Int) - 1) = (j : Int) := by rw [W_id ⟨by omega, by omega⟩]; omega
    have w2 : W ((o.g j).1 + 1) = (o.g j).1 + 1 := W_id ⟨by omega, by omega⟩
    have e4 : ((0 : Int) ≤ (o.g j).1 + 1 ∧ (o.g j).1 + 1 < ((r.2.2.1.n : Nat) : Int)) := by omega
    have e5 : ((0 : Int) ≤ (o.g (j + 1)).1 + 1 ∧ (o.g (j + 1)).1 + 1 < (((r.2.2.1.g ((o.g j).1 + 1).toNat).1.n : Nat) : Int)) := e3
    have e6 : ((0 : Int) < ((j + 1 : Nat) : Int)) := by omega
    simp only [e6, w0, idx_ok hj, idx_ok hj', w1, w2, e4, e5, decide_true, cond_true, and_self, Int.toNat_natCast]
    rfl
theorem M54xe {r : wrT} {o l : rowI} (hr : roundB r = true) (h : orderB r o = true) (hs : o.n ≤ 10) : M54 (no_index (r, (o, (l, ())))) = some (legsB r o l, ()) := by
  unfold M54 Q54 legsB
  simp only [Int.natCast_inj]
  by_cases hl : l.n = o.n
  · have : L54x0 (o, (l, ((), (r, ())))) ((0 : Int), ()) = bif (List.range o.n).all (legC r o l) then .exit 0 () else .ret (false, ()) := by
      unfold L54x0
      refine iterQ_all (ps := vs54x0) (f := fun j => ((j : Int), ())) (big_lt (n := o.n) (by omega)) (fun j hj _ => ?_) fun _ => ?_
      · have hj' : j < l.n := by omega
        unfold S54x0 Z54x0 legC
        have e : M63 (no_index ((l.g j).1, road r o j)) = some (inB (l.g j).1 (road r o j).1 (road r o j).2.1, ()) := M63xe _ _ _
        simp only [lt_ok hj', idx_ok hj', M57xe hr h hs hj, W_nat hj (by omega : o.n ≤ 140737488355328), decide_true, cond_true, and_self, Int.toNat_natCast, cl_some, e]
        cases inB (l.g j).1 (road r o j).1 (road r o j).2.1 <;> rfl
      · unfold S54x0 Z54x0
        simp [hl]
    simp only [hl, decide_true, this]
    cases (List.range o.n).all (legC r o l) <;> rfl
  · simp [hl]

/-- The program's answer on a truth. -/
theorem M53xe {r : wrT} {o l : rowI} (h : smallR r) (ho : o.n ≤ 10) (hl : l.n ≤ 10) : M53 (no_index (r, (o, (l, ())))) = some (bif roundB r && (orderB r o && legsB r o l) then
      (tab s0I (fun j => (arr r o (fun i => (l.g i).1) j, ())) o.n, (st r o (fun i => (l.g i).1) o.n, ((0 : Int), ()))) else (s0I, ((0 : Int), ((2 : Int), ())))) := by
  have hs := h.1
  unfold M53 Q53
  simp only [M77xe h, M85xe r o (by omega) hs, cl_some]
  cases hr : roundB r with
  | false => rfl
  | true =>
  cases hb : orderB r o with
  | false => rfl
  | true =>
  simp only [M89xe hr hb ho, cl_some, M88xe ho, Bool.not_true, cond_false]
  cases hc : legsB r o l with
  | false => rfl
  | true =>
    have hn : l.n = o.n := by simp only [legsB, Bool.and_eq_true, decide_eq_true_eq] at hc; exact hc.1
    simp only [M87xe hr hb ho hn, cl_some]
    rfl
theorem M42xself {a : rowI} (h : a.n ≤ 140737488355328) : M42 (no_index (a, (a, ()))) = some (true, ()) := by
  have : L42x0 (no_index (a, (a, ()))) (no_index ((0 : Int), ())) = .exit 0 () := by
    unfold L42x0
    refine iterQ_steps (ps := vs42x0) a.n big (fun j => ((j : Int), ())) (big_lt h) (fun j hj => ?_) ?_
    · unfold S42x0 Z42x0
      simp only [lt_ok hj, idx_ok hj, W_nat hj h, decide_true, cond_true, and_self, Int.toNat_natCast]
      rfl
    · unfold S42x0 Z42x0
      simp
  unfold M42 Q42
  simp only [this]
  simp
theorem law14' (r : wrT) (o l : rowI) : M14 (no_index (r, (o, (l, ())))) = some (true, ()) := by
  unfold M14 Q14
  simp only [M38xe, cl_some, known_M]
  cases hb : briefB r with
  | false => rfl
  | true =>
  have h := briefB_t hb
  by_cases ho : o.n ≤ 10
  · by_cases hl : l.n ≤ 10
    · have e1 : ¬ ((10 : Int) < ((o.n : Nat) : Int)) := by omega
      have e2 : ¬ ((10 : Int) < ((l.n : Nat) : Int)) := by omega
      simp only [e1, e2, decide_false, cond_false, Bool.not_true, M53xe h ho hl, M39xe h, M46xe r o (by omega), cl_some]
      cases hr : roundB r with
      | false => simp [s0I]
      | true =>
      cases hq : orderB r o with
      | false => simp [s0I]
      | true =>
      simp only [M54xe hr hq ho, cl_some]
      cases hc : legsB r o l with
      | false => simp [s0I]
      | true =>
        have hn : l.n = o.n := by simp only [legsB, Bool.and_eq_true, decide_eq_true_eq] at hc; exact hc.1
        simp only [M55xe hr hq ho hn, cl_some, Bool.and_self, cond_true, M42xself (a := tab s0I (fun j => (arr r o (fun i => (l.g i).1) j, ())) o.n) (by rw [tab_n0 rfl]; omega)]
        simp
    · have e1 : ¬ ((10 : Int) < ((o.n : Nat) : Int)) := by omega
      have e2 : ((10 : Int) < ((l.n : Nat) : Int)) := by omega
      simp [e1, e2]
  · have e1 : ((10 : Int) < ((o.n : Nat) : Int)) := by omega
    simp [e1]
theorem law14 (x : (a14).den) : M14 x = some (true, ()) := by
  obtain ⟨r, o, l, ⟨⟩⟩ := x
  exact law14' r o l
end Go.Dm

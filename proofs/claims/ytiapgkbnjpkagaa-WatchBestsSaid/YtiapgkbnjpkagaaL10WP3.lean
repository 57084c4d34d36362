/- Between which days a round's days lie, and whether an order is sure. -/
import Derived.Test.YtiapgkbnjpkagaaL10WP2
set_option linter.unusedVariables false
set_option linter.unusedSimpArgs false
namespace Go.Dm
set_option maxRecDepth 100000

theorem tab_congr {α : Type} {s0 : Sl α} {y y' : Nat → α} : ∀ {n : Nat}, (∀ j, j < n → y j = y' j) → tab s0 y n = tab s0 y' n
  | 0, _ => rfl
  | n + 1, h => by rw [tab, tab, tab_congr fun j hj => h j (by omega), h n (by omega)]
theorem st_congr {r : wrT} {o : rowI} {l l' : Nat → Int} : ∀ {n : Nat}, (∀ j, j < n → l j = l' j) → st r o l n = st r o l' n
  | 0, _ => rfl
  | n + 1, h => by rw [st, st, st_congr fun j hj => h j (by omega), h n (by omega)]
theorem arr_congr {r : wrT} {o : rowI} {l l' : Nat → Int} {n : Nat} (h : ∀ j, j < n → l j = l' j) {j : Nat} (hj : j < n) : arr r o l j = arr r o l' j := by
  unfold arr
  rw [st_congr fun i hi => h i (by omega), h j hj]
def days (r : wrT) (o : rowI) (g : Nat → Int) : rowI := tab s0I (fun j => (arr r o g j, ())) o.n
theorem days_n (r : wrT) (o : rowI) (g : Nat → Int) : (days r o g).n = o.n := tab_n0 rfl
theorem days_g (r : wrT) (o : rowI) (g : Nat → Int) {j : Nat} (hj : j < o.n) : (days r o g).g j = (arr r o g j, ()) := tab_g0 rfl hj
theorem days_congr {r : wrT} {o : rowI} {g g' : Nat → Int} (h : ∀ j, j < o.n → g j = g' j) : days r o g = days r o g' := tab_congr fun j hj => by rw [arr_congr h hj]
theorem M87xg {r : wrT} {o l : rowI} (hr : roundB r = true) (h : orderB r o = true) (hs : o.n ≤ 10) (hl : l.n = o.n) {g : Nat → Int} (hg : ∀ j, j < o.n → (l.g j).1 = g j) :
    M87 (no_index (r, (o, (l, ())))) = some (days r o g, (st r o g o.n, ())) := by
  rw [M87xe hr h hs hl, st_congr hg]
  exact congrArg (fun q => some (q, (st r o g o.n, ()))) (days_congr hg)
theorem M55xg {r : wrT} {o l : rowI} (hr : roundB r = true) (h : orderB r o = true) (hs : o.n ≤ 10) (hl : l.n = o.n) {g : Nat → Int} (hg : ∀ j, j < o.n → (l.g j).1 = g j) :
    M55 (no_index (r, (o, (l, ())))) = some (days r o g, (st r o g o.n, ())) := by
  rw [M55xe hr h hs hl, st_congr hg]
  exact congrArg (fun q => some (q, (st r o g o.n, ()))) (days_congr hg)

def lowL (r : wrT) (o : rowI) (j : Nat) : Int := (road r o j).1
def highL (r : wrT) (o : rowI) (j : Nat) : Int := (road r o j).2.1
def lowR (r : wrT) (o : rowI) : rowI := tab s0I (fun j => (lowL r o j, ())) o.n
def highR (r : wrT) (o : rowI) : rowI := tab s0I (fun j => (highL r o j, ())) o.n
theorem lowR_n (r : wrT) (o : rowI) : (lowR r o).n = o.n := tab_n0 rfl
theorem highR_n (r : wrT) (o : rowI) : (highR r o).n = o.n := tab_n0 rfl
theorem lowR_g (r : wrT) (o : rowI) (j : Nat) (hj : j < o.n) : ((lowR r o).g j).1 = lowL r o j := by unfold lowR; rw [tab_g0 rfl hj]
theorem highR_g (r : wrT) (o : rowI) (j : Nat) (hj : j < o.n) : ((highR r o).g j).1 = highL r o j := by unfold highR; rw [tab_g0 rfl hj]
theorem M86xe {r : wrT} {o : rowI} (hr : roundB r = true) (h : orderB r o = true) (hs : o.n ≤ 10) : M86 (no_index (r, (o, ()))) = some ((lowR r o, (highR r o, ())), ()) := by
  have : L86x0 (no_index ((), ((), (tab s0S (road r o) o.n, (((o.n : Nat) : Int), ((s0I, (s0I, ())), ())))))) (no_index ((0 : Int), ((s0I, (s0I, ())), ()))) = .exit 0 ((lowR r o, (highR r o, ())), ()) := by
    unfold L86x0
    refine iterQ_steps (ps := vs86x0) o.n big (fun j => ((j : Int), ((tab s0I (fun j => (lowL r o j, ())) j, (tab s0I (fun j => (highL r o j, ())) j, ())), ()))) (big_lt (by omega)) (fun j hj => ?_) ?_
    · have e4 : (j + 1) * 8 ≤ 140737488355328 := by omega
      unfold S86x0 Z86x0
      simp only [lt_ok hj, idx_ok hj, tab_n0 (s0 := s0S) rfl, tab_n0 (s0 := s0I) rfl, tab_g0 (s0 := s0S) rfl hj, W_nat hj (by omega : o.n ≤ 140737488355328), e4, decide_true, cond_true, and_self, Int.toNat_natCast, tab]
      rfl
    · unfold S86x0 Z86x0
      simp [lowR, highR]
  unfold M86 Q86
  simp only [M89xe hr h hs, cl_some, tab_n0 (s0 := s0S) rfl]
  exact congrArg (fun q => onExit q 0 (fun (u1 : (rowI × rowI × Unit) × Unit) => some (u1.1, ())) none) this

def spansR (r : wrT) (o : rowI) : Sl spanT := tab s0S (fun j => (arr r o (lowL r o) j, (arr r o (highL r o) j, ()))) o.n
theorem spansR_n (r : wrT) (o : rowI) : (spansR r o).n = o.n := tab_n0 rfl
theorem spansR_g (r : wrT) (o : rowI) {j : Nat} (hj : j < o.n) : (spansR r o).g j = (arr r o (lowL r o) j, (arr r o (highL r o) j, ())) := tab_g0 rfl hj
theorem M49xe {r : wrT} {o : rowI} (h : smallR r) (hs : o.n ≤ 10) : M49 (no_index (r, (o, ()))) = some (bif roundB r && orderB r o then (spansR r o, ((st r o (lowL r o) o.n, (st r o (highL r o) o.n, ())), ((0 : Int), ()))) else (s0S, (((0 : Int), ((0 : Int), ())), ((2 : Int), ())))) := by
  have hb := h.1
  unfold M49 Q49
  simp only [M77xe h, M85xe r o (by omega) hb, cl_some]
  cases hr : roundB r with
  | false => rfl
  | true =>
  cases ho : orderB r o with
  | false => rfl
  | true =>
  simp only [M86xe hr ho hs, M87xg hr ho hs (lowR_n r o) (lowR_g r o), M87xg hr ho hs (highR_n r o) (highR_g r o), cl_some, Bool.not_true, cond_false]
  have : ∀ k : Int × Int × Unit, L49x0 (no_index ((), (days r o (lowL r o), (st r o (lowL r o) o.n, (days r o (highL r o), (st r o (highL r o) o.n, (((o.n : Nat) : Int), (k, ())))))))) (no_index (s0S, ((0 : Int), ()))) = .exit 0 (spansR r o, ()) := fun k => by
    unfold L49x0
    refine iterQ_steps (ps := vs49x0) o.n big (fun j => (tab s0S (fun j => (arr r o (lowL r o) j, (arr r o (highL r o) j, ()))) j, ((j : Int), ()))) (big_lt (by omega)) (fun j hj => ?_) ?_
    · have e4 : (j + 1) * 16 ≤ 140737488355328 := by omega
      unfold S49x0 Z49x0
      simp only [lt_ok hj, idx_ok hj, days_n, days_g r o _ hj, tab_n0 (s0 := s0S) rfl, W_nat hj (by omega : o.n ≤ 140737488355328), e4, decide_true, cond_true, and_self, Int.toNat_natCast, tab]
      rfl
    · unfold S49x0 Z49x0
      simp [spansR]
  exact congrArg (fun q => onExit q 0 (fun (u5 : Sl spanT × Unit) => some (u5.1, ((st r o (lowL r o) o.n, (st r o (highL r o) o.n, ())), ((0 : Int), ())))) none) (this (0, (0, ())))
theorem M56xl {r : wrT} {o : rowI} (hr : roundB r = true) (h : orderB r o = true) (hs : o.n ≤ 10) : M56 (no_index (r, (o, (false, ())))) = some (lowR r o, ()) := by
  have : L56x0 (no_index (o, (false, ((), (r, ()))))) (no_index (s0I, ((0 : Int), ()))) = .exit 0 (lowR r o, ()) := by
    unfold L56x0
    refine iterQ_steps (ps := vs56x0) o.n big (fun j => (tab s0I (fun j => (lowL r o j, ())) j, ((j : Int), ()))) (big_lt (by omega)) (fun j hj => ?_) ?_
    · have e4 : (j + 1) * 8 ≤ 140737488355328 := by omega
      unfold S56x0 Z56x0
      simp only [lt_ok hj, M57xe hr h hs hj, cl_some, tab_n0 (s0 := s0I) rfl, W_nat hj (by omega : o.n ≤ 140737488355328), e4, decide_true, cond_true, cond_false, tab]
      rfl
    · unfold S56x0 Z56x0
      simp [lowR]
  unfold M56 Q56
  exact congrArg (fun q => onExit q 0 (fun u2 => some u2) none) this
theorem M56xh {r : wrT} {o : rowI} (hr : roundB r = true) (h : orderB r o = true) (hs : o.n ≤ 10) : M56 (no_index (r, (o, (true, ())))) = some (highR r o, ()) := by
  have : L56x0 (no_index (o, (true, ((), (r, ()))))) (no_index (s0I, ((0 : Int), ()))) = .exit 0 (highR r o, ()) := by
    unfold L56x0
    refine iterQ_steps (ps := vs56x0) o.n big (fun j => (tab s0I (fun j => (highL r o j, ())) j, ((j : Int), ()))) (big_lt (by omega)) (fun j hj => ?_) ?_
    · have e4 : (j + 1) * 8 ≤ 140737488355328 := by omega
      unfold S56x0 Z56x0
      simp only [lt_ok hj, M57xe hr h hs hj, cl_some, tab_n0 (s0 := s0I) rfl, W_nat hj (by omega : o.n ≤ 140737488355328), e4, decide_true, cond_true, cond_false, tab]
      rfl
    · unfold S56x0 Z56x0
      simp [highR]
  unfold M56 Q56
  exact congrArg (fun q => onExit q 0 (fun u2 => some u2) none) this
theorem M50xe {r : wrT} {o : rowI} (hr : roundB r = true) (ho : orderB r o = true) (hs : o.n ≤ 10) : M50 (no_index (r, (o, ()))) = some (spansR r o, ((st r o (lowL r o) o.n, (st r o (highL r o) o.n, ())), ())) := by
  unfold M50 Q50
  simp only [M56xl hr ho hs, M56xh hr ho hs, M55xg hr ho hs (lowR_n r o) (lowR_g r o), M55xg hr ho hs (highR_n r o) (highR_g r o), cl_some]
  have : ∀ k : Int × Int × Unit, L50x0 (no_index ((), (days r o (lowL r o), (st r o (lowL r o) o.n, (days r o (highL r o), (st r o (highL r o) o.n, (k, ()))))))) (no_index (s0S, ((0 : Int), ()))) = .exit 0 (spansR r o, ()) := fun k => by
    unfold L50x0
    refine iterQ_steps (ps := vs50x0) o.n big (fun j => (tab s0S (fun j => (arr r o (lowL r o) j, (arr r o (highL r o) j, ()))) j, ((j : Int), ()))) (big_lt (by omega)) (fun j hj => ?_) ?_
    · have e4 : (j + 1) * 16 ≤ 140737488355328 := by omega
      unfold S50x0 Z50x0
      simp only [lt_ok hj, idx_ok hj, days_n, days_g r o _ hj, tab_n0 (s0 := s0S) rfl, W_nat hj (by omega : o.n ≤ 140737488355328), e4, decide_true, cond_true, and_self, Int.toNat_natCast, tab]
      rfl
    · unfold S50x0 Z50x0
      simp [spansR, days_n]
  exact congrArg (fun q => onExit q 0 (fun (u5 : Sl spanT × Unit) => some (u5.1, ((st r o (lowL r o) o.n, (st r o (highL r o) o.n, ())), ()))) none) (this (0, (0, ())))

/-! sure orders -/
def lateC (r : wrT) (o : rowI) (j : Nat) : Bool := decide ((r.2.1.g (o.g j).1.toNat).2.1 < arr r o (highL r o) j)
def sureB (r : wrT) (o : rowI) : Bool := (List.range o.n).all fun j => !lateC r o j
theorem fstN_all {c : Nat → Bool} {n : Nat} : (List.range n).all (fun j => !c j) = (fstN c n).isNone := by
  cases h : fstN c n with
  | none => exact all_i fun j hj => by rw [fstN_none h j hj]; rfl
  | some k =>
    obtain ⟨k1, k2, _⟩ := fstN_some h
    cases hb : (List.range n).all (fun j => !c j) with
    | false => rfl
    | true => have := all_t hb k1; rw [k2] at this; cases this
theorem U100xe {r : wrT} {o : rowI} (hr : roundB r = true) (ho : orderB r o = true) (hs : o.n ≤ 10) : U100 (no_index (r, (o, ()))) = match fstN (lateC r o) o.n with
    | some k => .pan 124 T55 (o.g k) ()
    | none => .ok (st r o (highL r o) o.n, ()) () := by
  have : L100x0 (no_index (o, ((), (st r o (highL r o) o.n, (days r o (highL r o), (((o.n : Nat) : Int), (r, ()))))))) (no_index ((0 : Int), ())) = match fstN (lateC r o) o.n with
      | some k => .pan 124 T55 (o.g k) ()
      | none => .exit 0 () := by
    unfold L100x0
    refine iterQ_find (ps := vs100x0) (f := fun j => ((j : Int), ())) (big_lt (n := o.n) (by omega)) (fun j hj _ => ?_) fun _ => ?_
    · have h1 := order_bd hr ho hj
      have e2 : ((0 : Int) ≤ (o.g j).1 ∧ (o.g j).1 < ((r.2.1.n : Nat) : Int)) := ⟨h1.1, h1.2.1⟩
      unfold S100x0 Z100x0 lateC
      simp only [lt_ok hj, idx_ok hj, e2, days_n, days_g r o _ hj, W_nat hj (by omega : o.n ≤ 140737488355328), decide_true, cond_true, and_self, Int.toNat_natCast]
    · unfold S100x0 Z100x0
      simp
  unfold U100 Q100
  simp only [M86xe hr ho hs, M87xg hr ho hs (highR_n r o) (highR_g r o), cl_some, days_n]
  rw [this]
  cases fstN (lateC r o) o.n <;> rfl
theorem M79xe {r : wrT} {o : rowI} (hr : roundB r = true) (ho : orderB r o = true) (hs : o.n ≤ 10) : M79 (no_index (r, (o, ()))) = some (bif sureB r o then (st r o (highL r o) o.n, (true, ())) else ((0 : Int), (false, ()))) := by
  unfold M79 Q79 sureB
  rw [fstN_all, U100xe hr ho hs]
  cases fstN (lateC r o) o.n <;> rfl
theorem M47xe {r : wrT} {o : rowI} (h : smallR r) (hs : o.n ≤ 10) : M47 (no_index (r, (o, ()))) = some (bif roundB r && orderB r o then (sureB r o, ((0 : Int), ())) else (false, ((2 : Int), ()))) := by
  have hb := h.1
  unfold M47 Q47
  simp only [M77xe h, M85xe r o (by omega) hb, cl_some]
  cases hr : roundB r with
  | false => rfl
  | true =>
  cases ho : orderB r o with
  | false => rfl
  | true =>
  simp only [M79xe hr ho hs, cl_some, Bool.not_true, cond_false]
  cases sureB r o <;> rfl
theorem M48xe {r : wrT} (h : smallR r) : M48 (no_index (r, ())) = some (bif roundB r then (0 : Int) else 2, ()) := by
  unfold M48 Q48
  simp only [M77xe h, cl_some]
  cases roundB r <;> rfl
theorem M52xe {r : wrT} {o : rowI} (hr : roundB r = true) (ho : orderB r o = true) (hs : o.n ≤ 10) : M52 (no_index (r, (o, ()))) = some (sureB r o, ()) := by
  have : L52x0 (no_index (o, ((), (spansR r o, (r, ()))))) (no_index ((0 : Int), ())) = bif sureB r o then .exit 0 () else .ret (false, ()) := by
    unfold L52x0 sureB
    refine iterQ_all (ps := vs52x0) (f := fun j => ((j : Int), ())) (big_lt (n := o.n) (by omega)) (fun j hj _ => ?_) fun _ => ?_
    · have h1 := order_bd hr ho hj
      have e2 : ((0 : Int) ≤ (o.g j).1 ∧ (o.g j).1 < ((r.2.1.n : Nat) : Int)) := ⟨h1.1, h1.2.1⟩
      unfold S52x0 Z52x0 lateC
      simp only [lt_ok hj, idx_ok hj, e2, spansR_n, spansR_g r o hj, W_nat hj (by omega : o.n ≤ 140737488355328), decide_true, cond_true, and_self, Int.toNat_natCast]
      cases decide ((r.2.1.g (o.g j).1.toNat).2.1 < arr r o (highL r o) j) <;> rfl
    · unfold S52x0 Z52x0
      simp
  unfold M52 Q52
  simp only [M50xe hr ho hs, cl_some, this]
  cases sureB r o <;> rfl
theorem M51xself {a : Sl spanT} (h : a.n ≤ 140737488355328) : M51 (no_index (a, (a, ()))) = some (true, ()) := by
  have : L51x0 (no_index (a, (a, ()))) (no_index ((0 : Int), ())) = .exit 0 () := by
    unfold L51x0
    refine iterQ_steps (ps := vs51x0) a.n big (fun j => ((j : Int), ())) (big_lt h) (fun j hj => ?_) ?_
    · unfold S51x0 Z51x0
      simp only [lt_ok hj, idx_ok hj, W_nat hj h, decide_true, cond_true, and_self, Int.toNat_natCast]
      rfl
    · unfold S51x0 Z51x0
      simp
  unfold M51 Q51
  simp only [this]
  simp
theorem law13' (r : wrT) (o : rowI) : M13 (no_index (r, (o, ()))) = some (true, ()) := by
  unfold M13 Q13
  simp only [M38xe, cl_some, known_M]
  cases hb : briefB r with
  | false => rfl
  | true =>
  have h := briefB_t hb
  by_cases ho : o.n ≤ 10
  · have e1 : ¬ ((10 : Int) < ((o.n : Nat) : Int)) := by omega
    simp only [e1, decide_false, cond_false, Bool.not_true, M48xe h, M49xe h ho, M47xe h ho, M39xe h, M46xe r o (by omega), cl_some]
    cases hr : roundB r with
    | false => simp [s0S]
    | true =>
    cases hq : orderB r o with
    | false => simp [s0S]
    | true =>
    have e2 : M51 (spansR r o, (spansR r o, ())) = some (true, ()) := M51xself (by rw [spansR_n]; omega)
    simp only [M50xe hr hq ho, M52xe hr hq ho, cl_some]
    simp
    rw [e2]
    rfl
  · have e1 : ((10 : Int) < ((o.n : Nat) : Int)) := by omega
    simp [e1]
theorem law13 (x : (a13).den) : M13 x = some (true, ()) := by
  obtain ⟨r, o, ⟨⟩⟩ := x
  exact law13' r o
end Go.Dm

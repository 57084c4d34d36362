/- Suites that are valid; suites that are short. -/
import Derived.Test.YtadkaccpacpklaaL11LP9
set_option linter.unusedVariables false
set_option linter.unusedSimpArgs false
namespace Go.Dm
set_option maxRecDepth 100000
open Go.Low
variable {s : tS.den}
def axB (a b m : Int) : Bool := decide (0 ≤ a) && (decide (a ≤ b) && decide (b ≤ m))
def bxB (b : B6) : Bool := axB b.1 b.2.1 100 && (axB b.2.2.1 b.2.2.2.1 100 && axB b.2.2.2.2.1 b.2.2.2.2.2.1 99999)
theorem M104xe (a b m : Int) : M104 (no_index ((a, (b, ())), (m, ()))) = some (axB a b m, ()) := by
 show (bif decide (0 ≤ a) then bif decide (a ≤ b) then some (decide (b ≤ m), ()) else some (false, ()) else some (false, ())) = _
 unfold axB
 cases decide (0 ≤ a) <;> cases decide (a ≤ b) <;> rfl
theorem M69xe (a b m : Int) : M69 (no_index ((a, (b, ())), (m, ()))) = some (axB a b m, ()) := by
 show (bif decide (0 ≤ a) then bif decide (a ≤ b) then some (decide (b ≤ m), ()) else some (false, ()) else some (false, ())) = _
 unfold axB
 cases decide (0 ≤ a) <;> cases decide (a ≤ b) <;> rfl
def rgB (x a b : Int) : Bool := decide (a ≤ x) && decide (x ≤ b)
theorem M64xe (x a b : Int) : M64 (no_index (x, (a, (b, ())))) = some (rgB x a b, ()) := by
 show (bif decide (a ≤ x) then some (decide (x ≤ b), ()) else some (false, ())) = _
 unfold rgB
 cases decide (a ≤ x) <;> rfl
theorem M68xe (x a b : Int) : M68 (no_index (x, (a, (b, ())))) = some (rgB x a b, ()) := by
 show (bif decide (a ≤ x) then some (decide (x ≤ b), ()) else some (false, ())) = _
 unfold rgB
 cases decide (a ≤ x) <;> rfl
theorem M103xe (b : B6) : M103 (no_index (b, ())) = some (!bxB b, ()) := by
 unfold M103 Q103 bxB
 refine (cl_of (M104xe _ _ _)).trans ?_
 cases axB b.1 b.2.1 100 with
 | false => rfl
 | true =>
  refine (bif_f rfl).trans ?_
  refine (cl_of (M104xe _ _ _)).trans ?_
  cases axB b.2.2.1 b.2.2.2.1 100 with
  | false => rfl
  | true =>
   refine (bif_f rfl).trans ?_
   refine (cl_of (M104xe _ _ _)).trans ?_
   rfl
def rowB (r : Sl tB6.den) : Bool := (List.range r.n).all fun j => bxB (r.g j)
theorem M102xe (r : Sl tB6.den) (hr : r.n ≤ 140737488355328) : M102 (no_index (r, ((fun y => (p103 y, v103 y)), ()))) = some (!rowB r, ()) := by
 unfold M102 Q102
 have hp : ∀ j, p103 (r.g j, ()) = true := fun j => by show (M103 (r.g j, ())).isSome = true; rw [M103xe]; rfl
 have hv : ∀ j, v103 (r.g j, ()) = (!bxB (r.g j), ()) := fun j => by show (M103 (r.g j, ())).getD _ = _; rw [M103xe]; rfl
 have key : L120x0 (r, ((fun y => (p103 y, v103 y)), (((r.n : Nat) : Int), ()))) ((0 : Int), ()) = match fstN (fun j => !bxB (r.g j)) r.n with | some k => LQ.ret (wy := wv120x0) (show (patsTy wv120x0.ret).den from ((k : Int), ())) | none => .exit 0 () := by
  unfold L120x0
  refine iterQ_find (ps := vs120x0) (n := r.n) (f := fun j => ((j : Int), ())) (qr := fun k => LQ.ret (wy := wv120x0) (show (patsTy wv120x0.ret).den from ((k : Int), ()))) (big_lt hr) (fun j hj _ => ?_) (fun _ => ?_)
  ·unfold S120x0 Z120x0
   refine (bif_t (decide_eq_true (lt_ok hj))).trans ?_
   refine (bif_t (decide_eq_true (idx_ok hj))).trans ?_
   refine (bif_t (hp j)).trans ?_
   have hv1 : (v103 (r.g j, ())).1 = !bxB (r.g j) := by rw [hv]
   cases hb : bxB (r.g j) with
   | false => rw [hb] at hv1; exact bif_t hv1
   | true =>
    rw [hb] at hv1
    refine (bif_f hv1).trans ?_
    exact congrArg (fun q : Int => (RQ.next (show (patsTy vs120x0).den from (q, ())) : RQ vs120x0 wv120x0)) (W_nat hj hr)
  ·unfold S120x0 Z120x0
   have : ¬ ((r.n : Int) < (r.n : Int)) := by omega
   exact bif_f (decide_eq_false this)
 have hM : M120 (r, ((fun y => (p103 y, v103 y)), ())) = some ((match fstN (fun j => !bxB (r.g j)) r.n with | some k => (k : Int) | none => -1), ()) := by
  unfold M120 Q120
  revert key
  cases fstN (fun j => !bxB (r.g j)) r.n with
  | some k => intro key; refine (congrArg (fun o => onExit o 0 _ (onRet o _ _)) key).trans ?_; rfl
  | none => intro key; refine (congrArg (fun o => onExit o 0 _ (onRet o _ _)) key).trans ?_; rfl
 refine (cl_of hM).trans ?_
 have : rowB r = (fstN (fun j => !bxB (r.g j)) r.n).isNone := by
  cases h : fstN (fun j => !bxB (r.g j)) r.n with
  | some k =>
   obtain ⟨h1, h2, _⟩ := fstN_some h
   rw [Bool.eq_false_iff.2 (show rowB r ≠ true from fun e => by have := all_t e h1; rw [this] at h2; cases h2)]; rfl
  | none =>
   have hn := fstN_none h
   exact all_i fun j hj => by have := hn j hj; simpa using this
 rw [this]
 cases fstN (fun j => !bxB (r.g j)) r.n with
 | none => rfl
 | some k =>
  have : (0 : Int) ≤ (k : Int) := by omega
  show some (decide ((0 : Int) ≤ (k : Int)), ()) = _
  rw [decide_eq_true this]; rfl
def prevT (s : tS.den) : Nat → Int
 | 0 => -1
 | j + 1 => mT s j
def mapB (s : tS.den) (j : Nat) : Bool := !decide (mT s j ≤ prevT s j) && (!decide (200 < mT s j) && (!decide (3 < (s.1.g j).2.1.n) && rowB (s.1.g j).2.1))
def numB (s : tS.den) : Bool := rgB (s.1.n : Int) 1 4 && (rgB (spd s) 0 50 && (rgB (dpn s) 0 1000 && (rgB (bnn s) 0 12 && rgB (gnn s) 0 12)))
def okS (s : tS.den) : Bool := (List.range s.1.n).all (mapB s) && numB s
theorem okS_ok (h : okS s = true) : (ofS s).Ok := by
 unfold okS numB rgB at h
 simp only [Bool.and_eq_true, decide_eq_true_eq] at h
 obtain ⟨h1, ⟨n1, n4⟩, sp, dp, bn, gn⟩ := h
 have hm : ∀ t, t < s.1.n → prevT s t < mT s t ∧ mT s t ≤ 200 ∧ (s.1.g t).2.1.n ≤ 3 ∧ ∀ j, j < (s.1.g t).2.1.n → bxB ((s.1.g t).2.1.g j) = true := fun t ht => by
  have := all_t h1 ht
  unfold mapB at this
  simp only [Bool.and_eq_true, Bool.not_eq_true', decide_eq_false_iff_not] at this
  obtain ⟨a, b, c, d⟩ := this
  exact ⟨by omega, by omega, by omega, fun j hj => all_t d hj⟩
 have hp : ∀ t, t < s.1.n → 0 ≤ mT s t := fun t => by
  induction t with
  | zero => intro ht; have h2 := (hm 0 ht).1; have : prevT s 0 = -1 := rfl; omega
  | succ t ih => intro ht; have h2 := (hm (t + 1) ht).1; have : prevT s (t + 1) = mT s t := rfl; have := ih (by omega); omega
 refine ⟨?_, ?_, fun t ht => (hm t ht).2.2.1, fun t ht => ⟨hp t ht, (hm t ht).2.1⟩, fun t ht => (hm (t + 1) ht).1, fun t i ht hi' a ha => ?_, sp, dp, bn, gn⟩
 ·show 0 < s.1.n; omega
 ·show s.1.n ≤ 4; omega
 ·have hb := (hm t ht).2.2.2 i hi'
  unfold bxB axB at hb
  simp only [Bool.and_eq_true, decide_eq_true_eq] at hb
  obtain ⟨⟨a1, a2, a3⟩, ⟨b1, b2, b3⟩, c1, c2, c3⟩ := hb
  show 0 ≤ lo ((s.1.g t).2.1.g i) a ∧ lo ((s.1.g t).2.1.g i) a ≤ hi ((s.1.g t).2.1.g i) a ∧ hi ((s.1.g t).2.1.g i) a ≤ 99999
  match a, ha with
  | 0, _ => exact ⟨a1, a2, Int.le_trans a3 (by decide)⟩
  | 1, _ => exact ⟨b1, b2, Int.le_trans b3 (by decide)⟩
  | 2, _ => exact ⟨c1, c2, c3⟩
theorem M74xe (hn : s.1.n ≤ 1000) (hk : ∀ t, t < s.1.n → (s.1.g t).2.1.n ≤ 1000) : M74 (no_index (s, ())) = some (okS s, ()) := by
 have key : L74x0 ((), (s.1, (((s.1.n : Nat) : Int), (s, ())))) ((-1 : Int), ((0 : Int), ())) = bif (List.range s.1.n).all (mapB s) then .exit 0 () else LQ.ret (wy := wv74x0) (show (patsTy wv74x0.ret).den from (false, ())) := by
  unfold L74x0
  refine iterQ_all (ps := vs74x0) (n := s.1.n) (f := fun j => (prevT s j, ((j : Int), ()))) (c := mapB s) (by unfold big; omega) (fun j hj _ => ?_) (fun _ => ?_)
  ·unfold S74x0 Z74x0
   refine (bif_t (decide_eq_true (lt_ok hj))).trans ?_
   refine (bif_t (decide_eq_true (idx_ok hj))).trans ?_
   unfold mapB
   by_cases c1 : mT s j ≤ prevT s j
   ·rw [decide_eq_true c1]
    exact bif_t (decide_eq_true c1)
   refine (bif_f (decide_eq_false c1)).trans ?_
   rw [decide_eq_false c1]
   by_cases c2 : 200 < mT s j
   ·rw [decide_eq_true c2]
    exact bif_t (decide_eq_true c2)
   refine (bif_f (decide_eq_false c2)).trans ?_
   rw [decide_eq_false c2]
   by_cases c3 : 3 < (s.1.g j).2.1.n
   ·rw [decide_eq_true c3]
    have c3' : (3 : Int) < (((s.1.g j).2.1.n : Nat) : Int) := by omega
    exact bif_t (decide_eq_true c3')
   have c3' : ¬ (3 : Int) < (((s.1.g j).2.1.n : Nat) : Int) := by omega
   refine (bif_f (decide_eq_false c3')).trans ?_
   rw [decide_eq_false c3]
   have hM := M102xe (s.1.g j).2.1 (by have := hk j hj; omega)
   refine (cl_of hM).trans ?_
   have hv : (v102 ((s.1.g j).2.1, ((fun y3 => (p103 y3, v103 y3)), ()))).1 = !rowB (s.1.g j).2.1 := by
    show ((M102 ((s.1.g j).2.1, ((fun y3 => (p103 y3, v103 y3)), ()))).getD _).1 = _
    rw [hM]; rfl
   cases hr : rowB (s.1.g j).2.1 with
   | false =>
    rw [hr] at hv
    exact bif_t hv
   | true =>
    rw [hr] at hv
    refine (bif_f hv).trans ?_
    exact congrArg (fun q : Int => (RQ.next (show (patsTy vs74x0).den from (mT s j, (q, ()))) : RQ vs74x0 wv74x0)) (W_nat hj (by omega))
  ·unfold S74x0 Z74x0
   have : ¬ ((s.1.n : Int) < (s.1.n : Int)) := by omega
   exact bif_f (decide_eq_false this)
 unfold M74 Q74 okS
 revert key
 cases (List.range s.1.n).all (mapB s) with
 | false => intro key; refine (congrArg (fun o => onExit o 0 _ (onRet o _ _)) key).trans ?_; rfl
 | true =>
  intro key
  refine (onExit_of key).trans ?_
  unfold numB
  refine (cl_of (M64xe _ _ _)).trans ?_
  cases rgB (s.1.n : Int) 1 4 with
  | false => rfl
  | true =>
   refine (bif_t rfl).trans ?_
   refine (cl_of (M64xe (spd s) _ _)).trans ?_
   cases rgB (spd s) 0 50 with
   | false => rfl
   | true =>
    refine (bif_t rfl).trans ?_
    refine (cl_of (M64xe (dpn s) _ _)).trans ?_
    cases rgB (dpn s) 0 1000 with
    | false => rfl
    | true =>
     refine (bif_t rfl).trans ?_
     refine (cl_of (M64xe (bnn s) _ _)).trans ?_
     cases rgB (bnn s) 0 12 with
     | false => rfl
     | true =>
      refine (bif_t rfl).trans ?_
      refine (cl_of (M64xe (gnn s) _ _)).trans ?_
      rfl
theorem M16xe : ∃ b : Bool, M16 (no_index (s, ())) = some (b, ()) ∧ (b = true → s.1.n ≤ 6 ∧ ∀ t, t < s.1.n → (s.1.g t).2.1.n ≤ 5) := by
 let c : Nat → Bool := fun j => !decide ((5 : Int) < (((s.1.g j).2.1.n : Nat) : Int))
 have key : L16x0 ((), (s, ())) ((0 : Int), ()) = bif (List.range (min s.1.n 7)).all c then .exit 0 () else LQ.ret (wy := wv16x0) (show (patsTy wv16x0.ret).den from (false, ())) := by
  unfold L16x0
  refine iterQ_all (ps := vs16x0) (n := min s.1.n 7) (f := fun j => ((j : Int), ())) (c := c) (by unfold big; omega) (fun j hj _ => ?_) (fun _ => ?_)
  ·unfold S16x0 Z16x0
   have hj1 : j < s.1.n := by omega
   have hj7 : (j : Int) < 7 := by omega
   refine (bif_t (decide_eq_true (lt_ok hj1))).trans ?_
   refine (bif_t (decide_eq_true hj7)).trans ?_
   refine (bif_t (decide_eq_true (idx_ok hj1))).trans ?_
   show _ = bif c j then _ else _
   by_cases c1 : (5 : Int) < (((s.1.g j).2.1.n : Nat) : Int)
   ·have : c j = false := by show (!decide _) = false; rw [decide_eq_true c1]; rfl
    rw [this]
    exact bif_t (decide_eq_true c1)
   ·have : c j = true := by show (!decide _) = true; rw [decide_eq_false c1]; rfl
    rw [this]
    refine (bif_f (decide_eq_false c1)).trans ?_
    exact congrArg (fun q : Int => (RQ.next (show (patsTy vs16x0).den from (q, ())) : RQ vs16x0 wv16x0)) (W_nat (n := 7) (by omega) (by omega))
  ·unfold S16x0 Z16x0
   by_cases h : s.1.n ≤ 7
   ·have : ¬ (((min s.1.n 7 : Nat) : Int) < (s.1.n : Int)) := by omega
    exact bif_f (decide_eq_false this)
   ·have h1 : ((min s.1.n 7 : Nat) : Int) < (s.1.n : Int) := by omega
    have h2 : ¬ ((min s.1.n 7 : Nat) : Int) < 7 := by omega
    exact (bif_t (decide_eq_true h1)).trans (bif_f (decide_eq_false h2))
 unfold M16 Q16
 cases hc : (List.range (min s.1.n 7)).all c with
 | false =>
  rw [hc] at key
  exact ⟨false, (congrArg (fun o => onExit o 0 _ (onRet o _ _)) key).trans rfl, fun h => by cases h⟩
 | true =>
  rw [hc] at key
  refine ⟨decide ((s.1.n : Int) ≤ 6), (onExit_of key).trans rfl, fun h => ?_⟩
  have h := of_decide_eq_true h
  refine ⟨by omega, fun t ht => ?_⟩
  have := all_t hc (j := t) (by omega)
  have : (!decide ((5 : Int) < (((s.1.g t).2.1.n : Nat) : Int))) = true := this
  simp at this
  omega
end Go.Dm

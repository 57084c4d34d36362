/- Suites; and what a low can be. -/
import Derived.Test.YtadkaccpacpklaaL11LP0
set_option linter.unusedVariables false
set_option linter.unusedSimpArgs false
namespace Go.Dm
set_option maxRecDepth 100000
open Go.Low
def spd (s : tS.den) : Int := s.2.1
def dpn (s : tS.den) : Int := s.2.2.1
def bnn (s : tS.den) : Int := s.2.2.2.1
def gnn (s : tS.den) : Int := s.2.2.2.2.1
def mT (s : tS.den) (t : Nat) : Int := (s.1.g t).1
def ofS (s : tS.den) : PS := ⟨s.1.n, mT s, fun t => (s.1.g t).2.1.n, fun t i => (s.1.g t).2.1.g i, spd s, dpn s, bnn s, gnn s⟩
def lookS (s : tS.den) : tKo.den := (s.1, (s.2.1, (s.2.2.1, (s.2.2.2.1, (s.2.2.2.2.1, ((), ()))))))
theorem mx_max (a b : Int) : mx a b = max a b := by
 unfold mx
 split <;> omega
theorem mn_min (a b : Int) : mn a b = min a b := by
 unfold mn
 split <;> omega
theorem M94xe {s : tS.den} {t i : Nat} (ht : t < s.1.n) (hi : i < (s.1.g t).2.1.n) : M94 (no_index (lookS s, ((t : Int), ((i : Int), ())))) = some ((s.1.g t).2.1.g i, ()) := by
 unfold M94 Q94
 refine (bif_t (decide_eq_true (idx_ok ht))).trans ?_
 refine (bif_t (decide_eq_true (idx_ok hi))).trans ?_
 rfl
theorem wsub {x y : Int} (hx : 0 ≤ x ∧ x ≤ 99999) (hy : 0 ≤ y ∧ y ≤ 200000) : W (x - y) = x - y := W_id ⟨by omega, by omega⟩
theorem wadd {x y : Int} (hx : 0 ≤ x ∧ x ≤ 99999) (hy : 0 ≤ y ∧ y ≤ 200000) : W (x + y) = x + y := W_id ⟨by omega, by omega⟩
theorem wmul {p h : Int} (h1 : 0 ≤ p ∧ p ≤ 1000) (h2 : 0 ≤ h ∧ h ≤ 200) : W (p * h) = p * h ∧ 0 ≤ p * h ∧ p * h ≤ 200000 := by
 have a1 : 0 ≤ p * h := Int.mul_nonneg h1.1 h2.1
 have a2 : p * h ≤ 1000 * 200 := Int.mul_le_mul h1.2 h2.2 h2.1 (by omega)
 exact ⟨W_id ⟨by omega, by omega⟩, a1, by omega⟩
theorem wpred {t n : Nat} (hn : n ≤ 1000) (ht : t + 1 < n) : W (((t + 1 : Nat) : Int) - 1) = (t : Int) := by rw [W_id ⟨by omega, by omega⟩]; omega
theorem M96xe {s : tS.den} (hs : (ofS s).Ok) {t : Nat} (ht : t + 1 < s.1.n) : M96 (no_index (lookS s, (((t + 1 : Nat) : Int), ()))) = some (mT s (t + 1) - mT s t, ()) := by
 unfold M96 Q96
 have hn : s.1.n ≤ 4 := hs.n4
 have e3 := wpred (n := s.1.n) (by omega) ht
 have h1 : 0 ≤ mT s (t + 1) ∧ mT s (t + 1) ≤ 200 := hs.tm0 (t + 1) ht
 have h2 : 0 ≤ mT s t ∧ mT s t ≤ 200 := hs.tm0 t (Nat.lt_of_succ_lt ht)
 refine (bif_t (decide_eq_true (idx_ok ht))).trans ?_
 have e4 : ∀ {α : Type} (x y : α), (bif decide ((0 : Int) ≤ W (((t + 1 : Nat) : Int) - 1) ∧ W (((t + 1 : Nat) : Int) - 1) < (s.1.n : Int)) then x else y) = x := fun x y => by rw [e3]; exact bif_t (decide_eq_true (idx_ok (Nat.lt_of_succ_lt ht)))
 refine (e4 _ _).trans ?_
 show some (W (mT s (t + 1) - mT s (Int.toNat (W (((t + 1 : Nat) : Int) - 1)))), ()) = _
 rw [e3]
 show some (W (mT s (t + 1) - mT s t), ()) = _
 rw [wsub ⟨by omega, by omega⟩ ⟨by omega, by omega⟩]
def inBox (b : B6) : Prop := ∀ a, a < 3 → 0 ≤ lo b a ∧ lo b a ≤ 99999 ∧ 0 ≤ hi b a ∧ hi b a ≤ 99999
theorem M95xe {s : tS.den} (hs : (ofS s).Ok) {h : Int} (h0 : 0 ≤ h) (h1 : h ≤ 200) : M95 (no_index (lookS s, (h, ()))) = some ((spd s * h, (spd s * h, (dpn s * h, ()))), ()) := by
 have q1 : 0 ≤ spd s ∧ spd s ≤ 50 := hs.sp
 have q2 : 0 ≤ dpn s ∧ dpn s ≤ 1000 := hs.dp
 show some ((W (spd s * h), (W (spd s * h), (W (dpn s * h), ()))), ()) = _
 rw [(wmul ⟨q1.1, by omega⟩ ⟨h0, h1⟩).1, (wmul q2 ⟨h0, h1⟩).1]
theorem M88xe {s : tS.den} (hs : (ofS s).Ok) {b : B6} (hb : inBox b) {h : Int} (h0 : 0 ≤ h) (h1 : h ≤ 200) : M88 (no_index (lookS s, (b, (h, ())))) = some (wide (ofS s) b h, ()) := by
 unfold M88 Q88
 have e : ((lookS s).1, ((lookS s).2.1, ((lookS s).2.2.1, ((lookS s).2.2.2.1, ((lookS s).2.2.2.2.1, ((), ())))))) = lookS s := rfl
 have q1 : 0 ≤ spd s ∧ spd s ≤ 50 := hs.sp
 have q2 : 0 ≤ dpn s ∧ dpn s ≤ 1000 := hs.dp
 obtain ⟨_, a1, a2⟩ := wmul (p := spd s) (h := h) ⟨q1.1, by omega⟩ ⟨h0, h1⟩
 obtain ⟨_, b1, b2⟩ := wmul (p := dpn s) (h := h) q2 ⟨h0, h1⟩
 obtain ⟨c1, c2, c3, c4, c5, c6, ⟨⟩⟩ := b
 have i0 := hb 0 (by omega)
 have i1 := hb 1 (by omega)
 have i2 := hb 2 (by omega)
 simp only [lo, hi] at i0 i1 i2
 refine (cl_of (M95xe hs h0 h1)).trans ?_
 show some ((W (c1 - spd s * h), (W (c2 + spd s * h), (W (c3 - spd s * h), (W (c4 + spd s * h), (W (c5 - dpn s * h), (W (c6 + dpn s * h), ())))))), ()) = _
 rw [wsub ⟨i0.1, i0.2.1⟩ ⟨a1, a2⟩, wadd i0.2.2 ⟨a1, a2⟩, wsub ⟨i1.1, i1.2.1⟩ ⟨a1, a2⟩, wadd i1.2.2 ⟨a1, a2⟩, wsub ⟨i2.1, i2.2.1⟩ ⟨b1, b2⟩, wadd i2.2.2 ⟨b1, b2⟩]
 rfl
def listOf (r : Sl tL1.den) : List Int := (List.range r.n).map fun i => (r.g i).1
theorem listOf_get {r : Sl tL1.den} {i : Nat} : (listOf r)[i]? = if i < r.n then some (r.g i).1 else none := by
 unfold listOf
 rw [List.getElem?_map]
 by_cases h : i < r.n
 ·rw [if_pos h, List.getElem?_range h]; rfl
 ·rw [if_neg h, List.getElem?_eq_none (by simpa using h)]; rfl
theorem M118xe (r : Sl tL1.den) (hr : r.n ≤ 140737488355328) (x : Int) : M118 (no_index (r, (x, ()))) = some ((match fstN (fun j => decide (x = (r.g j).1)) r.n with | some k => (k : Int) | none => -1), ()) := by
 unfold M118 Q118
 have : L118x0 (r, (x, (((r.n : Nat) : Int), ()))) ((0 : Int), ()) = match fstN (fun j => decide (x = (r.g j).1)) r.n with | some k => .ret ((k : Int), ()) | none => .exit 0 () := by
  unfold L118x0
  refine iterQ_find (ps := vs118x0) (n := r.n) (f := fun j => ((j : Int), ())) (qr := fun k => LQ.ret (wy := wv118x0) (show (patsTy wv118x0.ret).den from ((k : Int), ()))) (big_lt hr) (fun j hj _ => ?_) (fun _ => ?_)
  ·unfold S118x0 Z118x0
   have e : Int.toNat (j : Int) = j := rfl
   simp only [decide_eq_true (lt_ok hj), decide_eq_true (idx_ok hj), e, W_nat hj hr, cond_true]
  ·unfold S118x0 Z118x0
   have : ¬ ((r.n : Int) < (r.n : Int)) := by omega
   simp only [decide_eq_false this, cond_false]
 simp only [this]
 cases fstN (fun j => decide (x = (r.g j).1)) r.n <;> rfl
theorem M97xe (r : Sl tL1.den) (hr : r.n ≤ 140737488355328) (x : Int) : M97 (no_index (r, (x, ()))) = some (has (listOf r) x, ()) := by
 unfold M97 Q97
 simp only [M118xe r hr, cl_some]
 congr 2
 rw [Bool.eq_iff_iff, has_iff, decide_eq_true_eq]
 cases h : fstN (fun j => decide (x = (r.g j).1)) r.n with
 | some k =>
  obtain ⟨h1, h2, _⟩ := fstN_some h
  have h2 := of_decide_eq_true h2
  refine ⟨fun _ => ⟨k, ?_⟩, fun _ => by simp⟩
  rw [listOf_get, if_pos h1, h2]
 | none =>
  have hn := fstN_none h
  refine ⟨fun h => absurd h (by simp), fun ⟨i, hi⟩ => ?_⟩
  rw [listOf_get] at hi
  split at hi
  ·rename_i hlt
   have := hn i hlt
   rw [decide_eq_false_iff_not] at this
   exact absurd (Option.some.inj hi).symm this
  ·cases hi
theorem L105xe (p1 p2 p3 p4 p5 p6 w1 w2 w3 w4 w5 w6 : Int) :
  ∃ j : Int, L105x0 ((), ((), ((⟨1, fun i => List.getD [((w1, (w2, (w3, (w4, (w5, (w6, ())))))) : B6)] i (w1, (w2, (w3, (w4, (w5, (w6, ()))))))⟩ : Sl tB6.den), (((1 : Nat) : Int), (((0 : Int), ((0 : Int), ((0 : Int), ((0 : Int), ((0 : Int), ((0 : Int), ())))))), ()))))) ((0 : Int), ((p1, (p2, (p3, (p4, (p5, (p6, ())))))), ())) =
   bif decide (max p1 w1 ≤ min p2 w2) && decide (max p3 w3 ≤ min p4 w4) && decide (max p5 w5 ≤ min p6 w6) then .exit 0 ((max p1 w1, (min p2 w2, (max p3 w3, (min p4 w4, (max p5 w5, (min p6 w6, ())))))), ()) else .pan 150 T36 (j, ()) () := by
 unfold L105x0
 have s0 : ∀ v : (patsTy vs105x0).den, v.1 = 1 → S105x0 ((), ((), ((⟨1, fun i => List.getD [((w1, (w2, (w3, (w4, (w5, (w6, ())))))) : B6)] i (w1, (w2, (w3, (w4, (w5, (w6, ()))))))⟩ : Sl tB6.den), (((1 : Nat) : Int), (((0 : Int), ((0 : Int), ((0 : Int), ((0 : Int), ((0 : Int), ((0 : Int), ())))))), ()))))) v = .out (.exit 0 (v.2.1, ())) := fun v hv => by
  unfold S105x0 Z105x0
  rw [hv]
  rfl
 have s1 : S105x0 ((), ((), ((⟨1, fun i => List.getD [((w1, (w2, (w3, (w4, (w5, (w6, ())))))) : B6)] i (w1, (w2, (w3, (w4, (w5, (w6, ()))))))⟩ : Sl tB6.den), (((1 : Nat) : Int), (((0 : Int), ((0 : Int), ((0 : Int), ((0 : Int), ((0 : Int), ((0 : Int), ())))))), ()))))) ((0 : Int), ((p1, (p2, (p3, (p4, (p5, (p6, ())))))), ())) =
   bif decide (mn p2 w2 < mx p1 w1) then .out (.pan 150 T36 ((0 : Int), ()) ()) else bif decide (mn p4 w4 < mx p3 w3) then .out (.pan 150 T36 ((1 : Int), ()) ()) else bif decide (mn p6 w6 < mx p5 w5) then .out (.pan 150 T36 ((2 : Int), ()) ()) else .next ((1 : Int), ((mx p1 w1, (mn p2 w2, (mx p3 w3, (mn p4 w4, (mx p5 w5, (mn p6 w6, ())))))), ())) := rfl
 rw [mx_max, mx_max, mx_max, mn_min, mn_min, mn_min] at s1
 by_cases c1 : min p2 w2 < max p1 w1
 ·refine ⟨0, ?_⟩
  have d : ¬ (max p1 w1 ≤ min p2 w2) := by omega
  rw [decide_eq_true c1, cond_true] at s1
  rw [decide_eq_false d, Bool.false_and, Bool.false_and, cond_false]
  exact iterQ_steps (ps := vs105x0) 0 big (fun _ => _) (by unfold big; omega) (fun j hj => by omega) s1
 by_cases c2 : min p4 w4 < max p3 w3
 ·refine ⟨1, ?_⟩
  have d : ¬ (max p3 w3 ≤ min p4 w4) := by omega
  rw [decide_eq_false c1, cond_false, decide_eq_true c2, cond_true] at s1
  rw [decide_eq_false d, Bool.and_false, Bool.false_and, cond_false]
  exact iterQ_steps (ps := vs105x0) 0 big (fun _ => _) (by unfold big; omega) (fun j hj => by omega) s1
 by_cases c3 : min p6 w6 < max p5 w5
 ·refine ⟨2, ?_⟩
  have d : ¬ (max p5 w5 ≤ min p6 w6) := by omega
  rw [decide_eq_false c1, cond_false, decide_eq_false c2, cond_false, decide_eq_true c3, cond_true] at s1
  rw [decide_eq_false d, Bool.and_false, cond_false]
  exact iterQ_steps (ps := vs105x0) 0 big (fun _ => _) (by unfold big; omega) (fun j hj => by omega) s1
 refine ⟨0, ?_⟩
 have d1 : max p1 w1 ≤ min p2 w2 := by omega
 have d2 : max p3 w3 ≤ min p4 w4 := by omega
 have d3 : max p5 w5 ≤ min p6 w6 := by omega
 rw [decide_eq_false c1, cond_false, decide_eq_false c2, cond_false, decide_eq_false c3, cond_false] at s1
 rw [decide_eq_true d1, decide_eq_true d2, decide_eq_true d3]
 refine iterQ_steps (ps := vs105x0) 1 big (fun j => match j with | 0 => ((0 : Int), ((p1, (p2, (p3, (p4, (p5, (p6, ())))))), ())) | _ => ((1 : Int), ((max p1 w1, (min p2 w2, (max p3 w3, (min p4 w4, (max p5 w5, (min p6 w6, ())))))), ()))) (by unfold big; omega) (fun j hj => ?_) ?_
 ·obtain rfl : j = 0 := by omega
  exact s1
 ·exact s0 _ rfl
theorem U105xe (p w : B6) : ∃ j : Int, U105 (p, ((⟨1, fun i => List.getD [w] i w⟩ : Sl tB6.den), ())) = bif neB (inter p w) then .ok (inter p w, ()) () else .pan 150 T36 (j, ()) () := by
 obtain ⟨p1, p2, p3, p4, p5, p6, ⟨⟩⟩ := p
 obtain ⟨w1, w2, w3, w4, w5, w6, ⟨⟩⟩ := w
 obtain ⟨j, hL⟩ := L105xe p1 p2 p3 p4 p5 p6 w1 w2 w3 w4 w5 w6
 refine ⟨j, ?_⟩
 unfold U105 Q105
 refine (congrArg (fun o => onExit o 0 _ (onPanL o 150 T36 _ _)) hL).trans ?_
 show _ = bif decide (max p1 w1 ≤ min p2 w2) && decide (max p3 w3 ≤ min p4 w4) && decide (max p5 w5 ≤ min p6 w6) then _ else _
 cases decide (max p1 w1 ≤ min p2 w2) && decide (max p3 w3 ≤ min p4 w4) && decide (max p5 w5 ≤ min p6 w6) <;> rfl
theorem M111xe {s : tS.den} (hs : (ofS s).Ok) {t i : Nat} (ht : t + 1 < s.1.n) (hi' : i < (s.1.g (t + 1)).2.1.n) {b : B6} (hb : inBox b) :
  M111 (no_index (lookS s, (((t + 1 : Nat) : Int), ((i : Int), (b, ()))))) = some (bif neB (inter ((s.1.g (t + 1)).2.1.g i) (wide (ofS s) b (mT s (t + 1) - mT s t))) then (inter ((s.1.g (t + 1)).2.1.g i) (wide (ofS s) b (mT s (t + 1) - mT s t)), (true, ())) else ((0, (0, (0, (0, (0, (0, ())))))), (false, ()))) := by
 unfold M111 Q111
 have h1 : 0 ≤ mT s (t + 1) ∧ mT s (t + 1) ≤ 200 := hs.tm0 (t + 1) ht
 have h2 : 0 ≤ mT s t ∧ mT s t ≤ 200 := hs.tm0 t (Nat.lt_of_succ_lt ht)
 have h3 : mT s t < mT s (t + 1) := hs.tm t ht
 refine (cl_of (M94xe ht hi')).trans ?_
 refine (cl_of (M96xe hs ht)).trans ?_
 refine (cl_of (M88xe hs hb (h := mT s (t + 1) - mT s t) (by omega) (by omega))).trans ?_
 obtain ⟨j, hU⟩ := U105xe ((s.1.g (t + 1)).2.1.g i) (wide (ofS s) b (mT s (t + 1) - mT s t))
 refine (congrArg (fun o => onGPan o 150 T36 _ (onOk o _ _)) hU).trans ?_
 cases neB (inter ((s.1.g (t + 1)).2.1.g i) (wide (ofS s) b (mT s (t + 1) - mT s t))) <;> rfl
end Go.Dm

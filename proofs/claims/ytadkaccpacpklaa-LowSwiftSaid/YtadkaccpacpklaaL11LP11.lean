/- The reference's test of suites; whether there are links. -/
import Derived.Test.YtadkaccpacpklaaL11LP10
set_option linter.unusedVariables false
set_option linter.unusedSimpArgs false
namespace Go.Dm
set_option maxRecDepth 100000
open Go.Low
variable {s : tS.den}
theorem L21xin {t : Nat} (hk : (s.1.g t).2.1.n ≤ 1000) :
  L21x0x0 ((), ((t : Int), ((), (s, (s.1.g t, ()))))) ((0 : Int), ()) = bif rowB (s.1.g t).2.1 then .exit 2 () else LQ.ret (wy := wv21x0x0) (show (patsTy wv21x0x0.ret).den from (false, ())) := by
 unfold L21x0x0
 refine iterQ_all (ps := vs21x0x0) (n := (s.1.g t).2.1.n) (f := fun j => ((j : Int), ())) (c := fun j => bxB ((s.1.g t).2.1.g j)) (by unfold big; omega) (fun j hj _ => ?_) (fun _ => ?_)
 ·unfold S21x0x0 Z21x0x0 bxB
  refine (bif_t (decide_eq_true (lt_ok hj))).trans ?_
  refine (bif_t (decide_eq_true (idx_ok hj))).trans ?_
  refine (cl_of (M69xe (show B6 from (s.1.g t).2.1.g j).1 (show B6 from (s.1.g t).2.1.g j).2.1 100)).trans ?_
  cases axB (show B6 from (s.1.g t).2.1.g j).1 (show B6 from (s.1.g t).2.1.g j).2.1 100 with
  | false => rfl
  | true =>
   refine (bif_f rfl).trans ?_
   refine (cl_of (M69xe (show B6 from (s.1.g t).2.1.g j).2.2.1 (show B6 from (s.1.g t).2.1.g j).2.2.2.1 100)).trans ?_
   cases axB (show B6 from (s.1.g t).2.1.g j).2.2.1 (show B6 from (s.1.g t).2.1.g j).2.2.2.1 100 with
   | false => rfl
   | true =>
    refine (bif_f rfl).trans ?_
    refine (cl_of (M69xe (show B6 from (s.1.g t).2.1.g j).2.2.2.2.1 (show B6 from (s.1.g t).2.1.g j).2.2.2.2.2.1 99999)).trans ?_
    cases axB (show B6 from (s.1.g t).2.1.g j).2.2.2.2.1 (show B6 from (s.1.g t).2.1.g j).2.2.2.2.2.1 99999 with
    | false => rfl
    | true =>
     refine (bif_f rfl).trans ?_
     exact congrArg (fun q : Int => (RQ.next (show (patsTy vs21x0x0).den from (q, ())) : RQ vs21x0x0 wv21x0x0)) (W_nat hj (by omega))
 ·unfold S21x0x0 Z21x0x0
  have : ¬ (((s.1.g t).2.1.n : Int) < ((s.1.g t).2.1.n : Int)) := by omega
  exact bif_f (decide_eq_false this)
theorem M21xe (hn : s.1.n ≤ 1000) (hk : ∀ t, t < s.1.n → (s.1.g t).2.1.n ≤ 1000) : M21 (no_index (s, ())) = some (okS s, ()) := by
 have key : L21x0 ((), (s, ())) ((0 : Int), ()) = bif (List.range s.1.n).all (mapB s) then .exit 0 () else LQ.ret (wy := wv21x0) (show (patsTy wv21x0.ret).den from (false, ())) := by
  unfold L21x0
  refine iterQ_all (ps := vs21x0) (n := s.1.n) (f := fun j => ((j : Int), ())) (c := mapB s) (by unfold big; omega) (fun j hj hall => ?_) (fun _ => ?_)
  ·have w1 : W ((j : Int) + 1) = ((j + 1 : Nat) : Int) := W_nat hj (by omega)
   have nxt : (RQ.next (show (patsTy vs21x0).den from (W ((j : Int) + 1), ())) : RQ vs21x0 wv21x0) = .next (((j + 1 : Nat) : Int), ()) := by rw [w1]
   have tail : ∀ (hp : ¬ mT s j ≤ prevT s j) (h2 : ¬ 200 < mT s j) (f : (patsTy (wayP wv21x0x0 2)).den → RQ vs21x0 wv21x0) (g : (patsTy wv21x0x0.ret).den → RQ vs21x0 wv21x0), (∀ u, f u = RQ.next (show (patsTy vs21x0).den from (W ((j : Int) + 1), ()))) → (∀ u, g u = .out (.ret u)) →
     (bif decide ((3 : Int) < (((s.1.g j).2.1.n : Nat) : Int)) then RQ.out (LQ.ret (wy := wv21x0) (show (patsTy wv21x0.ret).den from (false, ()))) else onExit (L21x0x0 ((), ((j : Int), ((), (s, (s.1.g j, ()))))) ((0 : Int), ())) 2 f (onRet (L21x0x0 ((), ((j : Int), ((), (s, (s.1.g j, ()))))) ((0 : Int), ())) g .bad)) =
      bif mapB s j then .next (((j + 1 : Nat) : Int), ()) else .out (LQ.ret (wy := wv21x0) (show (patsTy wv21x0.ret).den from (false, ()))) := by
    intro hp h2 f g hf hg
    unfold mapB
    rw [decide_eq_false hp, decide_eq_false h2]
    by_cases c3 : 3 < (s.1.g j).2.1.n
    ·have c3' : (3 : Int) < (((s.1.g j).2.1.n : Nat) : Int) := by omega
     rw [decide_eq_true c3, decide_eq_true c3']; rfl
    ·have c3' : ¬ (3 : Int) < (((s.1.g j).2.1.n : Nat) : Int) := by omega
     rw [decide_eq_false c3, decide_eq_false c3', cond_false, L21xin (hk j hj)]
     cases rowB (s.1.g j).2.1 with
     | true => exact (hf ()).trans nxt
     | false => exact hg _
   have hprev : prevT s j ≤ mT s j → (0 < j → 0 ≤ prevT s j) := fun _ hj0 => by
    have h0 : ∀ i, i < j → 0 ≤ mT s i := fun i => by
     induction i with
     | zero =>
      intro hi
      have h := hall 0 hi
      unfold mapB at h
      simp only [Bool.and_eq_true, Bool.not_eq_true', decide_eq_false_iff_not] at h
      have : prevT s 0 = -1 := rfl
      omega
     | succ i ih =>
      intro hi
      have h := hall (i + 1) hi
      unfold mapB at h
      simp only [Bool.and_eq_true, Bool.not_eq_true', decide_eq_false_iff_not] at h
      have : prevT s (i + 1) = mT s i := rfl
      have := ih (by omega)
      omega
    obtain ⟨i, rfl⟩ : ∃ i, j = i + 1 := ⟨j - 1, by omega⟩
    exact h0 i (by omega)
   unfold S21x0 Z21x0
   refine (bif_t (decide_eq_true (lt_ok hj))).trans ?_
   refine (bif_t (decide_eq_true (idx_ok hj))).trans ?_
   refine (cl_of (M68xe (mT s j) 0 200)).trans ?_
   unfold rgB
   by_cases c2 : 200 < mT s j
   ·have d : ¬ mT s j ≤ 200 := by omega
    have hm : mapB s j = false := by
     unfold mapB; rw [decide_eq_true c2]; simp
    rw [decide_eq_false d, Bool.and_false, hm]; rfl
   have d2 : mT s j ≤ 200 := by omega
   rw [decide_eq_true d2, Bool.and_true]
   cases j with
   | zero =>
    by_cases c1 : 0 ≤ mT s 0
    ·rw [decide_eq_true c1]
     refine (bif_f rfl).trans ?_
     have hz : ¬ (0 : Int) < ((0 : Nat) : Int) := by omega
     refine (bif_f (decide_eq_false hz)).trans ?_
     exact tail (by show ¬ mT s 0 ≤ -1; omega) c2 _ _ (fun _ => rfl) (fun _ => rfl)
    ·have hm : mapB s 0 = false := by
      unfold mapB
      have : mT s 0 ≤ prevT s 0 := by show mT s 0 ≤ -1; omega
      rw [decide_eq_true this]; rfl
     rw [decide_eq_false c1, hm]; rfl
   | succ j =>
    have hpv : prevT s (j + 1) = mT s j := rfl
    by_cases c1 : 0 ≤ mT s (j + 1)
    ·rw [decide_eq_true c1]
     refine (bif_f rfl).trans ?_
     have hz : (0 : Int) < ((j + 1 : Nat) : Int) := by omega
     refine (bif_t (decide_eq_true hz)).trans ?_
     have wp := wpred (n := s.1.n) hn hj
     have e4 : ∀ {α : Type} (x y : α), (bif decide ((0 : Int) ≤ W (((j + 1 : Nat) : Int) - 1) ∧ W (((j + 1 : Nat) : Int) - 1) < (s.1.n : Int)) then x else y) = x := fun x y => by rw [wp]; exact bif_t (decide_eq_true (idx_ok (Nat.lt_of_succ_lt hj)))
     refine (e4 _ _).trans ?_
     have e5 : ∀ {α : Type} (x y : α), (bif decide (mT s (j + 1) ≤ mT s (Int.toNat (W (((j + 1 : Nat) : Int) - 1)))) then x else y) = (bif decide (mT s (j + 1) ≤ mT s j) then x else y) := fun x y => by rw [wp]; rfl
     refine (e5 _ _).trans ?_
     by_cases c4 : mT s (j + 1) ≤ mT s j
     ·have hm : mapB s (j + 1) = false := by
       unfold mapB
       rw [hpv, decide_eq_true c4]; rfl
      rw [hm]
      exact bif_t (decide_eq_true c4)
     ·refine (bif_f (decide_eq_false c4)).trans ?_
      exact tail (by rw [hpv]; exact c4) c2 _ _ (fun _ => rfl) (fun _ => rfl)
    ·have hm : mapB s (j + 1) = false := by
      unfold mapB
      have : mT s (j + 1) ≤ prevT s (j + 1) := by
       by_cases q : prevT s (j + 1) ≤ mT s (j + 1)
       ·have := hprev q (by omega); omega
       ·omega
      rw [decide_eq_true this]; rfl
     rw [decide_eq_false c1, hm]; rfl
  ·unfold S21x0 Z21x0
   have : ¬ ((s.1.n : Int) < (s.1.n : Int)) := by omega
   exact bif_f (decide_eq_false this)
 unfold M21 Q21 okS
 revert key
 cases (List.range s.1.n).all (mapB s) with
 | false => intro key; refine (congrArg (fun o => onExit o 0 _ (onRet o _ _)) key).trans ?_; rfl
 | true =>
  intro key
  refine (onExit_of key).trans ?_
  unfold numB
  refine (cl_of (M68xe _ _ _)).trans ?_
  cases rgB (s.1.n : Int) 1 4 with
  | false => rfl
  | true =>
   refine (bif_t rfl).trans ?_
   refine (cl_of (M68xe (spd s) _ _)).trans ?_
   cases rgB (spd s) 0 50 with
   | false => rfl
   | true =>
    refine (bif_t rfl).trans ?_
    refine (cl_of (M68xe (dpn s) _ _)).trans ?_
    cases rgB (dpn s) 0 1000 with
    | false => rfl
    | true =>
     refine (bif_t rfl).trans ?_
     refine (cl_of (M68xe (bnn s) _ _)).trans ?_
     cases rgB (bnn s) 0 12 with
     | false => rfl
     | true =>
      refine (bif_t rfl).trans ?_
      refine (cl_of (M68xe (gnn s) _ _)).trans ?_
      rfl
theorem M77xe (hs : (ofS s).Ok) : M77 (no_index (s, ())) = some (!(links (ofS s)).isEmpty, ()) := by
 obtain ⟨z, h1, h2, _⟩ := M81xe hs
 unfold M77 Q77
 refine (cl_of h1).trans ?_
 have hl : (links (ofS s)).isEmpty = z.list.isEmpty := by rw [← h2]; simp
 rw [hl]
 show onNext (L77x0 ((), ((false, ()), ())) z.list) _ (onRetO (L77x0 ((), ((false, ()), ())) z.list) _ _) = _
 cases z.list with
 | nil => rfl
 | cons a l => rfl
end Go.Dm

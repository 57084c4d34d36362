/- LowClashes. -/
import Derived.Test.YtadkaccpacpklaaL9LP11
set_option linter.unusedVariables false
set_option linter.unusedSimpArgs false
namespace Go.Dm
set_option maxRecDepth 100000
open Go.Low
variable {s : tS.den}
def preS (s : tS.den) (m : Nat) : tS.den := (⟨m, s.1.g⟩, s.2)
theorem pre_ok (hs : (ofS s).Ok) {m : Nat} (h1 : 0 < m) (h2 : m ≤ s.1.n) : (ofS (preS s m)).Ok :=
 ⟨h1, Nat.le_trans h2 hs.n4, fun t ht => hs.k t (Nat.lt_of_lt_of_le ht h2), fun t ht => hs.tm0 t (Nat.lt_of_lt_of_le ht h2), fun t ht => hs.tm t (Nat.lt_of_lt_of_le ht h2), fun t i ht => hs.box t i (Nat.lt_of_lt_of_le ht h2), hs.sp, hs.dp, hs.bn, hs.gn⟩
def noL (s : tS.den) (t : Nat) : Bool := (links (ofS (preS s (t + 1)))).isEmpty
theorem M90xe {t : Nat} (ht : t < s.1.n) (hn : s.1.n ≤ 1000) : M90 (no_index (s, (W ((t : Int) + 1), ()))) = some (preS s (t + 1), ()) := by
 rw [W_nat ht (by omega)]
 unfold M90 Q90
 have a : (0 : Int) ≤ 0 ∧ ((0 : Int) ≤ ((t + 1 : Nat) : Int) ∧ ((t + 1 : Nat) : Int) ≤ (s.1.n : Int)) := by omega
 refine (bif_t (decide_eq_true a)).trans ?_
 rfl
theorem M47xe (hs : (ofS s).Ok) : M47 (no_index (s, ())) = some ((match fstN (noL s) s.1.n with | some k => (k : Int) | none => -1), ()) := by
 have hn4 := small_n hs
 have key : L47x0 ((), (s, ())) ((0 : Int), ()) = match fstN (noL s) s.1.n with | some k => LQ.ret (wy := wv47x0) (show (patsTy wv47x0.ret).den from ((k : Int), ())) | none => .exit 0 () := by
  unfold L47x0
  refine iterQ_find (ps := vs47x0) (n := s.1.n) (f := fun j => ((j : Int), ())) (qr := fun k => LQ.ret (wy := wv47x0) (show (patsTy wv47x0.ret).den from ((k : Int), ()))) (by unfold big; omega) (fun j hj _ => ?_) (fun _ => ?_)
  ·unfold S47x0 Z47x0
   obtain ⟨all, h1, h2⟩ := M22xe (pre_ok hs (m := j + 1) (by omega) (by omega))
   refine (bif_t (decide_eq_true (lt_ok hj))).trans ?_
   refine (cl_of (M90xe hj (by omega))).trans ?_
   refine (cl_of h1).trans ?_
   have e : noL s j = decide (((all.n : Nat) : Int) = 0) := by
    unfold noL
    rw [← h2]
    by_cases c : ((all.n : Nat) : Int) = 0
    ·rw [decide_eq_true c]
     have : (linksL all).length = 0 := by rw [linksL_len]; omega
     rw [List.length_eq_zero_iff.1 this]; rfl
    ·rw [decide_eq_false c]
     cases h : linksL all with
     | nil => have := congrArg List.length h; rw [linksL_len] at this; simp at this; omega
     | cons a l => rfl
   rw [e]
   cases decide (((all.n : Nat) : Int) = 0) with
   | true => rfl
   | false => exact congrArg (fun q : Int => (RQ.next (show (patsTy vs47x0).den from (q, ())) : RQ vs47x0 wv47x0)) (W_nat hj (by omega))
  ·unfold S47x0 Z47x0
   have : ¬ ((s.1.n : Int) < (s.1.n : Int)) := by omega
   exact bif_f (decide_eq_false this)
 unfold M47 Q47
 revert key
 cases fstN (noL s) s.1.n with
 | some k => intro key; exact (congrArg (fun o => onExit o 0 _ (onRet o _ _)) key).trans rfl
 | none => intro key; exact (congrArg (fun o => onExit o 0 _ (onRet o _ _)) key).trans rfl
theorem M89xe (hs : (ofS s).Ok) {t : Nat} (ht : t < s.1.n) : M89 (no_index ((t : Int), (s, ()))) = some (true, (noL s t, ())) := by
 have hn4 := small_n hs
 unfold M89 Q89
 have w := W_nat (n := s.1.n) ht (by omega)
 have a : (0 : Int) ≤ 0 ∧ ((0 : Int) ≤ W ((t : Int) + 1) ∧ W ((t : Int) + 1) ≤ (s.1.n : Int)) := by rw [w]; omega
 refine (bif_t (decide_eq_true a)).trans ?_
 have hM := M77xe (pre_ok hs (m := t + 1) (by omega) (by omega))
 have hM' : M77 (((⟨Int.toNat (W ((t : Int) + 1) - 0), fun i => s.1.g (i + 0)⟩ : Sl tMap.den), s.2), ()) = some (!(links (ofS (preS s (t + 1)))).isEmpty, ()) := by rw [w]; exact hM
 refine (cl_of hM').trans ?_
 show some (true, (!(!(links (ofS (preS s (t + 1)))).isEmpty), ())) = _
 rw [Bool.not_not]; rfl
theorem M46xe (hs : okS s = true) (hn : s.1.n ≤ 1000) (hk : ∀ t, t < s.1.n → (s.1.g t).2.1.n ≤ 1000) : M46 (no_index (s, ())) = some (match fstN (noL s) s.1.n with | some k => ((k : Int), ((0 : Int), ())) | none => ((0 : Int), ((5 : Int), ()))) := by
 have hok := okS_ok hs
 have hn4 := small_n hok
 have hn1 : 0 < s.1.n := hok.n1
 have hp : ∀ j, j < s.1.n → p89 ((j : Int), (s, ())) = true := fun j hj => by show (M89 ((j : Int), (s, ()))).isSome = true; rw [M89xe hok hj]; rfl
 have hv : ∀ j, j < s.1.n → v89 ((j : Int), (s, ())) = (true, (noL s j, ())) := fun j hj => by show (M89 ((j : Int), (s, ()))).getD _ = _; rw [M89xe hok hj]; rfl
 have wN : W ((s.1.n : Int) - 1) = ((s.1.n - 1 : Nat) : Int) := by rw [W_id ⟨by omega, by omega⟩]; omega
 have key : L75x0 (W (((s.1.n : Nat) : Int) - 1), ((fun y1 => (p89 (y1.1, (s, ())), v89 (y1.1, (s, ())))), ())) ((0 : Int), ()) = match fstN (noL s) s.1.n with | some k => LQ.ret (wy := wv75x0) (show (patsTy wv75x0.ret).den from (true, ((k : Int), (true, ())))) | none => .exit 0 () := by
  rw [wN]
  unfold L75x0
  refine iterQ_find (ps := vs75x0) (n := s.1.n) (f := fun j => ((j : Int), ())) (qr := fun k => LQ.ret (wy := wv75x0) (show (patsTy wv75x0.ret).den from (true, ((k : Int), (true, ()))))) (by unfold big; omega) (fun j hj _ => ?_) (fun _ => ?_)
  ·unfold S75x0 Z75x0
   have h1 : (j : Int) ≤ ((s.1.n - 1 : Nat) : Int) := by omega
   refine (bif_t (decide_eq_true h1)).trans ?_
   refine (bif_t (hp j hj)).trans ?_
   have hv1 : (v89 ((j : Int), (s, ()))).2.1 = noL s j := by rw [hv j hj]
   cases hb : noL s j with
   | true =>
    rw [hb] at hv1
    refine (bif_t hv1).trans ?_
    show RQ.out (LQ.ret (show (patsTy wv75x0.ret).den from ((v89 ((j : Int), (s, ()))).1, ((j : Int), (true, ()))))) = _
    rw [hv j hj]; rfl
   | false =>
    rw [hb] at hv1
    refine (bif_f hv1).trans ?_
    exact congrArg (fun q : Int => (RQ.next (show (patsTy vs75x0).den from (q, ())) : RQ vs75x0 wv75x0)) (W_nat hj (by omega))
  ·unfold S75x0 Z75x0
   have : ¬ ((s.1.n : Int) ≤ ((s.1.n - 1 : Nat) : Int)) := by omega
   exact bif_f (decide_eq_false this)
 have hM : M75 ((0 : Int), (W (((s.1.n : Nat) : Int) - 1), ((fun y1 => (p89 (y1.1, (s, ())), v89 (y1.1, (s, ())))), ()))) = some (match fstN (noL s) s.1.n with | some k => (true, ((k : Int), (true, ()))) | none => (false, ((0 : Int), (false, ())))) := by
  unfold M75 Q75
  revert key
  cases fstN (noL s) s.1.n with
  | some k => intro key; exact (congrArg (fun o => onExit o 0 _ (onRet o _ _)) key).trans rfl
  | none => intro key; exact (congrArg (fun o => onExit o 0 _ (onRet o _ _)) key).trans rfl
 have h74 := M74xe hn hk
 rw [hs] at h74
 have fin : ∀ o : Option Nat, M75 ((0 : Int), (W (((s.1.n : Nat) : Int) - 1), ((fun y1 => (p89 (y1.1, (s, ())), v89 (y1.1, (s, ())))), ()))) = some (match o with | some k => (true, ((k : Int), (true, ()))) | none => (false, ((0 : Int), (false, ())))) → M46 (no_index (s, ())) = some (match o with | some k => ((k : Int), ((0 : Int), ())) | none => ((0 : Int), ((5 : Int), ()))) := fun o ho => by
  unfold M46 Q46
  simp only [h74, cl_some, ho, Bool.not_true, cond_false]
  cases o <;> rfl
 exact fin _ hM
theorem M46xbad (hs : okS s = false) (hn : s.1.n ≤ 1000) (hk : ∀ t, t < s.1.n → (s.1.g t).2.1.n ≤ 1000) : M46 (no_index (s, ())) = some ((0 : Int), ((2 : Int), ())) := by
 unfold M46 Q46
 refine (cl_of (M74xe hn hk)).trans ?_
 rw [hs]; rfl
theorem clashes_law (s : tS.den) : M9 (s, ()) = some (true, ()) := by
 unfold M9 Q9
 obtain ⟨b, h1, h2⟩ := M16xe (s := s)
 refine (cl_of h1).trans ?_
 cases b with
 | false => exact (bif_t rfl).trans (cl_of known_M)
 | true =>
  refine (bif_f rfl).trans ?_
  obtain ⟨hn, hk⟩ := h2 rfl
  have hn' : s.1.n ≤ 1000 := by omega
  have hk' : ∀ t, t < s.1.n → (s.1.g t).2.1.n ≤ 1000 := fun t ht => by have := hk t ht; omega
  cases ho : okS s with
  | false =>
   refine (cl_of (M46xbad ho hn' hk')).trans ?_
   refine (cl_of (M21xe hn' hk')).trans ?_
   rw [ho]
   exact (bif_t rfl).trans ((bif_t rfl).trans ((bif_t rfl).trans (cl_of known_M)))
  | true =>
   refine (cl_of (M46xe ho hn' hk')).trans ?_
   refine (cl_of (M21xe hn' hk')).trans ?_
   rw [ho]
   refine (bif_f rfl).trans ?_
   refine (cl_of (M47xe (okS_ok ho))).trans ?_
   cases fstN (noL s) s.1.n with
   | none => exact (bif_t rfl).trans ((bif_t rfl).trans ((bif_t rfl).trans (cl_of known_M)))
   | some k =>
    have c1 : ¬ ((k : Int) < 0) := by omega
    refine (bif_f (decide_eq_false c1)).trans ?_
    refine (bif_t rfl).trans ?_
    refine (bif_t (decide_eq_true (rfl : (k : Int) = (k : Int)))).trans ?_
    exact cl_of known_M
theorem law9 (x : (a9).den) : M9 x = some (true, ()) := by
 obtain ⟨s, ⟨⟩⟩ := x
 exact clashes_law s
end Go.Dm

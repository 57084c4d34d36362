/- LowClashes. -/
import Derived.Test.YtadkaccpacpklaaL11LP11
set_option linter.unusedVariables false
set_option linter.unusedSimpArgs false
namespace Go.Dm
set_option maxRecDepth 100000
open Go.Low
variable {s : tS.den}
def preS (s : tS.den) (m : Nat) : tS.den := (⟨m, s.1.g⟩, s.2)
theorem pre_ok (hs : (ofS s).Ok) {m : Nat} (h1 : 0 < m) (h2 : m ≤ s.1.n) : (ofS (preS s m)).Ok :=
 ⟨h1, Nat.le_trans h2 hs.n4, fun t ht => hs.k t (Nat.lt_of_lt_of_le ht h2), fun t ht => hs.tm0 t (Nat.lt_of_lt_of_le ht h2), fun t ht => hs.tm t (Nat.lt_of_lt_of_le ht h2), fun t i ht => hs.box t i (Nat.lt_of_lt_of_le ht h2), hs.sp, hs.dp, hs.bn, hs.gn⟩
def noL (s : tS.den) (t : Nat) : Bool := (links (ofS (preS s (t + 1)))).isEmpty
theorem M89xe (hs : (ofS s).Ok) {t : Nat} (ht : t < s.1.n) : M89 (no_index ((t : Int), (s, ()))) = some (true, (noL s t, ())) := by
 have hn4 := small_n hs
 unfold M89 Q89
 have w := W_nat (n := s.1.n) ht (by omega)
 have a : (0 : Int) ≤ 0 ∧ ((0 : Int) ≤ W ((t : Int) + 1) ∧ W ((t : Int) + 1) ≤ (s.1.n : Int)) := by rw [w]; omega
 refine (bif_t (decide_eq_true a)).trans ?_
 have hM := M77xe (pre_ok hs (m := t + 1) (by omega) (by omega))
 have hM' : M77 (((⟨Int.toNat (W ((t : Int) + 1) - 0), fun i => s.1.g (i + 0)⟩ : Sl tMap.den), s.2), ()) = some (!(links (ofS (preS s (t + 1)))).isEmpty, ()) := by rw [w]; exact hM
 refine (cl_of hM').trans ?_
 show some (true, (!(!(links (ofS (preS s (t + 1)))).isEmpty), ())) = _
 rw [Bool.not_not]; rfl
theorem M46xe (hs : okS s = true) (hn : s.1.n ≤ 1000) (hk : ∀ t, t < s.1.n → (s.1.g t).2.1.n ≤ 1000) : M46 (no_index (s, ())) = some (match fstN (noL s) s.1.n with | some k => ((k : Int), ((0 : Int), ())) | none => ((0 : Int), ((5 : Int), ()))) := by
 have hok := okS_ok hs
 have hn4 := small_n hok
 have hn1 : 0 < s.1.n := hok.n1
 have hp : ∀ j, j < s.1.n → p89 ((j : Int), (s, ())) = true := fun j hj => by show (M89 ((j : Int), (s, ()))).isSome = true; rw [M89xe hok hj]; rfl
 have hv : ∀ j, j < s.1.n → v89 ((j : Int), (s, ())) = (true, (noL s j, ())) := fun j hj => by show (M89 ((j : Int), (s, ()))).getD _ = _; rw [M89xe hok hj]; rfl
 have wN : W ((s.1.n : Int) - 1) = ((s.1.n - 1 : Nat) : Int) := by rw [W_id ⟨by omega, by omega⟩]; omega
 have key : L75x0 (W (((s.1.n : Nat) : Int) - 1), ((fun y1 => (p89 (y1.1, (s, ())), v89 (y1.1, (s, ())))), ())) ((0 : Int), ()) = match fstN (noL s) s.1.n with | some k => LQ.ret (wy := wv75x0) (show (patsTy wv75x0.ret).den from (true, ((k : Int), (true, ())))) | none => .exit 0 () := by
  rw [wN]
  unfold L75x0
  refine iterQ_find (ps := vs75x0) (n := s.1.n) (f := fun j => ((j : Int), ())) (qr := fun k => LQ.ret (wy := wv75x0) (show (patsTy wv75x0.ret).den from (true, ((k : Int), (true, ()))))) (by unfold big; omega) (fun j hj _ => ?_) (fun _ => ?_)
  ·unfold S75x0 Z75x0
   have h1 : (j : Int) ≤ ((s.1.n - 1 : Nat) : Int) := by omega
   refine (bif_t (decide_eq_true h1)).trans ?_
   refine (bif_t (hp j hj)).trans ?_
   have hv1 : (v89 ((j : Int), (s, ()))).2.1 = noL s j := by rw [hv j hj]
   cases hb : noL s j with
   | true =>
    rw [hb] at hv1
    refine (bif_t hv1).trans ?_
    show RQ.out (LQ.ret (show (patsTy wv75x0.ret).den from ((v89 ((j : Int), (s, ()))).1, ((j : Int), (true, ()))))) = _
    rw [hv j hj]; rfl
   | false =>
    rw [hb] at hv1
    refine (bif_f hv1).trans ?_
    exact congrArg (fun q : Int => (RQ.next (show (patsTy vs75x0).den from (q, ())) : RQ vs75x0 wv75x0)) (W_nat hj (by omega))
  ·unfold S75x0 Z75x0
   have : ¬ ((s.1.n : Int) ≤ ((s.1.n - 1 : Nat) : Int)) := by omega
   exact bif_f (decide_eq_false this)
 have hM : M75 ((0 : Int), (W (((s.1.n : Nat) : Int) - 1), ((fun y1 => (p89 (y1.1, (s, ())), v89 (y1.1, (s, ())))), ()))) = some (match fstN (noL s) s.1.n with | some k => (true, ((k : Int), (true, ()))) | none => (false, ((0 : Int), (false, ())))) := by
  unfold M75 Q75
  revert key
  cases fstN (noL s) s.1.n with
  | some k => intro key; exact (congrArg (fun o => onExit o 0 _ (onRet o _ _)) key).trans rfl
  | none => intro key; exact (congrArg (fun o => onExit o 0 _ (onRet o _ _)) key).trans rfl
 have h74 := M74xe hn hk
 rw [hs] at h74
 have fin : ∀ o : Option Nat, M75 ((0 : Int), (W (((s.1.n : Nat) : Int) - 1), ((fun y1 => (p89 (y1.1, (s, ())), v89 (y1.1, (s, ())))), ()))) = some (match o with | some k => (true, ((k : Int), (true, ()))) | none => (false, ((0 : Int), (false, ())))) → M46 (no_index (s, ())) = some (match o with | some k => ((k : Int), ((0 : Int), ())) | none => ((0 : Int), ((5 : Int), ()))) := fun o ho => by
  unfold M46 Q46
  simp only [h74, cl_some, ho, Bool.not_true, cond_false]
  cases o <;> rfl
 exact fin _ hM
end Go.Dm

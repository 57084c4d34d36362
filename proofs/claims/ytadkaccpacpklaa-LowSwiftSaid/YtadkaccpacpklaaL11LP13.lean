/- LowSpeeds. -/
import Derived.Test.YtadkaccpacpklaaL11LP12
set_option linter.unusedVariables false
set_option linter.unusedSimpArgs false
namespace Go.Dm
set_option maxRecDepth 100000
open Go.Low
variable {s : tS.den}
def spS (s : tS.den) (v : Int) : tS.den := (s.1, (v, s.2.2))
theorem sp_ok (hs : (ofS s).Ok) {v : Int} (h : 0 ≤ v ∧ v ≤ 50) : (ofS (spS s v)).Ok := ⟨hs.n1, hs.n4, hs.k, hs.tm0, hs.tm, hs.box, h, hs.dp, hs.bn, hs.gn⟩
def yesL (s : tS.den) (v : Nat) : Bool := !(links (ofS (spS s v))).isEmpty
theorem M27xe (hn : s.1.n ≤ 1000) : ∃ b : Bool, M27 (no_index (s, ())) = some (b, ()) := by
 let c : Nat → Bool := fun j => !(decide ((2 : Int) < (((s.1.g j).2.1.n : Nat) : Int)) && decide ((3 : Int) < ((s.1.n : Nat) : Int)))
 have key : L27x0 ((), (s, ())) ((0 : Int), ()) = bif (List.range s.1.n).all c then .exit 0 () else LQ.ret (wy := wv27x0) (show (patsTy wv27x0.ret).den from (false, ())) := by
  unfold L27x0
  refine iterQ_all (ps := vs27x0) (n := s.1.n) (f := fun j => ((j : Int), ())) (c := c) (by unfold big; omega) (fun j hj _ => ?_) (fun _ => ?_)
  ·unfold S27x0 Z27x0
   refine (bif_t (decide_eq_true (lt_ok hj))).trans ?_
   refine (bif_t (decide_eq_true (idx_ok hj))).trans ?_
   have nxt : (RQ.next (show (patsTy vs27x0).den from (W ((j : Int) + 1), ())) : RQ vs27x0 wv27x0) = .next (((j + 1 : Nat) : Int), ()) := by rw [W_nat hj (by omega)]
   show _ = bif !(decide ((2 : Int) < (((s.1.g j).2.1.n : Nat) : Int)) && decide ((3 : Int) < ((s.1.n : Nat) : Int))) then _ else _
   cases h1 : decide ((2 : Int) < (((s.1.g j).2.1.n : Nat) : Int)) with
   | false => exact (bif_f h1).trans nxt
   | true =>
    refine (bif_t h1).trans ?_
    cases h2 : decide ((3 : Int) < ((s.1.n : Nat) : Int)) with
    | false => exact (bif_f rfl).trans nxt
    | true => exact bif_t rfl
  ·unfold S27x0 Z27x0
   have : ¬ ((s.1.n : Int) < (s.1.n : Int)) := by omega
   exact bif_f (decide_eq_false this)
 unfold M27 Q27
 cases hc : (List.range s.1.n).all c with
 | false => rw [hc] at key; exact ⟨false, (congrArg (fun o => onExit o 0 _ (onRet o _ _)) key).trans rfl⟩
 | true => rw [hc] at key; exact ⟨true, (onExit_of key).trans rfl⟩
theorem M76xe (hs : (ofS s).Ok) {v : Nat} (hv : v < 51) : M76 (no_index ((v : Int), (s, ()))) = some (true, (yesL s v, ())) := by
 unfold M76 Q76
 refine (cl_of (M77xe (sp_ok hs (v := (v : Int)) ⟨by omega, by omega⟩))).trans ?_
 rfl
theorem M28xe (hs : okS s = true) (hn : s.1.n ≤ 1000) (hk : ∀ t, t < s.1.n → (s.1.g t).2.1.n ≤ 1000) : M28 (no_index (s, ())) = some (match fstN (yesL s) 51 with | some k => ((k : Int), ((0 : Int), ())) | none => ((0 : Int), ((5 : Int), ()))) := by
 have hok := okS_ok hs
 have hp : ∀ j : Nat, j < 51 → p76 ((j : Int), (s, ())) = true := fun j hj => by show (M76 ((j : Int), (s, ()))).isSome = true; rw [M76xe hok hj]; rfl
 have hv : ∀ j : Nat, j < 51 → v76 ((j : Int), (s, ())) = (true, (yesL s j, ())) := fun j hj => by show (M76 ((j : Int), (s, ()))).getD _ = _; rw [M76xe hok hj]; rfl
 have key : L75x0 ((50 : Int), ((fun y1 => (p76 (y1.1, (s, ())), v76 (y1.1, (s, ())))), ())) ((0 : Int), ()) = match fstN (yesL s) 51 with | some k => LQ.ret (wy := wv75x0) (show (patsTy wv75x0.ret).den from (true, ((k : Int), (true, ())))) | none => .exit 0 () := by
  unfold L75x0
  refine iterQ_find (ps := vs75x0) (n := 51) (f := fun j => ((j : Int), ())) (qr := fun k => LQ.ret (wy := wv75x0) (show (patsTy wv75x0.ret).den from (true, ((k : Int), (true, ()))))) (by unfold big; omega) (fun j hj _ => ?_) (fun _ => ?_)
  ·unfold S75x0 Z75x0
   have h1 : (j : Int) ≤ 50 := by omega
   refine (bif_t (decide_eq_true h1)).trans ?_
   refine (bif_t (hp j hj)).trans ?_
   have hv1 : (v76 ((j : Int), (s, ()))).2.1 = yesL s j := by rw [hv j hj]
   cases hb : yesL s j with
   | true =>
    rw [hb] at hv1
    refine (bif_t hv1).trans ?_
    show RQ.out (LQ.ret (show (patsTy wv75x0.ret).den from ((v76 ((j : Int), (s, ()))).1, ((j : Int), (true, ()))))) = _
    rw [hv j hj]; rfl
   | false =>
    rw [hb] at hv1
    refine (bif_f hv1).trans ?_
    exact congrArg (fun q : Int => (RQ.next (show (patsTy vs75x0).den from (q, ())) : RQ vs75x0 wv75x0)) (W_nat hj (by omega))
  ·unfold S75x0 Z75x0
   have : ¬ (((51 : Nat) : Int) ≤ 50) := by omega
   exact bif_f (decide_eq_false this)
 have hM : M75 ((0 : Int), ((50 : Int), ((fun y1 => (p76 (y1.1, (s, ())), v76 (y1.1, (s, ())))), ()))) = some (match fstN (yesL s) 51 with | some k => (true, ((k : Int), (true, ()))) | none => (false, ((0 : Int), (false, ())))) := by
  unfold M75 Q75
  revert key
  cases fstN (yesL s) 51 with
  | some k => intro key; exact (congrArg (fun o => onExit o 0 _ (onRet o _ _)) key).trans rfl
  | none => intro key; exact (congrArg (fun o => onExit o 0 _ (onRet o _ _)) key).trans rfl
 have h74 := M74xe hn hk
 rw [hs] at h74
 have fin : ∀ o : Option Nat, M75 ((0 : Int), ((50 : Int), ((fun y1 => (p76 (y1.1, (s, ())), v76 (y1.1, (s, ())))), ()))) = some (match o with | some k => (true, ((k : Int), (true, ()))) | none => (false, ((0 : Int), (false, ())))) → M28 (no_index (s, ())) = some (match o with | some k => ((k : Int), ((0 : Int), ())) | none => ((0 : Int), ((5 : Int), ()))) := fun o ho => by
  unfold M28 Q28
  simp only [h74, cl_some, ho, Bool.not_true, cond_false]
  cases o <;> rfl
 exact fin _ hM
end Go.Dm

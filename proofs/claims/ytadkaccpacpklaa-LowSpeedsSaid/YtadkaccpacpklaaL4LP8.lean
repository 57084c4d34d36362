/- The reference: each low can be the same as all that it was before. -/
import Derived.Test.YtadkaccpacpklaaL4LP7
set_option linter.unusedVariables false
set_option linter.unusedSimpArgs false
namespace Go.Dm
set_option maxRecDepth 100000
open Go.Low
variable {s : tS.den}
theorem M119xi {al ah bl bh w : Int} (h1 : 0 ≤ al ∧ al ≤ 99999) (h2 : 0 ≤ ah ∧ ah ≤ 99999) (h3 : 0 ≤ bl ∧ bl ≤ 99999) (h4 : 0 ≤ bh ∧ bh ≤ 99999) :
  M119 (no_index ((al, (ah, ())), ((bl, (bh, ())), (w, ())))) = some (!(decide (al - bh ≤ w) && decide (bl - ah ≤ w)), ()) := by
 show (bif decide (w < W (al - bh)) then some (true, ()) else some (decide (w < W (bl - ah)), ())) = _
 rw [W_id (n := al - bh) ⟨by omega, by omega⟩, W_id (n := bl - ah) ⟨by omega, by omega⟩]
 by_cases c1 : w < al - bh
 ·have d1 : ¬ (al - bh ≤ w) := by omega
  rw [decide_eq_true c1, decide_eq_false d1]; rfl
 ·have d1 : al - bh ≤ w := by omega
  rw [decide_eq_false c1, decide_eq_true d1]
  by_cases c2 : w < bl - ah
  ·have d2 : ¬ (bl - ah ≤ w) := by omega
   rw [decide_eq_true c2, decide_eq_false d2]; rfl
  ·have d2 : bl - ah ≤ w := by omega
   rw [decide_eq_false c2, decide_eq_true d2]; rfl
def ax (s : PS) (p q : Nat × Nat) (a : Nat) : Bool := decide (lo (s.box p.1 p.2) a - hi (s.box q.1 q.2) a ≤ rate s a * (s.tm p.1 - s.tm q.1)) && decide (lo (s.box q.1 q.2) a - hi (s.box p.1 p.2) a ≤ rate s a * (s.tm p.1 - s.tm q.1))
theorem togB_ax (s : PS) (p q : Nat × Nat) : togB s p q = (ax s p q 0 && (ax s p q 1 && (ax s p q 2 && true))) := rfl
theorem M101xe (hs : (ofS s).Ok) {t i u j : Nat} (ht : t < s.1.n) (hi' : i < (s.1.g t).2.1.n) (hu : u ≤ t) (hj : j < (s.1.g u).2.1.n) :
  M101 (no_index (s, ((t : Int), ((i : Int), ((u : Int), ((j : Int), ())))))) = some (togB (ofS s) (t, i) (u, j), ()) := by
 unfold M101 Q101
 have hu' : u < s.1.n := by omega
 have q1 : 0 ≤ spd s ∧ spd s ≤ 50 := hs.sp
 have q2 : 0 ≤ dpn s ∧ dpn s ≤ 1000 := hs.dp
 have h1 : 0 ≤ mT s t ∧ mT s t ≤ 200 := hs.tm0 t ht
 have h2 : 0 ≤ mT s u ∧ mT s u ≤ 200 := hs.tm0 u hu'
 have h3 : mT s u ≤ mT s t := hs.tm_le hu ht
 have hm : mx (W (mT s t - mT s u)) (W (mT s u - mT s t)) = mT s t - mT s u := by
  rw [mx_max, W_id (n := mT s t - mT s u) ⟨by omega, by omega⟩, W_id (n := mT s u - mT s t) ⟨by omega, by omega⟩]; omega
 have hW0 : W (spd s * mx (W (mT s t - mT s u)) (W (mT s u - mT s t))) = spd s * (mT s t - mT s u) := by rw [hm]; exact (wmul ⟨q1.1, by omega⟩ ⟨by omega, by omega⟩).1
 have hW2 : W (dpn s * mx (W (mT s t - mT s u)) (W (mT s u - mT s t))) = dpn s * (mT s t - mT s u) := by rw [hm]; exact (wmul q2 ⟨by omega, by omega⟩).1
 have hp := inBox_box hs ht hi'
 have hq := inBox_box hs hu' hj
 have f : ∀ (a : Nat) (w : Int), a < 3 → w = rate (ofS s) a * (mT s t - mT s u) → M119 ((lo ((s.1.g t).2.1.g i) a, (hi ((s.1.g t).2.1.g i) a, ())), ((lo ((s.1.g u).2.1.g j) a, (hi ((s.1.g u).2.1.g j) a, ())), (w, ()))) = some (!(ax (ofS s) (t, i) (u, j) a), ()) := fun a w ha hw => by
  subst hw
  have p1 := hp a ha
  have p2 := hq a ha
  exact M119xi ⟨p1.1, p1.2.1⟩ p1.2.2 ⟨p2.1, p2.2.1⟩ p2.2.2
 rw [togB_ax]
 refine (bif_t (decide_eq_true (idx_ok ht))).trans ?_
 refine (bif_t (decide_eq_true (idx_ok hi'))).trans ?_
 refine (bif_t (decide_eq_true (idx_ok hu'))).trans ?_
 refine (bif_t (decide_eq_true (idx_ok hj))).trans ?_
 refine (bif_t (decide_eq_true (idx_ok ht))).trans ?_
 refine (bif_t (decide_eq_true (idx_ok hu'))).trans ?_
 refine (bif_t (decide_eq_true (idx_ok hu'))).trans ?_
 refine (bif_t (decide_eq_true (idx_ok ht))).trans ?_
 refine (cl_of (f 0 _ (by omega) hW0)).trans ?_
 cases ax (ofS s) (t, i) (u, j) 0 with
 | false => rfl
 | true =>
  refine (bif_t rfl).trans ?_
  refine (cl_of (f 1 _ (by omega) hW0)).trans ?_
  cases ax (ofS s) (t, i) (u, j) 1 with
  | false => rfl
  | true =>
   refine (bif_t rfl).trans ?_
   refine (cl_of (f 2 _ (by omega) hW2)).trans ?_
   cases ax (ofS s) (t, i) (u, j) 2 <;> rfl
structure Pre (s : tS.den) (L : LL) : Prop where
 sh : Shape s L []
 first : L.getD 0 [] = first (ofS s)
theorem lnk_row {o : rowsT} {t i : Nat} (ht : t < o.n) (hi' : i < (o.g t).1.n) : lnk (rowsL o) t i = (show Int from ((o.g t).1.g i).1) := by
 unfold lnk
 rw [rowsL_getD ht, List.getD_eq_getElem?_getD, listOf_get, if_pos hi']; rfl
theorem L71xchain (hs : (ofS s).Ok) {o : rowsT} (hP : Pre s (rowsL o)) {t i : Nat} (ht : t < o.n) (hi' : i < (s.1.g t).2.1.n) :
  ∀ (u j n : Nat), u ≤ t → j < (s.1.g u).2.1.n → u < n → iterQ (S71x0x0 (o, ((), ((t : Int), ((i : Int), (s, ())))))) n ((u : Int), ((j : Int), ())) = bif (anc (rowsL o) u j).tail.all (fun p => togB (ofS s) (t, i) p) then .exit 2 () else LQ.ret (wy := wv71x0x0) (show (patsTy wv71x0x0.ret).den from (false, ())) := by
 have hon : o.n ≤ s.1.n := by have := hP.sh.le; rwa [rowsL_len] at this
 have hn4 := small_n hs
 have hlen : ∀ t, t < o.n → (o.g t).1.n = (s.1.g t).2.1.n := fun t ht => by
  have := hP.sh.len t (by rw [rowsL_len]; exact ht)
  rw [rowsL_getD ht, listOf_len] at this
  exact this
 intro u
 induction u with
 | zero =>
  intro j n hu hj hn
  obtain ⟨n, rfl⟩ : ∃ m, n = m + 1 := ⟨n - 1, by omega⟩
  have hj' : j < (o.g 0).1.n := by rw [hlen 0 (by omega)]; exact hj
  have h0 : (show Int from ((o.g 0).1.g j).1) = -1 := by
   rw [← lnk_row (by omega) hj']
   unfold lnk
   rw [hP.first]
   simp only [first, List.getD_eq_getElem?_getD, List.getElem?_replicate]
   rw [if_pos (show j < (ofS s).k 0 from hj)]; rfl
  have hneg : ¬ ((0 : Int) ≤ (show Int from ((o.g 0).1.g j).1)) := by rw [h0]; omega
  have : S71x0x0 (o, ((), ((t : Int), ((i : Int), (s, ()))))) (((0 : Nat) : Int), ((j : Int), ())) = .out (.exit 2 ()) := by
   unfold S71x0x0 Z71x0x0
   refine (bif_t (decide_eq_true (idx_ok (j := 0) (n := o.n) (by omega)))).trans ?_
   refine (bif_t (decide_eq_true (idx_ok hj'))).trans ?_
   exact bif_f (decide_eq_false hneg)
  simp only [iterQ, this]
  rfl
 | succ u ih =>
  intro j n hu hj hn
  obtain ⟨n, rfl⟩ : ∃ m, n = m + 1 := ⟨n - 1, by omega⟩
  have hu1 : u + 1 < o.n := by omega
  have hj' : j < (o.g (u + 1)).1.n := by rw [hlen (u + 1) hu1]; exact hj
  have hl := lnk_row hu1 hj'
  simp only [anc, List.tail_cons]
  rw [hl]
  by_cases hneg : (0 : Int) ≤ (show Int from ((o.g (u + 1)).1.g j).1)
  ·rw [if_pos hneg]
   obtain ⟨q, hq⟩ : ∃ q : Nat, (show Int from ((o.g (u + 1)).1.g j).1) = (q : Int) := ⟨(show Int from ((o.g (u + 1)).1.g j).1).toNat, by omega⟩
   have hqk : q < (s.1.g u).2.1.n := by
    have hv := hP.sh.val u j (q : Int) (by rw [rowsL_len]; exact hu1) (by rw [rowsL_getD hu1, listOf_get, if_pos hj']; exact congrArg some hq)
    rcases hv with hv | hv
    ·omega
    ·simpa using hv.2
   rw [hq, show Int.toNat (q : Int) = q from rfl, anc_tail (rowsL o) u q, List.all_cons]
   have w1 : W (((u + 1 : Nat) : Int) - 1) = (u : Int) := wpred (n := u + 2) (by omega) (by omega)
   have hM := M101xe hs (t := t) (i := i) (u := u) (j := q) (by omega) hi' (by omega) hqk
   have step : S71x0x0 (o, ((), ((t : Int), ((i : Int), (s, ()))))) (((u + 1 : Nat) : Int), ((j : Int), ())) = bif togB (ofS s) (t, i) (u, q) then .next ((u : Int), ((q : Int), ())) else .out (LQ.ret (wy := wv71x0x0) (show (patsTy wv71x0x0.ret).den from (false, ()))) := by
    have hM' : M101 (s, ((t : Int), ((i : Int), (W (((u + 1 : Nat) : Int) - 1), (o.g (u + 1)).1.g j)))) = some (togB (ofS s) (t, i) (u, q), ()) := by
     rw [w1]
     have : (o.g (u + 1)).1.g j = ((q : Int), ()) := Prod.ext hq rfl
     rw [this]; exact hM
    unfold S71x0x0 Z71x0x0
    refine (bif_t (decide_eq_true (idx_ok hu1))).trans ?_
    refine (bif_t (decide_eq_true (idx_ok hj'))).trans ?_
    refine (bif_t (decide_eq_true hneg)).trans ?_
    refine (bif_t (decide_eq_true (idx_ok hu1))).trans ?_
    refine (bif_t (decide_eq_true (idx_ok hj'))).trans ?_
    refine (cl_of hM').trans ?_
    cases togB (ofS s) (t, i) (u, q) with
    | false => rfl
    | true =>
     have : (o.g (u + 1)).1.g j = ((q : Int), ()) := Prod.ext hq rfl
     show RQ.next (show (patsTy vs71x0x0).den from (W (((u + 1 : Nat) : Int) - 1), (o.g (u + 1)).1.g j)) = _
     rw [this, w1]; rfl
   simp only [iterQ, step]
   cases togB (ofS s) (t, i) (u, q) with
   | false => rfl
   | true =>
    have := ih q n (by omega) hqk (by omega)
    rw [cond_true, Bool.true_and]
    exact this
  ·rw [if_neg hneg]
   have : S71x0x0 (o, ((), ((t : Int), ((i : Int), (s, ()))))) (((u + 1 : Nat) : Int), ((j : Int), ())) = .out (.exit 2 ()) := by
    unfold S71x0x0 Z71x0x0
    refine (bif_t (decide_eq_true (idx_ok hu1))).trans ?_
    refine (bif_t (decide_eq_true (idx_ok hj'))).trans ?_
    exact bif_f (decide_eq_false hneg)
   simp only [iterQ, this]
   rfl
theorem M71xe (hs : (ofS s).Ok) {o : rowsT} (hP : Pre s (rowsL o)) : M71 (no_index (s, (o, ()))) = some (chB (ofS s) (rowsL o), ()) := by
 have hpos : 0 < o.n := by have := hP.sh.pos; rwa [rowsL_len] at this
 have hon : o.n ≤ s.1.n := by have := hP.sh.le; rwa [rowsL_len] at this
 have hn4 := small_n hs
 obtain ⟨t, ht⟩ : ∃ t, o.n = t + 1 := ⟨o.n - 1, by omega⟩
 have hto : t < o.n := by omega
 have hlen : (o.g t).1.n = (s.1.g t).2.1.n := by
  have := hP.sh.len t (by rw [rowsL_len]; exact hto)
  rw [rowsL_getD hto, listOf_len] at this
  exact this
 have hk := small_k hs (t := t) (by omega)
 have w1 : W ((o.n : Int) - 1) = (t : Int) := by rw [W_id ⟨by omega, by omega⟩]; omega
 have key : L71x0 (o, ((), ((t : Int), (s, ())))) ((0 : Int), ()) = bif (List.range (s.1.g t).2.1.n).all (fun i => (anc (rowsL o) t i).tail.all fun p => togB (ofS s) (t, i) p) then .exit 0 () else LQ.ret (wy := wv71x0) (show (patsTy wv71x0.ret).den from (false, ())) := by
  unfold L71x0
  refine iterQ_all (ps := vs71x0) (n := (s.1.g t).2.1.n) (f := fun j => ((j : Int), ())) (c := fun i => (anc (rowsL o) t i).tail.all fun p => togB (ofS s) (t, i) p) (by unfold big; omega) (fun j hj _ => ?_) (fun _ => ?_)
  ·unfold S71x0 Z71x0
   have hj' : j < (o.g t).1.n := by rw [hlen]; exact hj
   refine (bif_t (decide_eq_true (idx_ok hto))).trans ?_
   refine (bif_t (decide_eq_true (lt_ok hj'))).trans ?_
   have hc := L71xchain hs hP hto hj t j big (Nat.le_refl _) hj (by unfold big; omega)
   have hc : L71x0x0 (o, ((), ((t : Int), ((j : Int), (s, ()))))) ((t : Int), ((j : Int), ())) = _ := hc
   revert hc
   cases (anc (rowsL o) t j).tail.all (fun p => togB (ofS s) (t, j) p) with
   | true =>
    intro hc
    refine (onExit_of hc).trans ?_
    exact congrArg (fun q : Int => (RQ.next (show (patsTy vs71x0).den from (q, ())) : RQ vs71x0 wv71x0)) (W_nat hj (by omega))
   | false =>
    intro hc
    refine (congrArg (fun o => onExit o 2 _ (onRet o _ _)) hc).trans ?_
    rfl
  ·unfold S71x0 Z71x0
   refine (bif_t (decide_eq_true (idx_ok hto))).trans ?_
   have : ¬ (((s.1.g t).2.1.n : Int) < ((o.g t).1.n : Int)) := by omega
   exact bif_f (decide_eq_false this)
 unfold M71 Q71
 have hch : chB (ofS s) (rowsL o) = (List.range (s.1.g t).2.1.n).all (fun i => (anc (rowsL o) t i).tail.all fun p => togB (ofS s) (t, i) p) := by
  unfold chB
  rw [rowsL_len, ht, Nat.add_sub_cancel, rowsL_getD hto, listOf_len, hlen]
 have key' : L71x0 (o, ((), (W ((o.n : Int) - 1), (s, ())))) ((0 : Int), ()) = bif (List.range (s.1.g t).2.1.n).all (fun i => (anc (rowsL o) t i).tail.all fun p => togB (ofS s) (t, i) p) then .exit 0 () else LQ.ret (wy := wv71x0) (show (patsTy wv71x0.ret).den from (false, ())) := by rw [w1]; exact key
 rw [hch]
 revert key'
 cases (List.range (s.1.g t).2.1.n).all (fun i => (anc (rowsL o) t i).tail.all fun p => togB (ofS s) (t, i) p) with
 | true => intro h; exact onExit_of h
 | false => intro h; refine (congrArg (fun o => onExit o 0 _ (onRet o _ _)) h).trans ?_; rfl
end Go.Dm

/- The reference: what links must keep. -/
import Derived.Test.YtadkaccpacpklaaL4LP6
set_option linter.unusedVariables false
set_option linter.unusedSimpArgs false
namespace Go.Dm
set_option maxRecDepth 100000
open Go.Low
variable {s : tS.den}
theorem rowsL_getD {o : rowsT} {t : Nat} (h : t < o.n) : (rowsL o).getD t [] = listOf (o.g t).1 := by
 rw [List.getD_eq_getElem?_getD, rowsL_get h]; rfl
theorem take_succ_get {o : rowsT} {t : Nat} (h : t < o.n) : (rowsL o).take (t + 1) = (rowsL o).take t ++ [listOf (o.g t).1] := by
 rw [List.take_add_one, rowsL_get h]; rfl
theorem take_len {o : rowsT} {t : Nat} (h : t ≤ o.n) : ((rowsL o).take t).length = t := by rw [List.length_take, rowsL_len]; omega
theorem getD_take {L : LL} {t j : Nat} (h : t < j) : (L.take j).getD t [] = L.getD t [] := by
 simp only [List.getD_eq_getElem?_getD]
 rw [List.getElem?_take_of_lt h]
theorem bornR_snoc (r : List Int) (x : Int) : bornR (r ++ [x]) = bornR r + (bif decide (x = -1) then 1 else 0) := by
 unfold bornR
 rw [List.count_append]
 congr 1
theorem take_listOf {r : Sl tL1.den} {j : Nat} (h : j < r.n) : (listOf r).take (j + 1) = (listOf r).take j ++ [(show Int from (r.g j).1)] := by
 rw [List.take_add_one, listOf_get, if_pos h]; rfl
theorem L56xin {o : rowsT} {t : Nat} (ht : t < o.n) (hk : (o.g t).1.n ≤ 3) {c0 : Nat} (hc : c0 ≤ 100) :
    L56x0x0 (o, ((t : Int), ())) ((c0 : Int), ((0 : Int), ())) = .exit 2 (((c0 + bornR (listOf (o.g t).1) : Nat) : Int), ()) := by
  unfold L56x0x0
  have hb : ∀ j, bornR ((listOf (o.g t).1).take j) ≤ j := fun j => by
    unfold bornR
    exact Nat.le_trans List.count_le_length (by rw [List.length_take]; omega)
  have e2 : (listOf (o.g t).1).take (o.g t).1.n = listOf (o.g t).1 := List.take_of_length_le (by rw [listOf_len]; exact Nat.le_refl _)
  have key : iterQ (S56x0x0 (o, ((t : Int), ()))) big (((c0 + bornR ((listOf (o.g t).1).take 0) : Nat) : Int), ((0 : Int), ())) = .exit 2 (((c0 + bornR ((listOf (o.g t).1).take (o.g t).1.n) : Nat) : Int), ()) := by
   refine iterQ_steps (ps := vs56x0x0) (o.g t).1.n big (fun j => (((c0 + bornR ((listOf (o.g t).1).take j) : Nat) : Int), ((j : Int), ()))) (by unfold big; omega) (fun j hj => ?_) ?_
   · unfold S56x0x0 Z56x0x0
     refine (bif_t (decide_eq_true (idx_ok ht))).trans ?_
     refine (bif_t (decide_eq_true (lt_ok hj))).trans ?_
     refine (bif_t (decide_eq_true (idx_ok ht))).trans ?_
     refine (bif_t (decide_eq_true (idx_ok hj))).trans ?_
     have hbj := hb j
     have w1 : W ((j : Int) + 1) = ((j + 1 : Nat) : Int) := W_nat hj (by omega)
     have hs := bornR_snoc ((listOf (o.g t).1).take j) (show Int from ((o.g t).1.g j).1)
     rw [← take_listOf hj] at hs
     cases hd : decide ((show Int from ((o.g t).1.g j).1) = -1) with
     | true =>
       rw [hd, cond_true] at hs
       refine (bif_t hd).trans ?_
       have w2 : W (((c0 + bornR ((listOf (o.g t).1).take j) : Nat) : Int) + 1) = ((c0 + bornR ((listOf (o.g t).1).take (j + 1)) : Nat) : Int) := by rw [W_id ⟨by omega, by omega⟩, hs]; omega
       exact (congrArg (fun q : Int => (RQ.next (show (patsTy vs56x0x0).den from (q, (W ((j : Int) + 1), ()))) : RQ vs56x0x0 wv56x0x0)) w2).trans (congrArg (fun q : Int => (RQ.next (show (patsTy vs56x0x0).den from (((c0 + bornR ((listOf (o.g t).1).take (j + 1)) : Nat) : Int), (q, ()))) : RQ vs56x0x0 wv56x0x0)) w1)
     | false =>
       rw [hd, cond_false, Nat.add_zero] at hs
       refine (bif_f hd).trans ?_
       rw [hs]
       exact congrArg (fun q : Int => (RQ.next (show (patsTy vs56x0x0).den from (((c0 + bornR ((listOf (o.g t).1).take j) : Nat) : Int), (q, ()))) : RQ vs56x0x0 wv56x0x0)) w1
   · unfold S56x0x0 Z56x0x0
     refine (bif_t (decide_eq_true (idx_ok ht))).trans ?_
     have : ¬ (((o.g t).1.n : Int) < ((o.g t).1.n : Int)) := by omega
     exact bif_f (decide_eq_false this)
  rw [e2] at key
  exact key
theorem bornL_le {o : rowsT} (hk : ∀ t, t < o.n → (o.g t).1.n ≤ 3) : ∀ j, j + 1 ≤ o.n → bornL ((rowsL o).take (j + 1)) ≤ 3 * j
 | 0, h => by
  have : (rowsL o).take 1 = [listOf (o.g 0).1] := by have := take_succ_get (o := o) (t := 0) (by omega); simpa using this
  show bornL ((rowsL o).take 1) ≤ 0
  rw [this]; exact Nat.le_refl _
 | j + 1, h => by
  rw [take_succ_get (by omega), bornL_app (by rw [take_len (by omega)]; omega)]
  have h1 := bornL_le hk j (by omega)
  have h2 : bornR (listOf (o.g (j + 1)).1) ≤ (listOf (o.g (j + 1)).1).length := List.count_le_length
  rw [listOf_len] at h2
  have := hk (j + 1) (by omega)
  omega
theorem M56xe {o : rowsT} (h1 : 0 < o.n) (hn : o.n ≤ 4) (hk : ∀ t, t < o.n → (o.g t).1.n ≤ 3) : M56 (no_index (o, ())) = some (((bornL (rowsL o) : Nat) : Int), ()) := by
 obtain ⟨n, hn1⟩ : ∃ n, o.n = n + 1 := ⟨o.n - 1, by omega⟩
 have key : L56x0 (o, ()) ((0 : Int), ((1 : Int), ())) = .exit 0 (((bornL ((rowsL o).take (n + 1)) : Nat) : Int), ()) := by
  unfold L56x0
  have b0 : bornL ((rowsL o).take 1) = 0 := Nat.le_zero.1 (bornL_le hk 0 (by omega))
  have := iterQ_steps (step := S56x0 (o, ())) n big (fun j => (((bornL ((rowsL o).take (j + 1)) : Nat) : Int), (((j + 1 : Nat) : Int), ()))) (by unfold big; omega) (fun j hj => by
   unfold S56x0 Z56x0
   have hj1 : j + 1 < o.n := by omega
   refine (bif_t (decide_eq_true (lt_ok hj1))).trans ?_
   have hle := bornL_le hk j (by omega)
   refine (onExit_of (L56xin hj1 (hk _ hj1) (c0 := bornL ((rowsL o).take (j + 1))) (by omega))).trans ?_
   have e : bornL ((rowsL o).take (j + 1)) + bornR (listOf (o.g (j + 1)).1) = bornL ((rowsL o).take (j + 1 + 1)) := by
    rw [take_succ_get hj1, bornL_app (by rw [take_len (by omega)]; omega)]
   rw [e]
   exact congrArg (fun q : Int => (RQ.next (show (patsTy vs56x0).den from (((bornL ((rowsL o).take (j + 1 + 1)) : Nat) : Int), (q, ()))) : RQ vs56x0 wv56x0)) (W_nat hj1 (by omega))) (q := .exit 0 (((bornL ((rowsL o).take (n + 1)) : Nat) : Int), ())) (by
   unfold S56x0 Z56x0
   have : ¬ (((n + 1 : Nat) : Int) < (o.n : Int)) := by omega
   exact bif_f (decide_eq_false this))
  have e0 : (((bornL ((rowsL o).take (0 + 1)) : Nat) : Int), (((0 + 1 : Nat) : Int), ())) = ((0 : Int), ((1 : Int), ())) := by
   show (((bornL ((rowsL o).take 1) : Nat) : Int), ((1 : Int), ())) = _
   rw [b0]; rfl
  rw [← e0]
  exact this
 unfold M56 Q56
 refine (onExit_of key).trans ?_
 rw [List.take_of_length_le (by rw [rowsL_len]; omega)]
theorem L61xin {o : rowsT} {t : Nat} (ht : t + 1 < o.n) (hn : o.n ≤ 4) (hk : ∀ t, t < o.n → (o.g t).1.n ≤ 3) {c0 : Nat} (hc : c0 ≤ 100) :
  L61x0x0 (o, (((t + 1 : Nat) : Int), ())) ((c0 : Int), ((0 : Int), ())) = .exit 2 (((c0 + miss (o.g t).1.n (listOf (o.g (t + 1)).1) : Nat) : Int), ()) := by
 unfold L61x0x0
 have hm : ∀ j r, miss j r ≤ j := fun j r => by
  unfold miss
  exact Nat.le_trans (List.length_filter_le _ _) (by simp)
 have hk0 := hk t (by omega)
 have hk1 := hk (t + 1) ht
 have wp := wpred (n := o.n) (by omega) ht
 have e4 : ∀ {α : Type} (x y : α), (bif decide ((0 : Int) ≤ W (((t + 1 : Nat) : Int) - 1) ∧ W (((t + 1 : Nat) : Int) - 1) < (o.n : Int)) then x else y) = x := fun x y => by rw [wp]; exact bif_t (decide_eq_true (idx_ok (Nat.lt_of_succ_lt ht)))
 have e5 : ∀ {α : Type} (j : Nat) (x y : α), (bif decide ((j : Int) < (((o.g (Int.toNat (W (((t + 1 : Nat) : Int) - 1)))).1.n : Nat) : Int)) then x else y) = (bif decide ((j : Int) < (((o.g t).1.n : Nat) : Int)) then x else y) := fun j x y => by rw [wp]; rfl
 refine iterQ_steps (ps := vs61x0x0) (o.g t).1.n big (fun j => (((c0 + miss j (listOf (o.g (t + 1)).1) : Nat) : Int), ((j : Int), ()))) (by unfold big; omega) (fun j hj => ?_) ?_
 ·unfold S61x0x0 Z61x0x0
  refine (e4 _ _).trans ?_
  refine (e5 j _ _).trans ?_
  refine (bif_t (decide_eq_true (lt_ok hj))).trans ?_
  refine (bif_t (decide_eq_true (idx_ok ht))).trans ?_
  refine (cl_of (M73xe (o.g (t + 1)).1 (by omega) (j : Int))).trans ?_
  have hmj := hm j (listOf (o.g (t + 1)).1)
  have hs := miss_succ j (listOf (o.g (t + 1)).1)
  have w1 : W ((j : Int) + 1) = ((j + 1 : Nat) : Int) := W_nat hj (by omega)
  cases hd : has (listOf (o.g (t + 1)).1) (j : Int) with
  | true =>
   rw [hd, cond_true, Nat.add_zero] at hs
   rw [hs]
   exact congrArg (fun q : Int => (RQ.next (show (patsTy vs61x0x0).den from (((c0 + miss j (listOf (o.g (t + 1)).1) : Nat) : Int), (q, ()))) : RQ vs61x0x0 wv61x0x0)) w1
  | false =>
   rw [hd, cond_false] at hs
   have w2 : W (((c0 + miss j (listOf (o.g (t + 1)).1) : Nat) : Int) + 1) = ((c0 + miss (j + 1) (listOf (o.g (t + 1)).1) : Nat) : Int) := by rw [W_id ⟨by omega, by omega⟩, hs]; omega
   exact (congrArg (fun q : Int => (RQ.next (show (patsTy vs61x0x0).den from (q, (W ((j : Int) + 1), ()))) : RQ vs61x0x0 wv61x0x0)) w2).trans (congrArg (fun q : Int => (RQ.next (show (patsTy vs61x0x0).den from (((c0 + miss (j + 1) (listOf (o.g (t + 1)).1) : Nat) : Int), (q, ()))) : RQ vs61x0x0 wv61x0x0)) w1)
 ·unfold S61x0x0 Z61x0x0
  refine (e4 _ _).trans ?_
  refine (e5 _ _ _).trans ?_
  have : ¬ (((o.g t).1.n : Int) < ((o.g t).1.n : Int)) := by omega
  exact bif_f (decide_eq_false this)
theorem goneL_step {o : rowsT} {j : Nat} (hj : j + 1 < o.n) : goneL ((rowsL o).take (j + 1 + 1)) = goneL ((rowsL o).take (j + 1)) + miss (o.g j).1.n (listOf (o.g (j + 1)).1) := by
 rw [take_succ_get hj, goneL_app (by rw [take_len (by omega)]; omega), take_len (by omega), Nat.add_sub_cancel, getD_take (by omega), rowsL_getD (by omega), listOf_len]
theorem goneL_le {o : rowsT} (hk : ∀ t, t < o.n → (o.g t).1.n ≤ 3) : ∀ j, j + 1 ≤ o.n → goneL ((rowsL o).take (j + 1)) ≤ 3 * j
 | 0, h => by
  have : (rowsL o).take 1 = [listOf (o.g 0).1] := by have := take_succ_get (o := o) (t := 0) (by omega); simpa using this
  show goneL ((rowsL o).take 1) ≤ 0
  rw [this]; exact Nat.le_refl _
 | j + 1, h => by
  rw [goneL_step (by omega)]
  have h1 := goneL_le hk j (by omega)
  have h2 : miss (o.g j).1.n (listOf (o.g (j + 1)).1) ≤ (o.g j).1.n := by
   unfold miss
   exact Nat.le_trans (List.length_filter_le _ _) (by simp)
  have := hk j (by omega)
  omega
theorem M61xe {o : rowsT} (h1 : 0 < o.n) (hn : o.n ≤ 4) (hk : ∀ t, t < o.n → (o.g t).1.n ≤ 3) : M61 (no_index (o, ())) = some (((goneL (rowsL o) : Nat) : Int), ()) := by
 obtain ⟨n, hn1⟩ : ∃ n, o.n = n + 1 := ⟨o.n - 1, by omega⟩
 have key : L61x0 (o, ()) ((0 : Int), ((1 : Int), ())) = .exit 0 (((goneL ((rowsL o).take (n + 1)) : Nat) : Int), ()) := by
  unfold L61x0
  have b0 : goneL ((rowsL o).take 1) = 0 := Nat.le_zero.1 (goneL_le hk 0 (by omega))
  have := iterQ_steps (step := S61x0 (o, ())) n big (fun j => (((goneL ((rowsL o).take (j + 1)) : Nat) : Int), (((j + 1 : Nat) : Int), ()))) (by unfold big; omega) (fun j hj => by
   unfold S61x0 Z61x0
   have hj1 : j + 1 < o.n := by omega
   refine (bif_t (decide_eq_true (lt_ok hj1))).trans ?_
   have hle := goneL_le hk j (by omega)
   refine (onExit_of (L61xin hj1 hn hk (c0 := goneL ((rowsL o).take (j + 1))) (by omega))).trans ?_
   rw [← goneL_step hj1]
   exact congrArg (fun q : Int => (RQ.next (show (patsTy vs61x0).den from (((goneL ((rowsL o).take (j + 1 + 1)) : Nat) : Int), (q, ()))) : RQ vs61x0 wv61x0)) (W_nat hj1 (by omega))) (q := .exit 0 (((goneL ((rowsL o).take (n + 1)) : Nat) : Int), ())) (by
   unfold S61x0 Z61x0
   have : ¬ (((n + 1 : Nat) : Int) < (o.n : Int)) := by omega
   exact bif_f (decide_eq_false this))
  have e0 : (((goneL ((rowsL o).take (0 + 1)) : Nat) : Int), (((0 + 1 : Nat) : Int), ())) = ((0 : Int), ((1 : Int), ())) := by
   show (((goneL ((rowsL o).take 1) : Nat) : Int), ((1 : Int), ())) = _
   rw [b0]; rfl
  rw [← e0]
  exact this
 unfold M61 Q61
 refine (onExit_of key).trans ?_
 rw [List.take_of_length_le (by rw [rowsL_len]; omega)]
end Go.Dm

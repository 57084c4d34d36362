/- The reference: choices of links. -/
import Derived.Test.YtadkaccpacpklaaL4LP5
set_option linter.unusedVariables false
set_option linter.unusedSimpArgs false
namespace Go.Dm
set_option maxRecDepth 100000
open Go.Low
theorem M73xe (r : Sl tL1.den) (hr : r.n ≤ 140737488355328) (x : Int) : M73 (no_index (r, (x, ()))) = some (has (listOf r) x, ()) := by
 unfold M73 Q73
 have key : L73x0 (r, (x, ())) ((0 : Int), ()) = match fstN (fun j => decide ((show Int from (r.g j).1) = x)) r.n with | some k => LQ.ret (wy := wv73x0) (show (patsTy wv73x0.ret).den from (true, ())) | none => .exit 0 () := by
  unfold L73x0
  refine iterQ_find (ps := vs73x0) (n := r.n) (f := fun j => ((j : Int), ())) (qr := fun k => LQ.ret (wy := wv73x0) (show (patsTy wv73x0.ret).den from (true, ()))) (big_lt hr) (fun j hj _ => ?_) (fun _ => ?_)
  ·unfold S73x0 Z73x0
   refine (bif_t (decide_eq_true (lt_ok hj))).trans ?_
   refine (bif_t (decide_eq_true (idx_ok hj))).trans ?_
   cases hd : decide ((show Int from (r.g j).1) = x) with
   | true => exact bif_t hd
   | false =>
    refine (bif_f hd).trans ?_
    exact congrArg (fun q : Int => (RQ.next (show (patsTy vs73x0).den from (q, ())) : RQ vs73x0 wv73x0)) (W_nat hj hr)
  ·unfold S73x0 Z73x0
   have : ¬ ((r.n : Int) < (r.n : Int)) := by omega
   exact bif_f (decide_eq_false this)
 have hh : has (listOf r) x = (fstN (fun j => decide ((show Int from (r.g j).1) = x)) r.n).isSome := by
  rw [Bool.eq_iff_iff, has_iff]
  cases h : fstN (fun j => decide ((show Int from (r.g j).1) = x)) r.n with
  | some k =>
   obtain ⟨h1, h2, _⟩ := fstN_some h
   have h2 := of_decide_eq_true h2
   exact ⟨fun _ => rfl, fun _ => ⟨k, by rw [listOf_get, if_pos h1]; exact congrArg some h2⟩⟩
  | none =>
   have hn := fstN_none h
   refine ⟨fun ⟨i, hi⟩ => ?_, fun h => by cases h⟩
   rw [listOf_get] at hi
   split at hi
   ·rename_i hlt
    have := hn i hlt
    rw [decide_eq_false_iff_not] at this
    exact absurd (Option.some.inj hi) this
   ·cases hi
 rw [hh]
 revert key
 cases fstN (fun j => decide ((show Int from (r.g j).1) = x)) r.n with
 | some k => intro key; refine (congrArg (fun o => onExit o 0 _ (onRet o _ _)) key).trans ?_; rfl
 | none => intro key; refine (congrArg (fun o => onExit o 0 _ (onRet o _ _)) key).trans ?_; rfl
theorem listOf_snoc (r : Sl tL1.den) (x : Int) : listOf (snoc r (x, ())) = listOf r ++ [x] := by
 unfold listOf
 rw [snoc_n, List.range_succ, List.map_append]
 congr 1
 ·exact List.map_congr_left fun i hi => by rw [snoc_lt (List.mem_range.1 hi)]
 ·simp only [List.map_cons, List.map_nil]
  rw [snoc_at]
theorem rowsL_snoc (o : rowsT) (y : Sl tL1.den) : rowsL (snoc o (y, ())) = rowsL o ++ [listOf y] := by
 unfold rowsL
 rw [snoc_n, List.range_succ, List.map_append]
 congr 1
 ·exact List.map_congr_left fun i hi => by rw [snoc_lt (List.mem_range.1 hi)]
 ·simp only [List.map_cons, List.map_nil]
  rw [snoc_at]
theorem rowsL_len (o : rowsT) : (rowsL o).length = o.n := by simp [rowsL]
theorem rowsL_get {o : rowsT} {i : Nat} (h : i < o.n) : (rowsL o)[i]? = some (listOf (o.g i).1) := by
 unfold rowsL
 rw [List.getElem?_map, List.getElem?_range h]; rfl
theorem bfsC_succ (before : Nat) : ∀ (m : Nat) (out : LL), bfsC before (m + 1) out = (bfsC before m out).flatMap (stepC before)
 | 0, out => rfl
 | m + 1, out => by rw [bfsC, bfsC_succ before m]; rfl
theorem stepC_len {before : Nat} {r : List Int} : (stepC before r).length ≤ before + 1 := by
 unfold stepC
 rw [List.length_cons]
 have : ∀ l : List Nat, (l.flatMap fun b : Nat => if has r (b : Int) then [] else [r ++ [(b : Int)]]).length ≤ l.length := by
  intro l
  induction l with
  | nil => exact Nat.le_refl _
  | cons a l ih =>
   rw [List.flatMap_cons, List.length_append, List.length_cons]
   split
   ·rw [List.length_nil]; omega
   ·rw [List.length_singleton]; omega
 have := this (List.range before)
 rw [List.length_range] at this
 omega
theorem flat_len {α β : Type} {l : List α} {f : α → List β} {k : Nat} (h : ∀ a ∈ l, (f a).length ≤ k) : (l.flatMap f).length ≤ k * l.length := by
 induction l with
 | nil => simp
 | cons a l ih =>
  rw [List.flatMap_cons, List.length_append, List.length_cons, Nat.mul_succ]
  have := h a (.head _)
  have := ih fun b hb => h b (.tail _ hb)
  omega
theorem bfsC_len {before : Nat} (hb : before ≤ 3) : ∀ m, (bfsC before m [[]]).length ≤ 4 ^ m
 | 0 => by simp [bfsC]
 | m + 1 => by
  rw [bfsC_succ]
  have h1 := flat_len (l := bfsC before m [[]]) (f := stepC before) (k := 4) fun a _ => Nat.le_trans stepC_len (by omega)
  have h2 := bfsC_len hb m
  rw [Nat.pow_succ]
  omega
theorem mem_bfsC {before m : Nat} {x : List Int} (h : x ∈ bfsC before m [[]]) : x.length = m := by
 rw [bfsC_eq] at h
 simp only [List.flatMap_cons, List.flatMap_nil, List.append_nil] at h
 have := (choiF_pre h).2
 simpa using this
theorem L70xin {k before low : Int} {out : rowsT} {i b : Nat} (hi : i < out.n) (hb : before = (b : Int)) (hb3 : b ≤ 3) (hrow : (out.g i).1.n ≤ 1000) (nx0 : rowsT) (hn0 : nx0.n ≤ 1000000) :
    ∃ nx : rowsT, L70x0x0x0 (k, (before, (out, (low, ((i : Int), ()))))) (nx0, ((-1 : Int), ())) = .exit 4 (nx, ()) ∧ rowsL nx = rowsL nx0 ++ stepC b (listOf (out.g i).1) := by
  subst hb
  unfold L70x0x0x0
  have e : Int.toNat (i : Int) = i := rfl
  have h8 : (out.g i).1.n * 8 ≤ 140737488355328 := by omega
  have h9 : ((out.g i).1.n + 1) * 8 ≤ 140737488355328 := by omega
  obtain ⟨v, ⟨nx, hv, h1⟩, h2⟩ := iterQ_rel (step := S70x0x0x0 (k, ((b : Int), (out, (low, ((i : Int), ())))))) (N := big)
    (P := fun j v => ∃ nx : rowsT, v = (nx, ((j : Int) - 1, ())) ∧ rowsL nx = rowsL nx0 ++ match j with | 0 => [] | j + 1 => stepC j (listOf (out.g i).1))
    (q := fun v => .exit 4 (v.1, ())) (b + 1) (by unfold big; omega) (fun j v hj hp => by
      obtain ⟨nx, rfl, h1⟩ := hp
      have hlen : nx.n ≤ nx0.n + 4 := by
        have := congrArg List.length h1
        rw [List.length_append, rowsL_len, rowsL_len] at this
        cases j with
        | zero => simp at this; omega
        | succ j =>
          have h3 := stepC_len (before := j) (r := listOf (out.g i).1)
          simp only at this
          omega
      have h24 : (nx.n + 1) * 24 ≤ 140737488355328 := by omega
      have hlt : (j : Int) - 1 < (b : Int) := by omega
      have w1 : W ((j : Int) - 1 + 1) = ((j + 1 : Nat) : Int) - 1 := by rw [W_id ⟨by omega, by omega⟩]; omega
      cases j with
      | zero =>
        have hneg : ((0 : Nat) : Int) - 1 < 0 := by omega
        refine ⟨(snoc nx (snoc (out.g i).1 (((0 : Nat) : Int) - 1, ()), ()), (((0 + 1 : Nat) : Int) - 1, ())), ?_, _, rfl, ?_⟩
        · unfold S70x0x0x0 Z70x0x0x0
          refine (bif_t (decide_eq_true hlt)).trans ?_
          refine (bif_t (decide_eq_true hneg)).trans ?_
          refine (bif_t (decide_eq_true (idx_ok hi))).trans ?_
          refine (bif_t (decide_eq_true h8)).trans ?_
          refine (bif_t (decide_eq_true h9)).trans ?_
          refine (bif_t (decide_eq_true h24)).trans ?_
          exact congrArg (fun q : Int => (RQ.next (show (patsTy vs70x0x0x0).den from (snoc nx (snoc (out.g i).1 (((0 : Nat) : Int) - 1, ()), ()), (q, ()))) : RQ vs70x0x0x0 wv70x0x0x0)) w1
        · rw [rowsL_snoc, listOf_snoc, h1, List.append_nil]
          rfl
      | succ j =>
        have hneg : ¬ (((j + 1 : Nat) : Int) - 1 < 0) := by omega
        have ej : ((j + 1 : Nat) : Int) - 1 = (j : Int) := by omega
        have hM := M73xe (out.g i).1 (by omega) (((j + 1 : Nat) : Int) - 1)
        have hst : stepC (j + 1) (listOf (out.g i).1) = stepC j (listOf (out.g i).1) ++ if has (listOf (out.g i).1) (j : Int) then [] else [listOf (out.g i).1 ++ [(j : Int)]] := by
          simp only [stepC, List.range_succ, List.flatMap_append, List.flatMap_cons, List.flatMap_nil, List.append_nil, List.cons_append]
        cases hh : has (listOf (out.g i).1) (((j + 1 : Nat) : Int) - 1) with
        | true =>
          refine ⟨(nx, (((j + 1 + 1 : Nat) : Int) - 1, ())), ?_, nx, rfl, ?_⟩
          · unfold S70x0x0x0 Z70x0x0x0
            refine (bif_t (decide_eq_true hlt)).trans ?_
            refine (bif_f (decide_eq_false hneg)).trans ?_
            refine (bif_t (decide_eq_true (idx_ok hi))).trans ?_
            refine (cl_of hM).trans ?_
            rw [hh]
            exact congrArg (fun q : Int => (RQ.next (show (patsTy vs70x0x0x0).den from (nx, (q, ()))) : RQ vs70x0x0x0 wv70x0x0x0)) w1
          · rw [ej] at hh
            rw [h1]
            show _ = _ ++ stepC (j + 1) _
            rw [hst, hh, if_pos rfl, List.append_nil]
        | false =>
          refine ⟨(snoc nx (snoc (out.g i).1 (((j + 1 : Nat) : Int) - 1, ()), ()), (((j + 1 + 1 : Nat) : Int) - 1, ())), ?_, _, rfl, ?_⟩
          · unfold S70x0x0x0 Z70x0x0x0
            refine (bif_t (decide_eq_true hlt)).trans ?_
            refine (bif_f (decide_eq_false hneg)).trans ?_
            refine (bif_t (decide_eq_true (idx_ok hi))).trans ?_
            refine (cl_of hM).trans ?_
            rw [hh]
            refine (bif_t (decide_eq_true (idx_ok hi))).trans ?_
            refine (bif_t (decide_eq_true h8)).trans ?_
            refine (bif_t (decide_eq_true h9)).trans ?_
            refine (bif_t (decide_eq_true h24)).trans ?_
            exact congrArg (fun q : Int => (RQ.next (show (patsTy vs70x0x0x0).den from (snoc nx (snoc (out.g i).1 (((j + 1 : Nat) : Int) - 1, ()), ()), (q, ()))) : RQ vs70x0x0x0 wv70x0x0x0)) w1
          · rw [ej] at hh
            rw [rowsL_snoc, listOf_snoc, h1, ej]
            show _ = _ ++ stepC (j + 1) _
            rw [hst, hh, if_neg (by simp), List.append_assoc]) (fun v hp => by
      obtain ⟨nx, rfl, h1⟩ := hp
      unfold S70x0x0x0 Z70x0x0x0
      have : ¬ (((b + 1 : Nat) : Int) - 1 < (b : Int)) := by omega
      exact bif_f (decide_eq_false this)) (nx0, ((-1 : Int), ())) ⟨nx0, rfl, by rw [List.append_nil]⟩
  exact ⟨nx, h2.trans (by rw [hv]), h1⟩
theorem L70xmid {k before low : Int} {out : rowsT} {b m : Nat} (hb : before = (b : Int)) (hb3 : b ≤ 3) (hout : out.n ≤ 100000) (hrow : ∀ i, i < out.n → (out.g i).1.n ≤ 1000) :
    ∃ nx : rowsT, L70x0x0 (k, (before, (out, (low, ())))) ((⟨0, fun i => ((⟨0, fun i => ((0 : Int), ())⟩ : Sl _), ())⟩ : Sl _), ((0 : Int), ())) = .exit 2 (nx, ()) ∧ rowsL nx = (rowsL out).flatMap (stepC b) := by
  unfold L70x0x0
  obtain ⟨v, ⟨nx, hv, h1⟩, h2⟩ := iterQ_rel (step := S70x0x0 (k, (before, (out, (low, ()))))) (N := big)
    (P := fun j v => ∃ nx : rowsT, v = (nx, ((j : Int), ())) ∧ rowsL nx = ((rowsL out).take j).flatMap (stepC b))
    (q := fun v => .exit 2 (v.1, ())) out.n (by unfold big; omega) (fun j v hj hp => by
      obtain ⟨nx, rfl, h1⟩ := hp
      have hlen : nx.n ≤ 1000000 := by
        have := congrArg List.length h1
        rw [rowsL_len] at this
        have h3 := flat_len (l := (rowsL out).take j) (f := stepC b) (k := 4) fun a _ => Nat.le_trans stepC_len (by omega)
        rw [List.length_take, rowsL_len] at h3
        omega
      obtain ⟨nx', g1, g2⟩ := L70xin (k := k) (low := low) hj hb hb3 (hrow j hj) nx hlen
      refine ⟨(nx', (((j + 1 : Nat) : Int), ())), ?_, nx', rfl, ?_⟩
      · unfold S70x0x0 Z70x0x0
        refine (bif_t (decide_eq_true (lt_ok hj))).trans ?_
        refine (onExit_of g1).trans ?_
        exact congrArg (fun q : Int => (RQ.next (show (patsTy vs70x0x0).den from (nx', (q, ()))) : RQ vs70x0x0 wv70x0x0)) (W_nat hj (by omega))
      · rw [g2, h1, List.take_add_one, rowsL_get hj, List.flatMap_append]
        simp) (fun v hp => by
      obtain ⟨nx, rfl, h1⟩ := hp
      unfold S70x0x0 Z70x0x0
      have : ¬ ((out.n : Int) < (out.n : Int)) := by omega
      exact bif_f (decide_eq_false this)) ((⟨0, fun i => ((⟨0, fun i => ((0 : Int), ())⟩ : Sl _), ())⟩ : Sl _), ((0 : Int), ())) ⟨_, rfl, rfl⟩
  exact ⟨nx, h2.trans (by rw [hv]), by rw [h1, List.take_of_length_le (by rw [rowsL_len]; exact Nat.le_refl _)]⟩
theorem M70xe {k b : Nat} (hk : k ≤ 3) (hb : b ≤ 3) : ∃ rows : rowsT, M70 (no_index ((k : Int), ((b : Int), ()))) = some (rows, ()) ∧ rowsL rows = choiF b k [] ∧ rows.n ≤ 64 := by
  have key : ∃ rows : rowsT, L70x0 ((k : Int), ((b : Int), ())) ((⟨1, fun i => List.getD [((⟨0, fun i => ((0 : Int), ())⟩ : Sl _), ())] i ((⟨0, fun i => ((0 : Int), ())⟩ : Sl _), ())⟩ : Sl _), ((0 : Int), ())) = .exit 0 (rows, ()) ∧ rowsL rows = bfsC b k [[]] := by
    unfold L70x0
    obtain ⟨v, ⟨nx, hv, h1⟩, h2⟩ := iterQ_rel (step := S70x0 ((k : Int), ((b : Int), ()))) (N := big)
      (P := fun j v => ∃ nx : rowsT, v = (nx, ((j : Int), ())) ∧ rowsL nx = bfsC b j [[]])
      (q := fun v => .exit 0 (v.1, ())) k (by unfold big; omega) (fun j v hj hp => by
        obtain ⟨nx, rfl, h1⟩ := hp
        have hlen : nx.n ≤ 100000 := by
          have := congrArg List.length h1
          rw [rowsL_len] at this
          have h3 := bfsC_len hb j
          have h4 : 4 ^ j ≤ 4 ^ 3 := Nat.pow_le_pow_right (by omega) (by omega)
          omega
        have hrow : ∀ i, i < nx.n → (nx.g i).1.n ≤ 1000 := fun i hi => by
          have h3 := List.mem_of_getElem? (rowsL_get hi)
          rw [h1] at h3
          have h4 := mem_bfsC h3
          rw [listOf_len] at h4
          omega
        obtain ⟨nx', g1, g2⟩ := L70xmid (m := 0) (k := (k : Int)) (low := (j : Int)) (before := (b : Int)) rfl hb hlen hrow
        refine ⟨(nx', (((j + 1 : Nat) : Int), ())), ?_, nx', rfl, ?_⟩
        · unfold S70x0 Z70x0
          refine (bif_t (decide_eq_true (lt_ok hj))).trans ?_
          refine (onExit_of g1).trans ?_
          exact congrArg (fun q : Int => (RQ.next (show (patsTy vs70x0).den from (nx', (q, ()))) : RQ vs70x0 wv70x0)) (W_nat hj (by omega))
        · rw [g2, h1, bfsC_succ]) (fun v hp => by
        obtain ⟨nx, rfl, h1⟩ := hp
        unfold S70x0 Z70x0
        have : ¬ ((k : Int) < (k : Int)) := by omega
        exact bif_f (decide_eq_false this)) ((⟨1, fun i => List.getD [((⟨0, fun i => ((0 : Int), ())⟩ : Sl _), ())] i ((⟨0, fun i => ((0 : Int), ())⟩ : Sl _), ())⟩ : Sl _), ((0 : Int), ())) ⟨_, rfl, rfl⟩
    exact ⟨nx, h2.trans (by rw [hv]), h1⟩
  obtain ⟨rows, h1, h2⟩ := key
  refine ⟨rows, ?_, by rw [h2, bfsC_eq]; simp, ?_⟩
  · unfold M70 Q70
    exact onExit_of h1
  · have := congrArg List.length h2
    rw [rowsL_len] at this
    have h3 := bfsC_len hb k
    have h4 : 4 ^ k ≤ 4 ^ 3 := Nat.pow_le_pow_right (by omega) (by omega)
    omega
end Go.Dm

/- The search hands on just what the plain one lists. -/
import Derived.Test.YtadkaccpacpklaaL4LP3
set_option linter.unusedVariables false
set_option linter.unusedSimpArgs false
namespace Go.Dm
set_option maxRecDepth 100000
open Go.Low
variable {s : tS.den} {L : LL} {r : List Int} {same : sameT} {can : canT}
theorem measL_pos (p : PS) : ∀ m t, 1 ≤ measL p m t
 | 0, _ => Nat.le_refl _
 | m + 1, t => by have := measL_pos p m (t + 1); simp only [measL]; omega
theorem map_range_eq {α : Type} {l : List α} {d : α} {n : Nat} (hn : l.length = n) {f : Nat → α} (h : ∀ t, t < n → f t = l.getD t d) : (List.range n).map f = l := by
 apply List.ext_getElem?
 intro t
 rw [List.getElem?_map]
 by_cases ht : t < n
 ·rw [List.getElem?_range ht, Option.map_some, h t ht, List.getD_eq_getElem?_getD, List.getElem?_eq_getElem (by omega)]; rfl
 ·rw [List.getElem?_eq_none (by simpa using ht), List.getElem?_eq_none (by omega)]; rfl
theorem F109xe (hs : (ofS s).Ok) : ∀ (n : Nat) (L : LL) (r : List Int) (z : Sl tKy.den) (born gone : Int) (same : sameT) (can : canT),
  measL (ofS s) (s.1.n - L.length) L.length ≤ n + r.length → Shape s L r → Inv s L r same can → 0 ≤ born → born ≤ bnn s → 0 ≤ gone → gone ≤ gnn s →
  ∃ z' same' can' items, F109 n (mkX z L.length r.length born gone s same can) = some (resX z' s same' can') ∧ z'.list = z.list ++ items ∧ items.map toL = gen (ofS s) n born gone L r ∧ (∀ it ∈ items, Good s it) ∧ Inv s L r same' can' := by
 intro n
 induction n with
 | zero =>
  intro L r z born gone same can hm hh hi' _ _ _ _
  exfalso
  have h1 := measL_pos (ofS s) (s.1.n - L.length) L.length
  by_cases e : L.length = s.1.n
  ·rw [hh.r0 e] at hm; simp at hm; omega
  ·have hle := hh.le
   have hr := hh.rlen (by omega)
   obtain ⟨m, hmm⟩ : ∃ m, s.1.n - L.length = m + 1 := ⟨s.1.n - L.length - 1, by omega⟩
   rw [hmm] at hm
   have hk : (ofS s).k L.length = (s.1.g L.length).2.1.n := rfl
   simp only [measL, hk] at hm
   omega
 | succ n ih =>
  intro L r z born gone same can hm hh hi' hb0 hb1 hg0 hg1
  have hn4 := small_n hs
  have hbn : 0 ≤ bnn s ∧ bnn s ≤ 12 := hs.bn
  have hgn : 0 ≤ gnn s ∧ gnn s ≤ 12 := hs.gn
  have hle := hh.le
  have hpos := hh.pos
  obtain ⟨t0, ht0⟩ : ∃ t, L.length = t + 1 := ⟨L.length - 1, by omega⟩
  have ht1 : L.length - 1 = t0 := by omega
  have e0 : Int.toNat (L.length : Int) = L.length := rfl
  have e1 : Int.toNat (r.length : Int) = r.length := rfl
  have e3 : Int.toNat (t0 : Int) = t0 := rfl
  have eL : ((lookS s).1, ((lookS s).2.1, ((lookS s).2.2.1, ((lookS s).2.2.2.1, ((lookS s).2.2.2.2.1, ((), ())))))) = lookS s := rfl
  have nb : ∀ k : Nat, Nat.beq k k = true := Nat.beq_refl
  rw [gen]
  have hN : (ofS s).N = s.1.n := rfl
  have hK : ∀ t, (ofS s).k t = (s.1.g t).2.1.n := fun _ => rfl
  have hGo : (ofS s).gone = gnn s := rfl
  have hBo : (ofS s).born = bnn s := rfl
  by_cases e : L.length = s.1.n
  ·rw [hN, if_pos e]
   have hsk : ∀ t, t < same.n → (same.g t).n ≤ 3 := fun t ht => by
    rw [hi'.sn] at ht
    rw [hi'.sk t ht]; exact small_k hs ht
   obtain ⟨rows, q1, q2, q3⟩ := L109x0_e (s := s) (R := F109 n) (z := z) (can := can) (by rw [hi'.sn]; omega) hsk
   have hit : toL (itemOf s rows) = L := by
    show rowsL rows = L
    unfold rowsL
    rw [q1, hi'.sn]
    refine map_range_eq (d := []) e (fun t ht => ?_)
    obtain ⟨p1, p2⟩ := q2 t (by rw [hi'.sn]; exact ht)
    refine listOf_ext (by rw [p1, hi'.sk t ht, hh.len t (by omega)]) fun i hi2 => ?_
    rw [p1] at hi2
    rw [p2 i hi2]
    exact hi'.sL t (by omega) i (by rw [← hi'.sk t ht]; exact hi2)
   refine ⟨catSl z ⟨1, fun _ => itemOf s rows⟩, same, can, [itemOf s rows], ?_, list_append _ _, by rw [List.map_singleton, hit], fun it h => ?_, hi'⟩
   ·show U109 (F109 n) _ = _
    unfold U109 Q109 mkX
    have h1 : (L.length : Int) = (s.1.n : Int) := by omega
    simp only [decide_eq_true h1, cond_true]
    refine (onExit_of q3).trans ?_
    simp only [nb, cond_true]
    rfl
   ·simp only [List.mem_singleton] at h
    subst h
    refine ⟨rfl, by show rows.n = _; rw [q1, hi'.sn], fun t ht => ?_⟩
    show (rows.g t).1.n = _
    rw [(q2 t (by rw [hi'.sn]; exact ht)).1, hi'.sk t ht]
  ·have hlt : L.length < s.1.n := by omega
   rw [hN, if_neg e]
   have h1 : ¬ ((L.length : Int) = (s.1.n : Int)) := by omega
   have hrl := hh.rlen hlt
   have a1 : (0 : Int) ≤ (L.length : Int) ∧ (L.length : Int) < (s.1.n : Int) := idx_ok hlt
   have a0 : (0 : Int) ≤ (t0 : Int) ∧ (t0 : Int) < (s.1.n : Int) := idx_ok (by omega)
   have w2 : W ((L.length : Int) - 1) = (t0 : Int) := by rw [W_id ⟨by omega, by omega⟩]; omega
   have hk1 := small_k hs hlt
   have hk0 := small_k hs (t := t0) (by omega)
   obtain ⟨m, hmm⟩ : ∃ m, s.1.n - L.length = m + 1 := ⟨s.1.n - L.length - 1, by omega⟩
   by_cases e2 : r.length = (s.1.g L.length).2.1.n
   ·rw [hK, if_pos e2]
    have h2 : (r.length : Int) = (((s.1.g L.length).2.1.n : Nat) : Int) := by omega
    have hls : listOf (same.g L.length) = r := listOf_ext (by rw [hi'.sk _ hlt, e2]) fun i hi2 => hi'.sr i (by rw [hi'.sk _ hlt] at hi2; omega)
    have hL1 := L109x1_e hs (R := F109 n) (z := z) (s := s) (can := can) (born := born) (g0 := gone) (t := L.length) (k := (s.1.g t0).2.1.n) (same := same) (by rw [hi'.sn]; exact hlt) hk0 (by rw [hi'.sk _ hlt]; exact hk1) (by omega)
    rw [hls] at hL1
    have hmiss : miss (s.1.g t0).2.1.n r ≤ 3 := Nat.le_trans (Nat.le_trans (List.length_filter_le _ _) (by simp)) hk0
    rw [hK, hGo, ht1]
    by_cases e4 : gnn s < gone + (miss (s.1.g t0).2.1.n r : Nat)
    ·rw [if_pos e4]
     refine ⟨z, same, can, [], ?_, by simp, rfl, fun it h => by simp at h, hi'⟩
     show U109 (F109 n) _ = _
     unfold U109 Q109 mkX
     simp only [decide_eq_false h1, decide_eq_true a1, e0, decide_eq_true h2, w2, decide_eq_true a0, e3, cond_true, cond_false]
     refine (onExit_of hL1).trans ?_
     show (bif decide (gnn s < gone + (miss (s.1.g t0).2.1.n r : Nat)) then _ else _) = _
     rw [decide_eq_true e4, cond_true]
     simp only [nb, cond_true]
     rfl
    ·rw [if_neg e4]
     have hrow := hi'.row hh hlt e2
     have hlen : (L ++ [r]).length = L.length + 1 := by simp
     obtain ⟨z', same', can', items, f1, f2, f3, f4, f5⟩ := ih (L ++ [r]) [] z born (gone + (miss (s.1.g t0).2.1.n r : Nat)) same can (by
      rw [hlen]
      have : s.1.n - (L.length + 1) = m := by omega
      rw [this]
      rw [hmm] at hm
      simp only [measL, hK] at hm
      simp only [List.length_nil]
      omega) (hh.row hlt e2) hrow hb0 hb1 (by omega) (by omega)
     refine ⟨z', same', can', items, ?_, f2, f3, f4, f5.unrow e2⟩
     rw [hlen] at f1
     show U109 (F109 n) _ = _
     unfold U109 Q109 mkX
     have w3 : W ((L.length : Int) + 1) = ((L.length + 1 : Nat) : Int) := by rw [W_id ⟨by omega, by omega⟩]; rfl
     simp only [decide_eq_false h1, decide_eq_true a1, e0, decide_eq_true h2, w2, decide_eq_true a0, e3, cond_true, cond_false, w3]
     refine (onExit_of hL1).trans ?_
     show (bif decide (gnn s < gone + (miss (s.1.g t0).2.1.n r : Nat)) then _ else _) = _
     rw [decide_eq_false e4, cond_false]
     refine (cl_of f1).trans ?_
     simp only [cl_some, resX, f5.sn, f5.cn, hi'.sn, hi'.cn, nb, cond_true]
     rfl
   ·rw [hK, if_neg e2]
    have h2 : ¬ ((r.length : Int) = (((s.1.g L.length).2.1.n : Nat) : Int)) := by omega
    have hr : r.length < (s.1.g L.length).2.1.n := by omega
    have hmeas : ∀ c : Int, measL (ofS s) (s.1.n - L.length) L.length ≤ n + (r ++ [c]).length := fun c => by simp; omega
    have ihb : ∀ b : Nat, b < (s.1.g (L.length - 1)).2.1.n → ∀ z same can, Inv s L (r ++ [(b : Int)]) same can →
      ∃ z' same' can' items, F109 n (mkX z L.length ((r ++ [(b : Int)]).length : Nat) born gone s same can) = some (resX z' s same' can') ∧ z'.list = z.list ++ items ∧ items.map toL = gen (ofS s) n born gone L (r ++ [(b : Int)]) ∧ (∀ it ∈ items, Good s it) ∧ Inv s L (r ++ [(b : Int)]) same' can' :=
     fun b hb z same can hinv => ih L (r ++ [(b : Int)]) z born gone same can (hmeas _) (hh.push hlt hr (.inr ⟨by omega, by simpa using hb⟩)) hinv hb0 hb1 hg0 hg1
    rw [hBo, hK]
    by_cases e4 : born < bnn s
    ·rw [if_pos e4]
     have hlast : (r ++ [-1]).getD r.length (-1) = (-1 : Int) := by simp
     have hpush := hi'.push hh hlt hr (-1) (b := (s.1.g L.length).2.1.g r.length) (by
      rw [can_last ht0, hlast, if_neg (by omega), ht0]; rfl)
     obtain ⟨z1, same1, can1, items1, f1, f2, f3, f4, f5⟩ := ih L (r ++ [-1]) z (born + 1) gone _ _ (hmeas _) (hh.push hlt hr (.inl rfl)) hpush (by omega) (by omega) hg0 hg1
     have f5 := f5.pop hh
     obtain ⟨z2, same2, can2, items2, g1, g2, g3, g4, g5⟩ := L109x2_e hs hh hlt hr ihb z1 f5
     refine ⟨z2, same2, can2, items1 ++ items2, ?_, by rw [g2, f2, List.append_assoc], by rw [List.map_append, f3, g3], fun it h => (List.mem_append.1 h).elim (f4 it) (g4 it), g5⟩
     have hl2 : (r ++ [(-1 : Int)]).length = r.length + 1 := by simp
     rw [hl2] at f1
     rw [ht1] at g1
     show U109 (F109 n) _ = _
     unfold U109 Q109 mkX
     have w3 : W ((r.length : Int) + 1) = ((r.length + 1 : Nat) : Int) := by rw [W_id ⟨by omega, by omega⟩]; rfl
     have w4 : W (born + 1) = born + 1 := W_id ⟨by omega, by omega⟩
     have b1 : (0 : Int) ≤ (L.length : Int) ∧ (L.length : Int) < (same.n : Int) := idx_ok (by rw [hi'.sn]; exact hlt)
     have b2 : (0 : Int) ≤ (L.length : Int) ∧ (L.length : Int) < (can.n : Int) := idx_ok (by rw [hi'.cn]; exact hlt)
     have hsk := hi'.sk L.length hlt
     have hck := hi'.ck L.length hlt
     have b3 : (0 : Int) ≤ (r.length : Int) ∧ (r.length : Int) < ((same.g L.length).n : Int) := by omega
     have b4 : (0 : Int) ≤ (r.length : Int) ∧ (r.length : Int) < ((can.g L.length).n : Int) := by omega
     simp only [decide_eq_false h1, decide_eq_true a1, e0, decide_eq_false h2, cond_true, cond_false, decide_eq_true e4, decide_eq_true b1, decide_eq_true b2, eL, M94xe hlt hr, cl_some, e1, decide_eq_true b3, decide_eq_true b4, w3, w4, w2, decide_eq_true a0, e3]
     refine (bif_t (decide_eq_true e4)).trans ?_
     refine (cl_of f1).trans ?_
     simp only [cl_some, resX]
     refine (onExit_of g1).trans ?_
     simp only [ex2, g5.sn, g5.cn, hi'.sn, hi'.cn, nb, cond_true]
     rfl
    ·rw [if_neg e4, List.nil_append]
     obtain ⟨z2, same2, can2, items2, g1, g2, g3, g4, g5⟩ := L109x2_e hs hh hlt hr ihb z hi'
     refine ⟨z2, same2, can2, items2, ?_, g2, g3, g4, g5⟩
     rw [ht1] at g1
     show U109 (F109 n) _ = _
     unfold U109 Q109 mkX
     simp only [decide_eq_false h1, decide_eq_true a1, e0, decide_eq_false h2, cond_true, cond_false, decide_eq_false e4, w2, decide_eq_true a0, e3]
     refine (bif_f (decide_eq_false e4)).trans ?_
     refine (onExit_of g1).trans ?_
     simp only [ex2, g5.sn, g5.cn, hi'.sn, hi'.cn, nb, cond_true]
     rfl
end Go.Dm

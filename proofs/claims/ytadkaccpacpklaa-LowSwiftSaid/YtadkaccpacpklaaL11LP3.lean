/- The search hands on just what the plain one lists. -/
import Derived.Test.YtadkaccpacpklaaL11LP2
set_option linter.unusedVariables false
set_option linter.unusedSimpArgs false
namespace Go.Dm
set_option maxRecDepth 100000
open Go.Low
variable {s : tS.den} {L : LL} {r : List Int} {same : sameT} {can : canT}
theorem miss_succ (j : Nat) (r : List Int) : miss (j + 1) r = miss j r + (bif has r (j : Int) then 0 else 1) := by
 simp only [miss, List.range_succ, List.filter_append, List.length_append]
 congr 1
 cases h : has r (j : Int) <;> simp [h]
theorem L109x1_e (hs : (ofS s).Ok) {R : (patsTy ps109).den → Option (Ty.den (.cons (.sl tKy) (patsTy (objPats ps109))))} {z : Sl tKy.den} {born g0 : Int} {t k : Nat} (ht : t < same.n) (hk : k ≤ 3) (hn : (same.g t).n ≤ 3) (hg : 0 ≤ g0 ∧ g0 ≤ 1000) :
    L109x1 R (z, ((t : Int), (born, (s, ((), ((), ((), ((), ((k : Int), ((s, ()), (same, (can, ())))))))))))) (g0, ((0 : Int), (lookS s, (((), ()), (((), ()), ()))))) =
      .exit 2 (g0 + (miss k (listOf (same.g t)) : Nat), (lookS s, (((), ()), (((), ()), ())))) := by
  unfold L109x1
  have hm : ∀ j r, miss j r ≤ j := fun j r => by
    unfold miss
    exact Nat.le_trans (List.length_filter_le _ _) (by simp)
  have e0 : g0 + ((miss 0 (listOf (same.g t)) : Nat) : Int) = g0 := by
    have : miss 0 (listOf (same.g t)) = 0 := rfl
    rw [this]; omega
  have key : iterQ (S109x1 R (z, ((t : Int), (born, (s, ((), ((), ((), ((), ((k : Int), ((s, ()), (same, (can, ()))))))))))))) big (g0 + ((miss 0 (listOf (same.g t)) : Nat) : Int), ((0 : Int), (lookS s, (((), ()), (((), ()), ()))))) = .exit 2 (g0 + (miss k (listOf (same.g t)) : Nat), (lookS s, (((), ()), (((), ()), ())))) := by
   refine iterQ_steps (ps := vs109x1) k big (fun j => (g0 + ((miss j (listOf (same.g t)) : Nat) : Int), ((j : Int), (lookS s, (((), ()), (((), ()), ())))))) (by unfold big; omega) (fun j hj => ?_) ?_
   · unfold S109x1 Z109x1
     have e : Int.toNat (t : Int) = t := rfl
     have e2 : (⟨(same.g t).n, fun i => (same.g t).g i⟩ : Sl tL1.den) = same.g t := rfl
     have h3 := hm j (listOf (same.g t))
     have h4 := miss_succ j (listOf (same.g t))
     have h5 : (((j + 1 : Nat)) : Int) = (j : Int) + 1 := rfl
     simp only [decide_eq_true (lt_ok hj), decide_eq_true (idx_ok ht), e, e2, cond_true, M97xe _ (Nat.le_trans hn (by omega)), cl_some, h4]
     have w1 : W ((j : Int) + 1) = ((j + 1 : Nat) : Int) := by rw [W_id ⟨by omega, by omega⟩]; rfl
     have w2 : W (g0 + ((miss j (listOf (same.g t)) : Nat) : Int) + 1) = g0 + ((miss j (listOf (same.g t)) : Nat) : Int) + 1 := W_id ⟨by omega, by omega⟩
     cases has (listOf (same.g t)) (j : Int) with
     | true => simp only [Bool.not_true, cond_false, cond_true, w1, Nat.add_zero]
     | false =>
       simp only [Bool.not_false, cond_false, cond_true, w1, w2]
       have : g0 + ((miss j (listOf (same.g t)) + 1 : Nat) : Int) = g0 + ((miss j (listOf (same.g t)) : Nat) : Int) + 1 := by omega
       rw [this]
   · unfold S109x1 Z109x1
     have : ¬ ((k : Int) < (k : Int)) := by omega
     simp only [decide_eq_false this, cond_false]
     try rfl
  rw [e0] at key
  exact key
theorem L109x0_e {R : (patsTy ps109).den → Option (Ty.den (.cons (.sl tKy) (patsTy (objPats ps109))))} {z : Sl tKy.den} (hn : same.n ≤ 4) (hk : ∀ t, t < same.n → (same.g t).n ≤ 3) :
    ∃ rows : rowsT, rows.n = same.n ∧ (∀ t, t < same.n → (rows.g t).1.n = (same.g t).n ∧ ∀ i, i < (same.g t).n → (rows.g t).1.g i = (same.g t).g i) ∧
    L109x0 R (z, (s, ((), ((), ((), ((), ((), ((), ((same.n : Int), ((s, ()), (same, (can, ())))))))))))) ((0 : Int), (lookS s, (((), ()), (((), ()), ((s.1, (s.2.1, (s.2.2.1, (s.2.2.2.1, (s.2.2.2.2.1, ((⟨0, fun i => ((⟨0, fun i => ((0 : Int), ())⟩ : Sl _), ())⟩ : Sl _), ())))))), ()))))) =
      .exit 0 (lookS s, (((), ()), (((), ()), ((s.1, (s.2.1, (s.2.2.1, (s.2.2.2.1, (s.2.2.2.2.1, (rows, ())))))), ())))) := by
  unfold L109x0
  obtain ⟨v, ⟨rows, hv, h1, h2⟩, h3⟩ := iterQ_rel (step := S109x0 R (z, (s, ((), ((), ((), ((), ((), ((), ((same.n : Int), ((s, ()), (same, (can, ()))))))))))))) (N := big)
    (P := fun j v => ∃ rows : rowsT, v = ((j : Int), (lookS s, (((), ()), (((), ()), ((s.1, (s.2.1, (s.2.2.1, (s.2.2.2.1, (s.2.2.2.2.1, (rows, ())))))), ()))))) ∧ rows.n = j ∧ ∀ t, t < j → (rows.g t).1.n = (same.g t).n ∧ ∀ i, i < (same.g t).n → (rows.g t).1.g i = (same.g t).g i)
    (q := fun v => .exit 0 v.2) same.n (by unfold big; omega) (fun j v hj hp => by
      obtain ⟨rows, rfl, h1, h2⟩ := hp
      obtain ⟨y, y1, y2, y3⟩ := R110xe (⟨(same.g j).n, fun i => (same.g j).g i⟩ : Sl tL1.den) (Nat.le_trans (hk j hj) (by omega))
      have h24 : (rows.n + 1) * 24 ≤ 140737488355328 := by omega
      have e : Int.toNat (j : Int) = j := rfl
      have w1 : W ((j : Int) + 1) = ((j + 1 : Nat) : Int) := by rw [W_id ⟨by omega, by omega⟩]; rfl
      refine ⟨(((j + 1 : Nat) : Int), (lookS s, (((), ()), (((), ()), ((s.1, (s.2.1, (s.2.2.1, (s.2.2.2.1, (s.2.2.2.2.1, (snoc rows (y, ()), ())))))), ()))))), ?_, snoc rows (y, ()), rfl, by rw [snoc_n, h1], fun t ht => ?_⟩
      · unfold S109x0 Z109x0
        simp only [decide_eq_true (lt_ok hj), decide_eq_true (idx_ok hj), e, y1, cl_some, cond_true, decide_eq_true h24, w1]
        try rfl
      · by_cases e : t = j
        · subst e
          have := snoc_at rows (y, ())
          rw [h1] at this
          rw [this]
          exact ⟨y2, fun i hi' => y3 i hi'⟩
        · rw [snoc_lt (by omega)]
          exact h2 t (by omega)) (fun v hp => by
      obtain ⟨rows, rfl, h1, h2⟩ := hp
      unfold S109x0 Z109x0
      have : ¬ ((same.n : Int) < (same.n : Int)) := by omega
      simp only [decide_eq_false this, cond_false]
      try rfl) ((0 : Int), (lookS s, (((), ()), (((), ()), ((s.1, (s.2.1, (s.2.2.1, (s.2.2.2.1, (s.2.2.2.2.1, ((⟨0, fun i => ((⟨0, fun i => ((0 : Int), ())⟩ : Sl _), ())⟩ : Sl _), ())))))), ()))))) ⟨_, rfl, rfl, fun t ht => by omega⟩
  refine ⟨rows, h1, h2, h3.trans ?_⟩
  rw [hv]
def st2 (z : Sl tKy.den) (t i born gone : Int) (s : tS.den) (K b : Int) (same : sameT) (can : canT) : (patsTy ps109x2).den :=
 (z, (t, (i, (born, (gone, (s, ((), ((), ((), ((), (K, (b, (lookS s, (((), ()), ((s, ()), (((), ()), (same, (can, ()))))))))))))))))))
def ex2 (z : Sl tKy.den) (s : tS.den) (same : sameT) (can : canT) : (patsTy (wayP wy109x2 4)).den :=
 (z, (s, ((), ((), ((), ((), (lookS s, (((), ()), ((s, ()), (((), ()), (same, (can, ()))))))))))))
theorem L109x2_e (hs : (ofS s).Ok) (hh : Shape s L r) (hlt : L.length < s.1.n) (hr : r.length < (s.1.g L.length).2.1.n) {born gone : Int} {n : Nat}
    (ih : ∀ b : Nat, b < (s.1.g (L.length - 1)).2.1.n → ∀ z same can, Inv s L (r ++ [(b : Int)]) same can →
      ∃ z' same' can' items, F109 n (mkX z L.length ((r ++ [(b : Int)]).length : Nat) born gone s same can) = some (resX z' s same' can') ∧ z'.list = z.list ++ items ∧ items.map toL = gen (ofS s) n born gone L (r ++ [(b : Int)]) ∧ (∀ it ∈ items, Good s it) ∧ Inv s L (r ++ [(b : Int)]) same' can')
    (z : Sl tKy.den) (hi' : Inv s L r same can) :
    ∃ z' same' can' items, L109x2 (F109 n) (st2 z L.length r.length born gone s (((s.1.g (L.length - 1)).2.1.n : Nat) : Int) 0 same can) = .exit 4 (ex2 z' s same' can') ∧ z'.list = z.list ++ items ∧
      items.map toL = (List.range (s.1.g (L.length - 1)).2.1.n).flatMap (fun b : Nat => if has r (b : Int) then [] else
        if neB (inter ((ofS s).box L.length r.length) (wide (ofS s) (Low.can (ofS s) L (L.length - 1) b) ((ofS s).tm L.length - (ofS s).tm (L.length - 1)))) then gen (ofS s) n born gone L (r ++ [(b : Int)]) else []) ∧ (∀ it ∈ items, Good s it) ∧ Inv s L r same' can' := by
  obtain ⟨t0, ht0⟩ : ∃ t, L.length = t + 1 := ⟨L.length - 1, by have := hh.pos; omega⟩
  have hn4 := small_n hs
  have hk0 := small_k hs (t := t0) (by omega)
  have hk1 := small_k hs hlt
  have ht1 : L.length - 1 = t0 := by omega
  unfold L109x2
  obtain ⟨v, ⟨z', same', can', items, hv, h1, h2, h3, h4⟩, h5⟩ := iterQ_rel (step := S109x2 (F109 n)) (N := big)
    (P := fun j v => ∃ z' same' can' items, v = st2 z' L.length r.length born gone s (((s.1.g (L.length - 1)).2.1.n : Nat) : Int) (j : Int) same' can' ∧ z'.list = z.list ++ items ∧
      items.map toL = (List.range j).flatMap (fun b : Nat => if has r (b : Int) then [] else
        if neB (inter ((ofS s).box L.length r.length) (wide (ofS s) (Low.can (ofS s) L (L.length - 1) b) ((ofS s).tm L.length - (ofS s).tm (L.length - 1)))) then gen (ofS s) n born gone L (r ++ [(b : Int)]) else []) ∧ (∀ it ∈ items, Good s it) ∧ Inv s L r same' can')
    (q := fun v => .exit 4 (v.1, (v.2.2.2.2.2.1, ((), ((), ((), ((), (v.2.2.2.2.2.2.2.2.2.2.2.2.1, (((), ()), (v.2.2.2.2.2.2.2.2.2.2.2.2.2.2.1, (((), ()), v.2.2.2.2.2.2.2.2.2.2.2.2.2.2.2.2))))))))))) (s.1.g (L.length - 1)).2.1.n (by rw [ht1]; unfold big; omega) (fun j v hj hp => by
      obtain ⟨z1, same1, can1, items1, rfl, g1, g2, g3, g4⟩ := hp
      have hj3 : j < 3 := by rw [ht1] at hj; omega
      have e0 : Int.toNat (L.length : Int) = L.length := rfl
      have e1 : Int.toNat (r.length : Int) = r.length := rfl
      have e2 : Int.toNat (j : Int) = j := rfl
      have w1 : W ((j : Int) + 1) = ((j + 1 : Nat) : Int) := by rw [W_id ⟨by omega, by omega⟩]; rfl
      have w2 : W ((L.length : Int) - 1) = (t0 : Int) := by rw [W_id ⟨by omega, by omega⟩]; omega
      have e3 : Int.toNat (t0 : Int) = t0 := rfl
      have w3 : W ((r.length : Int) + 1) = ((r.length + 1 : Nat) : Int) := by rw [W_id ⟨by omega, by omega⟩]; rfl
      have a1 : (0 : Int) ≤ (L.length : Int) ∧ (L.length : Int) < (same1.n : Int) := idx_ok (by rw [g4.sn]; exact hlt)
      have a1c : (0 : Int) ≤ (L.length : Int) ∧ (L.length : Int) < (can1.n : Int) := idx_ok (by rw [g4.cn]; exact hlt)
      have hsk := g4.sk L.length hlt
      have hck := g4.ck L.length hlt
      have a2 : (0 : Int) ≤ (r.length : Int) ∧ (r.length : Int) ≤ ((same1.g L.length).n : Int) := by omega
      have a3 : (0 : Int) ≤ (t0 : Int) ∧ (t0 : Int) < (can1.n : Int) := idx_ok (by rw [g4.cn]; omega)
      have a4 : (0 : Int) ≤ (j : Int) ∧ (j : Int) < ((can1.g t0).n : Int) := idx_ok (by rw [g4.ck t0 (by omega), ← ht1]; exact hj)
      have a5 : (0 : Int) ≤ (r.length : Int) ∧ (r.length : Int) < ((same1.g L.length).n : Int) := by omega
      have a6 : (0 : Int) ≤ (r.length : Int) ∧ (r.length : Int) < ((can1.g L.length).n : Int) := by omega
      have hj0 : j < (s.1.g t0).2.1.n := by rw [← ht1]; exact hj
      have hcj : (can1.g t0).g j = Low.can (ofS s) L t0 j := g4.cL t0 (by omega) j hj0
      have hbx : inBox (Low.can (ofS s) L t0 j) := inBox_can hs hh t0 j (by omega) hj0
      have hpre := same_pre g4
      have key : S109x2 (F109 n) (st2 z1 L.length r.length born gone s (((s.1.g (L.length - 1)).2.1.n : Nat) : Int) (j : Int) same1 can1) =
          bif has r (j : Int) then .next (st2 z1 L.length r.length born gone s (((s.1.g (L.length - 1)).2.1.n : Nat) : Int) ((j + 1 : Nat) : Int) same1 can1)
          else bif neB (inter ((s.1.g L.length).2.1.g r.length) (wide (ofS s) (Low.can (ofS s) L t0 j) (mT s L.length - mT s t0))) then
            (match F109 n (mkX z1 L.length (r.length + 1 : Nat) born gone s (setSl same1 L.length (setSl (same1.g L.length) r.length ((j : Int), ()))) (setSl can1 L.length (setSl (can1.g L.length) r.length (inter ((s.1.g L.length).2.1.g r.length) (wide (ofS s) (Low.can (ofS s) L t0 j) (mT s L.length - mT s t0)))))) with
            | some u => .next (u.1, ((L.length : Int), ((r.length : Int), (born, (gone, (s, ((), ((), ((), ((), ((((s.1.g (L.length - 1)).2.1.n : Nat) : Int), (((j + 1 : Nat) : Int), (u.2.1, (((), ()), (u.2.2.2.1, (((), ()), u.2.2.2.2.2)))))))))))))))) 
            | none => .bad)
          else .next (st2 z1 L.length r.length born gone s (((s.1.g (L.length - 1)).2.1.n : Nat) : Int) ((j + 1 : Nat) : Int) same1 can1) := by
        unfold S109x2 Z109x2 st2
        have hM := M111xe hs (t := t0) (i := r.length) (by omega) (by rw [← ht0]; exact hr) hbx
        rw [← ht0] at hM
        have eL : ((lookS s).1, ((lookS s).2.1, ((lookS s).2.2.1, ((lookS s).2.2.2.1, ((lookS s).2.2.2.2.1, ((), ())))))) = lookS s := rfl
        simp only [decide_eq_true (lt_ok hj), decide_eq_true a1, decide_eq_true a2, e0, e1, e2, e3, w2, cond_true, M97xe (⟨r.length, fun i => (same1.g L.length).g i⟩ : Sl tL1.den) (show r.length ≤ 140737488355328 by omega), hpre, cl_some, decide_eq_true a3, decide_eq_true a4, hcj, eL, hM]
        cases has r (j : Int) with
        | true => simp only [cond_true, w1]; rfl
        | false =>
          simp only [cond_false]
          cases neB (inter ((s.1.g L.length).2.1.g r.length) (wide (ofS s) (Low.can (ofS s) L t0 j) (mT s L.length - mT s t0))) with
          | false => simp only [cond_false, Bool.not_false, cond_true, w1]; rfl
          | true =>
            simp only [cond_true, Bool.not_true, cond_false, decide_eq_true a1c, decide_eq_true a5, decide_eq_true a6, w1, w3]
            generalize hF : F109 n _ = o
            have hF' : F109 n (mkX z1 L.length (r.length + 1 : Nat) born gone s (setSl same1 L.length (setSl (same1.g L.length) r.length ((j : Int), ()))) (setSl can1 L.length (setSl (can1.g L.length) r.length (inter ((s.1.g L.length).2.1.g r.length) (wide (ofS s) (Low.can (ofS s) L t0 j) (mT s L.length - mT s t0)))))) = o := hF
            rw [hF']
            cases o <;> rfl
      rw [key]
      have erg : ∀ f : Nat → List LL, (List.range (j + 1)).flatMap f = (List.range j).flatMap f ++ f j := fun f => by rw [List.range_succ, List.flatMap_append]; simp
      cases hh1 : has r (j : Int) with
      | true =>
        refine ⟨_, rfl, z1, same1, can1, items1, rfl, g1, ?_, g3, g4⟩
        rw [erg, g2, hh1, if_pos rfl, List.append_nil]
      | false =>
        rw [cond_false]
        have hbox : inter ((ofS s).box L.length r.length) (wide (ofS s) (Low.can (ofS s) L (L.length - 1) j) ((ofS s).tm L.length - (ofS s).tm (L.length - 1))) = inter ((s.1.g L.length).2.1.g r.length) (wide (ofS s) (Low.can (ofS s) L t0 j) (mT s L.length - mT s t0)) := by rw [ht1]; rfl
        cases hne : neB (inter ((s.1.g L.length).2.1.g r.length) (wide (ofS s) (Low.can (ofS s) L t0 j) (mT s L.length - mT s t0))) with
        | false =>
          refine ⟨_, rfl, z1, same1, can1, items1, rfl, g1, ?_, g3, g4⟩
          rw [erg, g2, hh1, hbox, hne]
          simp
        | true =>
          have hlast : (r ++ [(j : Int)]).getD r.length (-1) = (j : Int) := by simp
          have hpush := g4.push hh hlt hr (j : Int) (b := inter ((s.1.g L.length).2.1.g r.length) (wide (ofS s) (Low.can (ofS s) L t0 j) (mT s L.length - mT s t0))) (by
            rw [can_last ht0, hlast, if_pos (by omega), e2, ht0]; rfl)
          obtain ⟨z2, same2, can2, items2, f1, f2, f3, f4, f5⟩ := ih j hj z1 _ _ hpush
          have hl2 : (r ++ [(j : Int)]).length = r.length + 1 := by simp
          rw [hl2] at f1
          rw [cond_true, f1]
          refine ⟨_, rfl, z2, same2, can2, items1 ++ items2, rfl, by rw [f2, g1, List.append_assoc], ?_, fun it hit => (List.mem_append.1 hit).elim (g3 it) (f4 it), f5.pop hh⟩
          rw [erg, List.map_append, g2, f3, hh1, hbox, hne]
          simp) (fun v hp => by
      obtain ⟨z1, same1, can1, items1, rfl, g1, g2, g3, g4⟩ := hp
      unfold S109x2 Z109x2 st2
      have : ¬ ((((s.1.g (L.length - 1)).2.1.n : Nat) : Int) < (((s.1.g (L.length - 1)).2.1.n : Nat) : Int)) := by omega
      simp only [decide_eq_false this, cond_false]
      rfl) (st2 z L.length r.length born gone s (((s.1.g (L.length - 1)).2.1.n : Nat) : Int) 0 same can) ⟨z, same, can, [], rfl, by simp, rfl, fun it hit => by simp at hit, hi'⟩
  refine ⟨z', same', can', items, h5.trans ?_, h1, h2, h3, h4⟩
  rw [hv]
  rfl
end Go.Dm

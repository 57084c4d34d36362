/- Logs: which are as defined, and what they show. -/
import Derived.Test.YtiapgkbnjpkagaaL8WP1
set_option linter.unusedVariables false
set_option linter.unusedSimpArgs false
namespace Go.Dm
set_option maxRecDepth 100000

abbrev logT : Type := Int × Int × rowI × rowI × Unit
def figC (l : logT) (j : Nat) : Bool := inB (l.2.2.1.g j).1 (-1) (W (l.1 - 1)) && inB (l.2.2.2.1.g j).1 (-1) (W (l.1 - 1))
def logB (l : logT) : Bool := inB l.1 2 10 && (inB l.2.1 1 1000000 && (decide (l.2.2.1.n = l.2.2.2.1.n) && (decide (l.2.2.1.n ≤ 18) && (List.range l.2.2.1.n).all (figC l))))
theorem le18 (n : Nat) : decide ((18 : Int) < (n : Int)) = !decide (n ≤ 18) := by
  by_cases h : n ≤ 18
  · have h' : ¬ ((18 : Int) < (n : Int)) := by omega
    simp [h, h']
  · have h' : ((18 : Int) < (n : Int)) := by omega
    simp [h, h']
theorem in18 (n : Nat) : inB (n : Int) 0 18 = decide (n ≤ 18) := by
  unfold inB
  by_cases h : n ≤ 18
  · have h' : (0 : Int) ≤ (n : Int) ∧ (n : Int) ≤ 18 := by omega
    simp only [h, h', and_self, decide_true]
  · have h' : ¬ ((0 : Int) ≤ (n : Int) ∧ (n : Int) ≤ 18) := by omega
    simp only [h, h', decide_false]
theorem M74xe (l : logT) (h : l.2.2.1.n ≤ 140737488355328) : M74 (no_index (l, ())) = some (logB l, ()) := by
  unfold M74 Q74 logB
  simp only [M60xe, cl_some, Int.natCast_inj, le18]
  cases inB l.1 2 10 with
  | false => rfl
  | true =>
  cases inB l.2.1 1 1000000 with
  | false => rfl
  | true =>
  by_cases hn : l.2.2.1.n = l.2.2.2.1.n
  case neg => simp [hn]
  by_cases h18 : l.2.2.1.n ≤ 18
  case neg => simp [hn, h18]; rw [← hn]; simp [h18]
  have : L74x0 (no_index ((), (l.2.2.1, (((l.2.2.1.n : Nat) : Int), (l, ()))))) (no_index ((0 : Int), ())) = bif (List.range l.2.2.1.n).all (figC l) then .exit 0 () else .ret (false, ()) := by
    unfold L74x0
    refine iterQ_all (ps := vs74x0) (f := fun j => ((j : Int), ())) (big_lt h) (fun j hj _ => ?_) fun _ => ?_
    · have hj' : j < l.2.2.2.1.n := by omega
      unfold S74x0 Z74x0 figC
      simp only [lt_ok hj, idx_ok hj, idx_ok hj', W_nat hj h, decide_true, cond_true, and_self, Int.toNat_natCast, M60xe, cl_some]
      cases inB (l.2.2.1.g j).1 (-1) (W (l.1 - 1)) <;> cases inB (l.2.2.2.1.g j).1 (-1) (W (l.1 - 1)) <;> rfl
    · unfold S74x0 Z74x0
      simp
  simp only [this, decide_eq_true hn, decide_eq_true h18]
  cases (List.range l.2.2.1.n).all (figC l) <;> rfl
theorem M19xe (x : Int) : M19 (no_index (x, ())) = some (inB x 2 10, ()) := by unfold M19 Q19; simp only [M63xe, cl_some]
theorem M20xe (x : Int) : M20 (no_index (x, ())) = some (inB x 0 18, ()) := by unfold M20 Q20; simp only [M63xe, cl_some]
theorem M31xe (x : Int) : M31 (no_index (x, ())) = some (inB x 1 1000000, ()) := by unfold M31 Q31; simp only [M63xe, cl_some]
theorem M35xe (l : logT) (h : l.2.2.1.n ≤ 140737488355328) : M35 (no_index (l, ())) = some (logB l, ()) := by
  unfold M35 Q35 logB
  simp only [M19xe, M20xe, M31xe, cl_some, Int.natCast_inj, in18]
  cases inB l.1 2 10 with
  | false => rfl
  | true =>
  cases inB l.2.1 1 1000000 with
  | false => rfl
  | true =>
  by_cases hn : l.2.2.1.n = l.2.2.2.1.n
  case neg => simp [hn]
  by_cases h18 : l.2.2.1.n ≤ 18
  case neg => simp [hn, h18]; rw [← hn]; simp [h18]
  have : L35x0 (no_index ((), (l, ()))) (no_index ((0 : Int), ())) = bif (List.range l.2.2.1.n).all (figC l) then .exit 0 () else .ret (false, ()) := by
    unfold L35x0
    refine iterQ_all (ps := vs35x0) (f := fun j => ((j : Int), ())) (big_lt h) (fun j hj _ => ?_) fun _ => ?_
    · have hj' : j < l.2.2.2.1.n := by omega
      unfold S35x0 Z35x0 figC
      simp only [lt_ok hj, idx_ok hj, idx_ok hj', W_nat hj h, decide_true, cond_true, and_self, Int.toNat_natCast, M63xe, cl_some]
      cases inB (l.2.2.1.g j).1 (-1) (W (l.1 - 1)) <;> cases inB (l.2.2.2.1.g j).1 (-1) (W (l.1 - 1)) <;> rfl
    · unfold S35x0 Z35x0
      simp
  simp only [this, decide_eq_true hn, decide_eq_true h18]
  cases (List.range l.2.2.1.n).all (figC l) <;> rfl
theorem logB_t {l : logT} (h : logB l = true) : 2 ≤ l.1 ∧ l.1 ≤ 10 ∧ (1 ≤ l.2.1 ∧ l.2.1 ≤ 1000000) ∧ l.2.2.1.n = l.2.2.2.1.n ∧ l.2.2.1.n ≤ 18 ∧ ∀ j, j < l.2.2.1.n → -1 ≤ (l.2.2.1.g j).1 ∧ (l.2.2.1.g j).1 < l.1 ∧ -1 ≤ (l.2.2.2.1.g j).1 ∧ (l.2.2.2.1.g j).1 < l.1 := by
  simp only [logB, Bool.and_eq_true, decide_eq_true_eq] at h
  obtain ⟨h1, h2, h3, h4, h5⟩ := h
  have h1 := inB_t h1
  refine ⟨h1.1, h1.2, inB_t h2, h3, h4, fun j hj => ?_⟩
  have := all_t h5 hj
  simp only [figC, Bool.and_eq_true, W_id (n := l.1 - 1) ⟨by omega, by omega⟩] at this
  have a := inB_t this.1
  have b := inB_t this.2
  omega

/-! what is counted -/
def cntW (c : Nat → Bool) : Nat → Int
  | 0 => 0
  | j + 1 => bif c j then W (cntW c j + 1) else cntW c j
theorem cntW_congr {c d : Nat → Bool} : ∀ {n : Nat}, (∀ j, j < n → c j = d j) → cntW c n = cntW d n
  | 0, _ => rfl
  | n + 1, h => by rw [cntW, cntW, cntW_congr fun j hj => h j (by omega), h n (by omega)]
def ownF (l : logT) (j : Nat) : Int := (l.2.2.1.g j).1
def papF (l : logT) (j : Nat) : Int := (l.2.2.2.1.g j).1
def bothF (l : logT) (j : Nat) : Bool := decide (0 ≤ ownF l j) && decide (0 ≤ papF l j)
def agrF (l : logT) (j : Nat) : Bool := decide (0 ≤ ownF l j) && decide (ownF l j = papF l j)
def figF (l : logT) (f : Nat) (j : Nat) : Bool := decide (ownF l j = (f : Int)) && decide (0 ≤ papF l j)
def favF (l : logT) : Nat → Int
  | 0 => 0
  | f + 1 => mx (favF l f) (cntW (figF l f) l.2.2.1.n)
theorem M45xe (l : logT) (h : logB l = true) : M45 (no_index (l, ())) = some (cntW (bothF l) l.2.2.1.n, ()) := by
  obtain ⟨_, _, _, hn, h18, _⟩ := logB_t h
  have : L45x0 (no_index ((), (l, ()))) (no_index ((0 : Int), ((0 : Int), ()))) = .exit 0 (cntW (bothF l) l.2.2.1.n, ()) := by
    unfold L45x0
    refine iterQ_steps (ps := vs45x0) l.2.2.1.n big (fun j => (cntW (bothF l) j, ((j : Int), ()))) (big_lt (by omega)) (fun j hj => ?_) ?_
    · have hj' : j < l.2.2.2.1.n := by omega
      unfold S45x0 Z45x0
      simp only [lt_ok hj, idx_ok hj, idx_ok hj', W_nat hj (by omega : l.2.2.1.n ≤ 140737488355328), decide_true, cond_true, and_self, Int.toNat_natCast, cntW, bothF, ownF, papF]
      by_cases q1 : (0 : Int) ≤ (l.2.2.1.g j).1 <;> by_cases q2 : (0 : Int) ≤ (l.2.2.2.1.g j).1 <;> simp [q1, q2]
    · unfold S45x0 Z45x0
      simp
  unfold M45 Q45
  exact congrArg (fun q => onExit q 0 (fun u2 => some u2) none) this
theorem M28xe (l : logT) (h : logB l = true) : M28 (no_index (l, ())) = some (cntW (agrF l) l.2.2.1.n, ()) := by
  obtain ⟨_, _, _, hn, h18, _⟩ := logB_t h
  have : L28x0 (no_index ((), (l, ()))) (no_index ((0 : Int), ((0 : Int), ()))) = .exit 0 (cntW (agrF l) l.2.2.1.n, ()) := by
    unfold L28x0
    refine iterQ_steps (ps := vs28x0) l.2.2.1.n big (fun j => (cntW (agrF l) j, ((j : Int), ()))) (big_lt (by omega)) (fun j hj => ?_) ?_
    · have hj' : j < l.2.2.2.1.n := by omega
      unfold S28x0 Z28x0
      simp only [lt_ok hj, idx_ok hj, idx_ok hj', W_nat hj (by omega : l.2.2.1.n ≤ 140737488355328), decide_true, cond_true, and_self, Int.toNat_natCast, cntW, agrF, ownF, papF]
      by_cases q1 : (0 : Int) ≤ (l.2.2.1.g j).1 <;> by_cases q2 : (l.2.2.1.g j).1 = (l.2.2.2.1.g j).1 <;> simp [q1, q2] <;> (by_cases q3 : (0 : Int) ≤ (l.2.2.2.1.g j).1 <;> simp [q3])
    · unfold S28x0 Z28x0
      simp
  unfold M28 Q28
  exact congrArg (fun q => onExit q 0 (fun u2 => some u2) none) this
theorem L29x0_0_e (l : logT) (h : logB l = true) (m : Int) (f : Nat) : L29x0x0 (no_index ((), (m, ((f : Int), (l, ()))))) (no_index ((0 : Int), ((0 : Int), ()))) = .exit 2 (cntW (figF l f) l.2.2.1.n, ()) := by
  obtain ⟨_, _, _, hn, h18, _⟩ := logB_t h
  unfold L29x0x0
  refine iterQ_steps (ps := vs29x0x0) l.2.2.1.n big (fun j => (cntW (figF l f) j, ((j : Int), ()))) (big_lt (by omega)) (fun j hj => ?_) ?_
  · have hj' : j < l.2.2.2.1.n := by omega
    unfold S29x0x0 Z29x0x0
    simp only [lt_ok hj, idx_ok hj, idx_ok hj', W_nat hj (by omega : l.2.2.1.n ≤ 140737488355328), decide_true, cond_true, and_self, Int.toNat_natCast, cntW, figF, ownF, papF]
    by_cases q1 : (l.2.2.1.g j).1 = (f : Int) <;> by_cases q2 : (0 : Int) ≤ (l.2.2.2.1.g j).1 <;> simp [q1, q2]
  · unfold S29x0x0 Z29x0x0
    simp
theorem M29xe (l : logT) (h : logB l = true) : M29 (no_index (l, ())) = some (favF l l.1.toNat, ()) := by
  obtain ⟨hb1, hb2, _⟩ := logB_t h
  have : L29x0 (no_index ((), (l, ()))) (no_index ((0 : Int), ((0 : Int), ()))) = .exit 0 (favF l l.1.toNat, ()) := by
    unfold L29x0
    refine iterQ_steps (ps := vs29x0) l.1.toNat big (fun j => (favF l j, ((j : Int), ()))) (big_lt (by omega)) (fun j hj => ?_) ?_
    · have e1 : (j : Int) < l.1 := by omega
      unfold S29x0 Z29x0
      simp only [e1, W_nat hj (by omega : l.1.toNat ≤ 140737488355328), decide_true, cond_true, L29x0_0_e l h, favF]
      rfl
    · have e1 : ¬ ((l.1.toNat : Int) < l.1) := by omega
      unfold S29x0 Z29x0
      simp only [e1, decide_false, cond_false]
  unfold M29 Q29
  exact congrArg (fun q => onExit q 0 (fun u2 => some u2) none) this

/-! what the program counts -/

abbrev arrT : Type := Int × Int × Int × Int × Int × Int × Int × Int × Int × Int × Unit
def vec (t : Nat → Int) : arrT := (t 0, t 1, t 2, t 3, t 4, t 5, t 6, t 7, t 8, t 9, ())
abbrev recT : Type := Int × Int × rowI × rowI × Int × Int × Int × Unit
def recZ : recT := ((0 : Int), ((0 : Int), (⟨0, fun _ => ((0 : Int), ())⟩, (⟨0, fun _ => ((0 : Int), ())⟩, ((0 : Int), ((0 : Int), ((0 : Int), ())))))))
def stt (l : logT) (j : Nat) : Unit × Unit × Unit × Unit × logT × recT × recT × arrT × Unit :=
  ((), (), (), (), l, recZ, (l.1, l.2.1, l.2.2.1, l.2.2.2.1, cntW (bothF l) j, cntW (agrF l) j, (0 : Int), ()), vec (fun f => cntW (figF l f) j), ())
theorem step75 (l : logT) (t : Nat → Int) (d s : Int) (o p : Int) (ho : 0 ≤ o ∧ o < 10) :
    S75x0 ((), (), (), (), l, recZ, (l.1, l.2.1, l.2.2.1, l.2.2.2.1, d, s, (0 : Int), ()), vec t, ()) (o, (p, ())) = .next ((), (), (), (), l, recZ, (l.1, l.2.1, l.2.2.1, l.2.2.2.1, W (d + 1), (bif decide (o = p) then W (s + 1) else s), (0 : Int), ()), vec (fun (f : Nat) => bif decide (o = (f : Int)) then W (t f + 1) else t f), ()) := by
  have h10 : o = 0 ∨ o = 1 ∨ o = 2 ∨ o = 3 ∨ o = 4 ∨ o = 5 ∨ o = 6 ∨ o = 7 ∨ o = 8 ∨ o = 9 := by omega
  by_cases hp : o = p
  · subst hp
    rcases h10 with h | h | h | h | h | h | h | h | h | h <;> subst h <;> unfold S75x0 Z75x0 <;> simp only [decide_true, cond_true] <;> rfl
  · rcases h10 with h | h | h | h | h | h | h | h | h | h <;> subst h <;> unfold S75x0 Z75x0 <;> simp only [hp, decide_false, cond_false] <;> rfl
def itemsF (l : logT) : Nat → Nat → List (Int × Int × Unit)
  | 0, _ => []
  | m + 1, j => (bif bothF l j then [(ownF l j, (papF l j, ()))] else []) ++ itemsF l m (j + 1)
theorem acc_list (l : logT) : ∀ (m : Nat) (j : Nat) (tr : Sl (Int × Int × Unit)), (ct_acc l l.2.2.1 m (j : Int) tr).list = tr.list ++ itemsF l m j
  | 0, _, _ => by simp [ct_acc, itemsF]
  | m + 1, j, tr => by
    rw [ct_acc, show ((j : Int) + 1) = ((j + 1 : Nat) : Int) by omega, acc_list l m (j + 1), itemsF]
    have hb : ct_both l l.2.2.1 (j : Int) = bothF l j := by unfold ct_both bothF ownF papF; rfl
    unfold ct_step
    rw [hb]
    cases bothF l j with
    | false => rfl
    | true =>
      rw [cond_true, cond_true, ct_push_list, List.append_assoc]
      rfl
theorem run75 (l : logT) (h : logB l = true) : ∀ (m j : Nat), j + m = l.2.2.1.n → runAllD S75x0 (stt l j) (itemsF l m j) = .next (stt l l.2.2.1.n)
  | 0, j, hj => by simp only [itemsF, runAllD]; rw [← hj]; rfl
  | m + 1, j, hj => by
    obtain ⟨hb1, hb2, _, _, _, hf⟩ := logB_t h
    have hfj := hf j (by omega)
    have ih := run75 l h m (j + 1) (by omega)
    rw [itemsF]
    cases hb : bothF l j with
    | false =>
      have ha : agrF l j = false := by
        simp only [bothF, Bool.and_eq_false_iff, decide_eq_false_iff_not] at hb
        simp only [agrF, Bool.and_eq_false_iff, decide_eq_false_iff_not]
        rcases hb with hb | hb
        · exact .inl hb
        · by_cases h0 : 0 ≤ ownF l j
          · exact .inr (by omega)
          · exact .inl h0
      have e : stt l (j + 1) = stt l j := by
        have hv : (fun (f : Nat) => cntW (figF l f) (j + 1)) = fun (f : Nat) => bif figF l f j then W (cntW (figF l f) j + 1) else cntW (figF l f) j := rfl
        have hg : ∀ f : Nat, figF l f j = false := fun f => by
          simp only [bothF, Bool.and_eq_false_iff, decide_eq_false_iff_not] at hb
          simp only [figF, Bool.and_eq_false_iff, decide_eq_false_iff_not]
          omega
        unfold stt
        rw [hv]
        simp only [cntW, hb, ha, hg, cond_false]
      rw [cond_false, List.nil_append, ← e]
      exact ih
    | true =>
      have hb' := hb
      simp only [bothF, Bool.and_eq_true, decide_eq_true_eq] at hb'
      have hown : ownF l j = (l.2.2.1.g j).1 := rfl
      rw [cond_true, List.singleton_append, runAllD]
      have := step75 l (fun f => cntW (figF l f) j) (cntW (bothF l) j) (cntW (agrF l) j) (ownF l j) (papF l j) (by omega)
      have e : S75x0 (stt l j) (ownF l j, (papF l j, ())) = .next (stt l (j + 1)) := by
        refine this.trans ?_
        have ha : agrF l j = decide (ownF l j = papF l j) := by simp [agrF, hb'.1]
        have hg : ∀ f : Nat, figF l f j = decide (ownF l j = (f : Int)) := fun f => by simp [figF, hb'.2]
        have hv : (fun f => cntW (figF l f) (j + 1)) = fun (f : Nat) => bif decide (ownF l j = (f : Int)) then W (cntW (figF l f) j + 1) else cntW (figF l f) j := by
          funext f; rw [cntW, hg]
        unfold stt
        rw [hv]
        simp only [cntW, hb, ha, cond_true]
      rw [e]
      exact ih
theorem items_e (l : logT) : (Sl.list (ct_items l)) = itemsF l l.2.2.1.n 0 := by
  unfold ct_items
  have := acc_list l l.2.2.1.n 0 ⟨0, fun _ => ct_eF.dflt⟩
  have e : (((l.2.2.1.n : Nat) : Int) - 0).toNat = l.2.2.1.n := by omega
  rw [e]
  exact this
theorem vec_get (t : Nat → Int) {f : Nat} (hf : f < 10) : List.getD [(vec t).1, (vec t).2.1, (vec t).2.2.1, (vec t).2.2.2.1, (vec t).2.2.2.2.1, (vec t).2.2.2.2.2.1, (vec t).2.2.2.2.2.2.1, (vec t).2.2.2.2.2.2.2.1, (vec t).2.2.2.2.2.2.2.2.1, (vec t).2.2.2.2.2.2.2.2.2.1] (0 + f * 1) (vec t).1 = t f := by
  have : f = 0 ∨ f = 1 ∨ f = 2 ∨ f = 3 ∨ f = 4 ∨ f = 5 ∨ f = 6 ∨ f = 7 ∨ f = 8 ∨ f = 9 := by omega
  rcases this with h | h | h | h | h | h | h | h | h | h <;> subst h <;> rfl
theorem favF_s (l : logT) (f : Nat) : favF l (f + 1) = mx (favF l f) (cntW (figF l f) l.2.2.1.n) := rfl
def recOf (l : logT) (m : Int) : recT := (l.1, l.2.1, l.2.2.1, l.2.2.2.1, cntW (bothF l) l.2.2.1.n, cntW (agrF l) l.2.2.1.n, m, ())
theorem M75xe (l : logT) (h : logB l = true) : M75 (no_index (l, ())) = some (recOf l (favF l l.1.toNat), ()) := by
  obtain ⟨hb1, hb2, _, hn, h18, _⟩ := logB_t h
  have hp : ip103 () (l, ()) = true := decide_eq_true ⟨rfl, Int.le_refl _, by show l.2.2.1.n ≤ l.2.2.2.1.n; omega, by show ((l.2.2.1.n : Nat) : Int) ≤ _; omega⟩
  have h96 : M96 (no_index (l, ())) = some (ct_items l, ()) := by
    unfold M96 Q96
    simp only [hp, cond_true]
    rfl
  have hrun : L75x0 (stt l 0) (Sl.list (ct_items l)) = .next (stt l l.2.2.1.n) := by
    unfold L75x0
    rw [items_e]
    exact run75 l h l.2.2.1.n 0 (by omega)
  have hfav : L75x1 (no_index ((), ((), ((), (l.1, (recZ, (vec (fun f => cntW (figF l f) l.2.2.1.n), ()))))))) (no_index ((0 : Int), (recOf l 0, ()))) = .exit 2 (recOf l (favF l l.1.toNat), ()) := by
    unfold L75x1
    refine iterQ_steps (ps := vs75x1) l.1.toNat big (fun j => ((j : Int), (recOf l (favF l j), ()))) (big_lt (by omega)) (fun j hj => ?_) ?_
    · have e1 : (j : Int) < l.1 := by omega
      have e2 : ((0 : Int) ≤ (j : Int)) ∧ ((j : Int) < (10 : Int)) := by omega
      have e3 : 0 + j * 1 < 10 := by omega
      have hv := vec_get (fun f => cntW (figF l f) l.2.2.1.n) (f := j) (by omega)
      unfold S75x1 Z75x1
      simp only [e1, e2, e3, W_nat hj (by omega : l.1.toNat ≤ 140737488355328), decide_true, cond_true, and_self, Int.toNat_natCast]
      rw [favF_s, ← hv]
      rfl
    · have e1 : ¬ ((l.1.toNat : Int) < l.1) := by omega
      unfold S75x1 Z75x1
      simp only [e1, decide_false, cond_false]
  unfold M75 Q75
  simp only [h96, cl_some]
  refine (congrArg (fun q => onNext q _ _) hrun).trans ?_
  refine (congrArg (fun q => onExit q 2 _ _) hfav).trans ?_
  rfl
theorem M33xe (l : logT) : M33 (no_index (l, ())) = some (decide (l.2.2.1.n ≤ 24) && decide (l.2.2.2.1.n ≤ 24), ()) := by
  unfold M33 Q33
  have e : ∀ n : Nat, decide ((n : Int) ≤ 24) = decide (n ≤ 24) := fun n => by
    by_cases h : n ≤ 24
    · have h' : (n : Int) ≤ 24 := by omega
      simp [h, h']
    · have h' : ¬ ((n : Int) ≤ 24) := by omega
      simp [h, h']
  simp only [e]
  cases decide (l.2.2.1.n ≤ 24) <;> rfl
theorem M44xe (l : logT) (h : l.2.2.1.n ≤ 140737488355328) : M44 (no_index (l, ())) = some (bif logB l then (0 : Int) else 2, ()) := by
  unfold M44 Q44
  simp only [M74xe l h, cl_some]
  cases logB l <;> rfl
theorem M37xe (l : logT) (h : l.2.2.1.n ≤ 140737488355328) : M37 (no_index (l, ())) = some (bif logB l then (cntW (bothF l) l.2.2.1.n, (cntW (agrF l) l.2.2.1.n, (favF l l.1.toNat, ((0 : Int), ())))) else ((0 : Int), ((0 : Int), ((0 : Int), ((2 : Int), ()))))) := by
  unfold M37 Q37
  simp only [M74xe l h, cl_some]
  cases hb : logB l with
  | false => rfl
  | true =>
    simp only [M75xe l hb, cl_some]
    rfl
theorem law11' (l : logT) : M11 (no_index (l, ())) = some (true, ()) := by
  unfold M11 Q11
  simp only [M33xe, cl_some, known_M]
  by_cases h : l.2.2.1.n ≤ 24
  case neg => simp [h]
  by_cases h2 : l.2.2.2.1.n ≤ 24
  case neg => simp [h2]
  have hs : l.2.2.1.n ≤ 140737488355328 := by omega
  simp only [h, h2, decide_true, Bool.and_self, Bool.not_true, cond_false, M44xe l hs, M37xe l hs, M35xe l hs, cl_some]
  cases hb : logB l with
  | false => simp
  | true =>
    simp only [M45xe l hb, M28xe l hb, M29xe l hb, cl_some]
    simp
theorem law11 (x : (a11).den) : M11 x = some (true, ()) := by
  obtain ⟨l, ⟨⟩⟩ := x
  exact law11' l
end Go.Dm

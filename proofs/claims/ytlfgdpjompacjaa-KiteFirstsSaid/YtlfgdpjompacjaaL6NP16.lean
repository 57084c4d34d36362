/- Blow, and the reference's list. -/
import Derived.Test.YtlfgdpjompacjaaL6NP15
set_option linter.unusedVariables false
set_option linter.unusedSimpArgs false
namespace Go.Dm
set_option maxRecDepth 100000

/-- Where a balloon was found, in a direction. -/
def fnd (f : flightT) (north : Bool) : spanI := bif north then (f.2.2.2.2.2.2.2.2.2.1, (f.2.2.2.2.2.2.2.2.2.2.1, ())) else (f.2.2.2.2.2.2.2.1, (f.2.2.2.2.2.2.2.2.1, ()))
def wayI (north : Bool) : Int := bif north then 1 else 0
theorem M123xe (f : flightT) (u d t : Int) (north : Bool) : M123 (no_index (fly f u d t, (wayI north, ()))) = some (fnd f north, ()) := by
  unfold M123 Q123
  cases north <;> rfl
/-- The first winds of spans with which a trip comes to where the balloon was found, in a direction. -/
def goD (f : flightT) (u d t : Int) (north : Bool) (sp : Nat → spanI) : Option (List Int) := goW sp (mins f.1 u d t) (fnd f north).1 (fnd f north).2.1 f.1.n 0 0
/-- A row of these numbers. -/
def IsRow (V : rowI) (l : List Int) : Prop := V.n = l.length ∧ ∀ i, i < V.n → V.g i = (l.getD i 0, ())
def spOK (f : flightT) (sp : Sl spanI) : Prop := sp.n = f.1.n ∧ ∀ j, j < sp.n → -100 ≤ (sp.g j).1 ∧ (sp.g j).2.1 ≤ 100
theorem goD_len {f : flightT} {u d t : Int} {north : Bool} {sp : Nat → spanI} {l : List Int} (h : goD f u d t north sp = some l) : l.length = f.1.n := val_len (goW_val h)
theorem M122xe {f : flightT} (hf : flightB f = true) {u d t : Int} (hu : 50 ≤ u ∧ u ≤ 1000) (hd : 50 ≤ d ∧ d ≤ 1000) (north : Bool) {sp : Sl spanI} (hs : spOK f sp) :
    ∃ V : rowI, M122 (no_index (fly f u d t, (wayI north, (sp, ())))) = some (V, ((goD f u d t north sp.g).isSome, ())) ∧ ∀ l, goD f u d t north sp.g = some l → IsRow V l := by
  have hn4 := (flightB_t hf).2.1
  have hsn := hs.1
  obtain ⟨V, D, e, h1, _, _, h4⟩ := F124xe (t := t) (fd := fnd f north) hf hu hd hs.1 hs.2 sp.n 6 0 0 ⟨(Int.toNat ((sp.n : Nat) : Int)), fun i => ((0 : Int), ())⟩ (fun _ => none) (by omega) (by omega) (by omega) (by show Int.toNat ((sp.n : Nat) : Int) = sp.n; omega) (fun k s _ h => by simp at h)
  refine ⟨V, ?_, fun l hl => ?_⟩
  · have i1 : ((0 : Int) ≤ ((sp.n : Nat) : Int)) ∧ ((((sp.n : Nat) : Int) ≤ (281474976710656 : Int)) ∧ ((((sp.n : Nat) : Int) * (8 : Int)) ≤ (281474976710656 : Int))) := by omega
    unfold M122 Q122
    simp only [M123xe, cl_some, i1, and_self, decide_true, cond_true]
    refine (congrArg (fun o => onOk o _ _) e).trans ?_
    unfold bOut goD
    rw [hsn]
    rfl
  · have hl' : goW sp.g (mins f.1 u d t) (fnd f north).1 (fnd f north).2.1 sp.n 0 0 = some l := by rw [hsn]; exact hl
    have := h4 l hl'
    refine ⟨by rw [goD_len hl]; omega, fun i hi => ?_⟩
    have := this i (by omega) (by omega)
    rwa [Nat.sub_zero] at this

/-! the reference -/
def endJ (b : Bool) (sp : Nat → spanI) (m : Nat → Int) (k : Nat) (s : Int) : Nat → Int
  | 0 => s
  | j + 1 => endJ b sp m k s j + (bif b then (sp (k + j)).2.1 else (sp (k + j)).1) * m (k + j)
theorem endJ_s (b : Bool) (sp : Nat → spanI) (m : Nat → Int) (k : Nat) (s : Int) : ∀ j, endJ b sp m k s (j + 1) = endJ b sp m (k + 1) (s + (bif b then (sp k).2.1 else (sp k).1) * m k) j
  | 0 => rfl
  | j + 1 => by
    rw [endJ, endJ_s b sp m k s j]
    have : k + (j + 1) = k + 1 + j := by omega
    rw [this, endJ]
theorem endJ_e (b : Bool) (sp : Nat → spanI) (m : Nat → Int) : ∀ (r k : Nat) (s : Int), endI b sp m r k s = endJ b sp m k s r
  | 0, _, _ => rfl
  | r + 1, k, s => by rw [endJ_s, ← endJ_e b sp m r (k + 1)]; rfl
theorem M100xle {a b : rowI} (h : a.n ≤ b.n) (hb : a.n ≤ 140737488355328) : M100 (no_index (a, (b, ()))) = some (sums (fun j => W ((a.g j).1 * (b.g j).1)) a.n, ()) := by
  have : L100x0 (no_index (a, (b, ()))) (no_index ((0 : Int), ((0 : Int), ()))) = .exit 0 (sums (fun j => W ((a.g j).1 * (b.g j).1)) a.n, ()) := by
    unfold L100x0
    refine iterQ_steps (ps := vs100x0) a.n big (fun j => (sums (fun j => W ((a.g j).1 * (b.g j).1)) j, ((j : Int), ()))) (big_lt (by omega)) (fun j hj => ?_) ?_
    · have e1 : ((j : Int) < ((a.n : Nat) : Int)) := by omega
      have e2 : ((j : Int) < ((b.n : Nat) : Int)) := by omega
      have e3 : W ((j : Int) + 1) = ((j + 1 : Nat) : Int) := by rw [W_id ⟨by omega, by omega⟩]; rfl
      unfold S100x0 Z100x0
      simp only [e1, e2, e3, decide_true, cond_true, Int.toNat_natCast, Int.natCast_nonneg, and_self, sums]
    · unfold S100x0 Z100x0
      simp
  unfold M100 Q100
  simp only [this]
  rfl
section
variable {f : flightT} {u d t : Int} {sp : Sl spanI} {fd : spanI} {tm : rowI}
theorem endJ_bd {m : Nat → Int} (hm : ∀ j, j < sp.n → 0 ≤ m j ∧ m j ≤ 200) (hsp : ∀ j, j < sp.n → -100 ≤ (sp.g j).1 ∧ (sp.g j).1 ≤ (sp.g j).2.1 ∧ (sp.g j).2.1 ≤ 100) (b : Bool) {k : Nat} {s : Int} (hs : -20000 * (k : Int) ≤ s ∧ s ≤ 20000 * (k : Int)) :
    ∀ j, k + j ≤ sp.n → -20000 * ((k + j : Nat) : Int) ≤ endJ b sp.g m k s j ∧ endJ b sp.g m k s j ≤ 20000 * ((k + j : Nat) : Int)
  | 0, _ => hs
  | j + 1, h => by
    have ih := endJ_bd hm hsp b hs j (by omega)
    have h1 := hsp (k + j) (by omega)
    have p := prod_bd (w := (bif b then (sp.g (k + j)).2.1 else (sp.g (k + j)).1)) (m := m (k + j)) (by cases b <;> exact ⟨by simp only [cond_true, cond_false]; omega, by simp only [cond_true, cond_false]; omega⟩) (hm (k + j) (by omega))
    rw [endJ]
    omega
theorem L111xe {R : (a111).den → Option (r111).den} {m : Nat → Int} (hm : ∀ j, j < sp.n → 0 ≤ m j ∧ m j ≤ 200) (hsp : ∀ j, j < sp.n → -100 ≤ (sp.g j).1 ∧ (sp.g j).1 ≤ (sp.g j).2.1 ∧ (sp.g j).2.1 ≤ 100) (hn : sp.n ≤ 8)
    (htn : tm.n = sp.n) (htm : ∀ j, j < sp.n → (tm.g j).1 = m j) (gv : rowI) {k r : Nat} (hk : k + r = sp.n) {s : Int} (hs : -20000 * (k : Int) ≤ s ∧ s ≤ 20000 * (k : Int)) :
    L111x0 R (no_index (sp, (tm, (gv, ((), (fd, ())))))) (no_index (s, (s, ((k : Int), ())))) = .exit 0 (endI false sp.g m r k s, (endI true sp.g m r k s, ())) := by
  rw [endJ_e, endJ_e]
  unfold L111x0
  refine iterQ_steps (ps := vs111x0) r big (fun j => (endJ false sp.g m k s j, (endJ true sp.g m k s j, (((k + j : Nat) : Int), ())))) (big_lt (by omega)) (fun j hj => ?_) ?_
  · have e1 : (((k + j : Nat) : Int) < ((sp.n : Nat) : Int)) := by omega
    have e2 : (((k + j : Nat) : Int) < ((tm.n : Nat) : Int)) := by omega
    have e3 : W (((k + j : Nat) : Int) + 1) = ((k + (j + 1) : Nat) : Int) := by rw [W_id ⟨by omega, by omega⟩]; rfl
    have h1 := hsp (k + j) (by omega)
    have pf := prod_bd (w := (sp.g (k + j)).1) (m := m (k + j)) ⟨by omega, by omega⟩ (hm (k + j) (by omega))
    have pt := prod_bd (w := (sp.g (k + j)).2.1) (m := m (k + j)) ⟨by omega, by omega⟩ (hm (k + j) (by omega))
    have bf := endJ_bd hm hsp false hs j (by omega)
    have bt := endJ_bd hm hsp true hs j (by omega)
    have w1 : W ((sp.g (k + j)).1 * m (k + j)) = (sp.g (k + j)).1 * m (k + j) := W_id ⟨by omega, by omega⟩
    have w2 : W ((sp.g (k + j)).2.1 * m (k + j)) = (sp.g (k + j)).2.1 * m (k + j) := W_id ⟨by omega, by omega⟩
    have w3 : W (endJ false sp.g m k s j + (sp.g (k + j)).1 * m (k + j)) = endJ false sp.g m k s (j + 1) := W_id ⟨by omega, by omega⟩
    have w4 : W (endJ true sp.g m k s j + (sp.g (k + j)).2.1 * m (k + j)) = endJ true sp.g m k s (j + 1) := W_id ⟨by omega, by omega⟩
    unfold S111x0 Z111x0
    simp only [e1, e2, e3, htm (k + j) (by omega), w1, w2, w3, w4, decide_true, cond_true, Int.toNat_natCast, Int.natCast_nonneg, and_self]
  · have e1 : ¬ (((k + r : Nat) : Int) < ((sp.n : Nat) : Int)) := by omega
    unfold S111x0 Z111x0
    simp only [e1, decide_false, cond_false]
/-- What the reference's list comes to. -/
def ListOK (m : Nat → Int) (sp : Sl spanI) (fd : spanI) (r k : Nat) (s : Int) (gv : rowI) (o : Option (r111).den) : Prop :=
  ∃ V : rowI, o = some (V, ((goW sp.g m fd.1 fd.2.1 r k s).isSome, ())) ∧ (goW sp.g m fd.1 fd.2.1 r k s = none → V.n = 0) ∧
    ∀ l, goW sp.g m fd.1 fd.2.1 r k s = some l → V.n = sp.n ∧ (∀ i, i < k → V.g i = gv.g i) ∧ ∀ i, k ≤ i → i < sp.n → V.g i = (l.getD (i - k) 0, ())
def ListB (m : Nat → Int) (sp : Sl spanI) (fd : spanI) (r k : Nat) (s : Int) (gv : rowI) (q : LQ wv111x1) : Prop :=
  (q = .exit 2 () ∧ goW sp.g m fd.1 fd.2.1 (r + 1) k s = none) ∨ ∃ (V : rowI) (l : List Int), q = .ret (V, (true, ())) ∧ goW sp.g m fd.1 fd.2.1 (r + 1) k s = some l ∧ V.n = sp.n ∧ (∀ i, i < k → V.g i = gv.g i) ∧ ∀ i, k ≤ i → i < sp.n → V.g i = (l.getD (i - k) 0, ())
theorem F111xe {m : Nat → Int} (hm0 : ∀ j, 0 ≤ m j) (hm : ∀ j, j < sp.n → 0 ≤ m j ∧ m j ≤ 200) (hsp : ∀ j, j < sp.n → -100 ≤ (sp.g j).1 ∧ (sp.g j).1 ≤ (sp.g j).2.1 ∧ (sp.g j).2.1 ≤ 100) (hn : sp.n ≤ 8)
    (htn : tm.n = sp.n) (htm : ∀ j, j < sp.n → (tm.g j).1 = m j) : ∀ (r fu k : Nat) (s : Int) (gv : rowI), k + r = sp.n → r < fu → gv.n = k → -20000 * (k : Int) ≤ s ∧ s ≤ 20000 * (k : Int) → sums (fun j => W ((gv.g j).1 * (tm.g j).1)) k = s →
      ListOK m sp fd r k s gv (F111 fu (sp, (tm, (fd, (gv, ())))))
  | _, 0, _, _, _, _, h, _, _, _ => absurd h (Nat.not_lt_zero _)
  | r, fu + 1, k, s, gv, hk, hfu, hg, hs, hsum => by
    have e100 := M100xle (a := gv) (b := tm) (by omega) (by omega)
    rw [hg, hsum] at e100
    have eL := fun R => L111xe (R := R) (fd := fd) hm hsp hn htn htm gv hk hs
    show ListOK m sp fd r k s gv (U111 (F111 fu) _)
    unfold U111 Q111
    simp only [e100, cl_some, hg]
    refine (show ListOK m sp fd r k s gv (bif decide (endI true sp.g m r k s < fd.1) then some ((⟨0, fun i => ((0 : Int), ())⟩ : rowI), (false, ())) else bif decide (fd.2.1 < endI false sp.g m r k s) then some ((⟨0, fun i => ((0 : Int), ())⟩ : rowI), (false, ())) else bif decide (((k : Nat) : Int) = ((sp.n : Nat) : Int)) then some (gv, (true, ())) else
      bif decide (((0 : Int) ≤ ((k : Nat) : Int)) ∧ (((k : Nat) : Int) < ((sp.n : Nat) : Int))) then onExit (L111x1 (F111 fu) (sp, (tm, (gv, ((), (((k : Nat) : Int), (fd, ())))))) ((sp.g (Int.toNat ((k : Nat) : Int))).1, ())) 2 (fun u4 => some ((⟨0, fun i => ((0 : Int), ())⟩ : rowI), (false, ()))) (onRet (L111x1 (F111 fu) (sp, (tm, (gv, ((), (((k : Nat) : Int), (fd, ())))))) ((sp.g (Int.toNat ((k : Nat) : Int))).1, ())) (fun u5 => some u5) none) else none) → _ from fun h => (congrArg (ListOK m sp fd r k s gv) ((congrArg (fun o => onExit o 0 _ none) (eL (F111 fu))).trans (xe111x0e0 _ _ _))).symm ▸ h) ?_
    by_cases c1 : endI true sp.g m r k s < fd.1
    · have hg := goW_cut hm0 (sp := sp.g) (r := r) (k := k) (s := s) (lo := fd.1) (hi := fd.2.1) (.inl c1)
      rw [decide_eq_true c1]
      exact ⟨_, by rw [hg]; rfl, fun _ => rfl, fun l hl => by rw [hg] at hl; cases hl⟩
    by_cases c2 : fd.2.1 < endI false sp.g m r k s
    · have hg := goW_cut hm0 (sp := sp.g) (r := r) (k := k) (s := s) (lo := fd.1) (hi := fd.2.1) (.inr c2)
      rw [decide_eq_false c1, decide_eq_true c2]
      exact ⟨_, by rw [hg]; rfl, fun _ => rfl, fun l hl => by rw [hg] at hl; cases hl⟩
    rw [decide_eq_false c1, decide_eq_false c2]
    cases r with
    | zero =>
      have e : (((k : Nat) : Int) = ((sp.n : Nat) : Int)) := by omega
      have hg : goW sp.g m fd.1 fd.2.1 0 k s = some [] := by
        have c1 : ¬ s < fd.1 := c1
        have c2 : ¬ fd.2.1 < s := c2
        unfold goW
        rw [show inB s fd.1 fd.2.1 = true from decide_eq_true ⟨by omega, by omega⟩]; rfl
      rw [decide_eq_true e]
      refine ⟨gv, by rw [hg]; rfl, fun h => (by rw [hg] at h; cases h), fun l hl => ⟨by omega, fun i hi => rfl, fun i h1 h2 => by omega⟩⟩
    | succ r =>
      have hkn : k < sp.n := by omega
      have e : ¬ (((k : Nat) : Int) = ((sp.n : Nat) : Int)) := by omega
      have i1 : ((0 : Int) ≤ ((k : Nat) : Int)) ∧ (((k : Nat) : Int) < ((sp.n : Nat) : Int)) := by omega
      rw [decide_eq_false e, decide_eq_true i1, Int.toNat_natCast]
      have hb := hsp k hkn
      have hmk := hm k hkn
      have hgo : goW sp.g m fd.1 fd.2.1 (r + 1) k s = fstV (fun w => (goW sp.g m fd.1 fd.2.1 r (k + 1) (s + w * m k)).map (w :: ·)) (lens (sp.g k).1 (sp.g k).2.1) (sp.g k).1 := rfl
      have hc : lens (sp.g k).1 (sp.g k).2.1 ≤ 201 := by unfold lens; omega
      have L : ListB m sp fd r k s gv (L111x1 (F111 fu) (sp, (tm, (gv, ((), (((k : Nat) : Int), (fd, ())))))) ((sp.g k).1, ())) := by
        unfold L111x1
        refine iterQ_rel2 (ps := vs111x1) (wy := wv111x1) (Q := ListB m sp fd r k s gv) (P := fun j x => x = ((sp.g k).1 + (j : Int), ()) ∧ ∀ i : Nat, i < j → goW sp.g m fd.1 fd.2.1 r (k + 1) (s + ((sp.g k).1 + (i : Int)) * m k) = none)
          (lens (sp.g k).1 (sp.g k).2.1) (big_lt (n := lens (sp.g k).1 (sp.g k).2.1) (by omega)) ?_ ?_ ((sp.g k).1, ()) ⟨by simp, fun i hi => by omega⟩
        · rintro j x hj ⟨rfl, w4⟩
          have hle : (sp.g k).1 + (j : Int) ≤ (sp.g k).2.1 := by unfold lens at hj; omega
          have hpb := prod_bd (w := (sp.g k).1 + (j : Int)) (m := m k) ⟨by omega, by omega⟩ hmk
          have q4 : W ((sp.g k).1 + (j : Int) + 1) = (sp.g k).1 + ((j + 1 : Nat) : Int) := by rw [W_id ⟨by omega, by omega⟩]; omega
          have hsum' : sums (fun i => W (((snoc gv ((sp.g k).1 + (j : Int), ())).g i).1 * (tm.g i).1)) (k + 1) = s + ((sp.g k).1 + (j : Int)) * m k := by
            rw [sums, sums_congr (h := fun i => W ((gv.g i).1 * (tm.g i).1)) fun i hi => by rw [snoc_lt (by omega)], hsum]
            have : (snoc gv ((sp.g k).1 + (j : Int), ())).g k = ((sp.g k).1 + (j : Int), ()) := by rw [← hg]; exact snoc_at _ _
            rw [this, htm k hkn, W_id (n := ((sp.g k).1 + (j : Int)) * m k) ⟨by omega, by omega⟩]
            exact W_id ⟨by omega, by omega⟩
          obtain ⟨V, v1, v2, v3⟩ := F111xe hm0 hm hsp hn htn htm r fu (k + 1) (s + ((sp.g k).1 + (j : Int)) * m k) (snoc gv ((sp.g k).1 + (j : Int), ())) (by omega) (by omega) (by rw [snoc_n, hg]) (by omega) hsum'
          have b1 : gv.n * 8 ≤ 140737488355328 := by omega
          have b2 : (gv.n + 1) * 8 ≤ 140737488355328 := by omega
          have st : S111x1 (F111 fu) (no_index (sp, (tm, (gv, ((), (((k : Nat) : Int), (fd, ()))))))) (no_index ((sp.g k).1 + (j : Int), ())) =
              bif (goW sp.g m fd.1 fd.2.1 r (k + 1) (s + ((sp.g k).1 + (j : Int)) * m k)).isSome then .out (.ret (V, (true, ()))) else .next ((sp.g k).1 + ((j + 1 : Nat) : Int), ()) := by
            unfold S111x1 Z111x1
            simp only [i1, hle, b1, b2, decide_true, cond_true, and_self, Int.toNat_natCast]
            refine (congrArg (fun o => cl (Ty.dflt T79) o _ _) v1).trans ?_
            simp only [cl_some, q4]
          cases hgw : goW sp.g m fd.1 fd.2.1 r (k + 1) (s + ((sp.g k).1 + (j : Int)) * m k) with
          | none =>
            rw [hgw] at st
            refine .inl ⟨_, st, rfl, fun i hi => ?_⟩
            by_cases q : i = j
            · subst q; exact hgw
            · exact w4 i (by omega)
          | some l =>
            rw [hgw] at st
            obtain ⟨a1, a2, a3⟩ := v3 l hgw
            have hres : goW sp.g m fd.1 fd.2.1 (r + 1) k s = some (((sp.g k).1 + (j : Int)) :: l) := by
              rw [hgo]
              exact fstV_at hj (by simp only [hgw, Option.map_some]) fun i hi => by simp only [w4 i hi, Option.map_none]
            refine .inr ⟨_, st, .inr ⟨V, _, rfl, hres, a1, fun i hi => ?_, fun i hi1 hi2 => ?_⟩⟩
            · rw [a2 i (by omega), snoc_lt (by omega)]
            · by_cases q : i = k
              · subst q
                rw [a2 i (by omega), Nat.sub_self, List.getD_cons_zero]
                have := snoc_at gv ((sp.g i).1 + (j : Int), ())
                rwa [hg] at this
              · rw [a3 i (by omega) hi2]
                have : i - k = (i - (k + 1)) + 1 := by omega
                rw [this, List.getD_cons_succ]
        · rintro x ⟨rfl, w4⟩
          have hle : ¬ (sp.g k).1 + ((lens (sp.g k).1 (sp.g k).2.1 : Nat) : Int) ≤ (sp.g k).2.1 := by unfold lens; omega
          refine ⟨.exit 2 (), ?_, .inl ⟨rfl, ?_⟩⟩
          · unfold S111x1 Z111x1
            simp only [i1, hle, decide_true, decide_false, cond_true, cond_false, and_self, Int.toNat_natCast]
          · rw [hgo]
            exact fstV_all fun i hi => by simp only [w4 i hi, Option.map_none]
      rcases L with ⟨l1, l2⟩ | ⟨V, l, l1, l2, l3, l4, l5⟩
      · rw [l1]
        exact ⟨_, by rw [l2]; rfl, fun _ => rfl, fun l hl => by rw [l2] at hl; cases hl⟩
      · rw [l1]
        refine ⟨V, by rw [l2]; rfl, fun h => (by rw [l2] at h; cases h), fun l' hl' => ?_⟩
        rw [l2] at hl'
        cases hl'
        exact ⟨l3, l4, l5⟩
end
theorem M111xe {f : flightT} (hf : flightB f = true) {u d t : Int} (hu : 50 ≤ u ∧ u ≤ 1000) (hd : 50 ≤ d ∧ d ≤ 1000) (north : Bool) {sp : Sl spanI} (hs : spOK f sp) (hle : ∀ j, j < sp.n → (sp.g j).1 ≤ (sp.g j).2.1) :
    ∃ V : rowI, M111 (no_index (sp, (times f u d t f.1.n, (fnd f north, ((⟨0, fun i => ((0 : Int), ())⟩ : rowI), ()))))) = some (V, ((goD f u d t north sp.g).isSome, ())) ∧ (goD f u d t north sp.g = none → V.n = 0) ∧ ∀ l, goD f u d t north sp.g = some l → IsRow V l := by
  have hn4 := (flightB_t hf).2.1
  have hsn := hs.1
  have hmn : ∀ j, 0 ≤ mins f.1 u d t j ∨ f.1.n ≤ j := fun j => by
    by_cases q : j < f.1.n
    · exact .inl (mins_bd hf hu hd q).1
    · exact .inr (by omega)
  have key : ∀ (m : Nat → Int), (∀ j, j < f.1.n → m j = mins f.1 u d t j) → ∀ r k s, k + r = f.1.n → goW sp.g m (fnd f north).1 (fnd f north).2.1 r k s = goW sp.g (mins f.1 u d t) (fnd f north).1 (fnd f north).2.1 r k s := by
    intro m hm r
    induction r with
    | zero => intro k s _; rfl
    | succ r ih =>
      intro k s hk
      unfold goW
      rw [hm k (by omega)]
      congr 1
      funext w
      rw [ih (k + 1) _ (by omega)]
  have hm' : ∀ j, j < f.1.n → (if j < f.1.n then mins f.1 u d t j else 0) = mins f.1 u d t j := fun j hj => by simp [hj]
  obtain ⟨V, v1, v2, v3⟩ := F111xe (sp := sp) (fd := fnd f north) (tm := times f u d t f.1.n) (m := fun j => if j < f.1.n then mins f.1 u d t j else 0) (fun j => by
      by_cases q : j < f.1.n
      · simp only [q, if_true]; exact (mins_bd hf hu hd q).1
      · simp only [q, if_false]; omega) (fun j hj => by rw [hm' j (by omega)]; exact mins_bd hf hu hd (by omega)) (fun j hj => ⟨(hs.2 j hj).1, hle j hj, (hs.2 j hj).2⟩) (by omega) (by rw [times_n]; omega) (fun j hj => by rw [times_g f (by omega), hm' j (by omega)])
      sp.n 6 0 0 (⟨0, fun i => ((0 : Int), ())⟩ : rowI) (by omega) (by omega) rfl (by omega) rfl
  rw [key _ hm' sp.n 0 0 (by omega)] at v1 v2 v3
  rw [hsn] at v1 v2 v3
  refine ⟨V, v1, v2, fun l hl => ?_⟩
  obtain ⟨a1, _, a3⟩ := v3 l hl
  refine ⟨by rw [goD_len hl]; exact a1, fun i hi => ?_⟩
  have := a3 i (by omega) (by omega)
  rwa [Nat.sub_zero] at this
end Go.Dm


/- The rule's search for winds. -/
import Derived.Test.YtlfgdpjompacjaaL8NP14
set_option linter.unusedVariables false
set_option linter.unusedSimpArgs false
namespace Go.Dm
set_option maxRecDepth 100000

/-- Rounds that go on or end, as a relation. -/
theorem iterQ_rel2 {ps : List Pat} {wy : Ways} {step : (patsTy ps).den → RQ ps wy} {N : Nat} {P : Nat → (patsTy ps).den → Prop} {Q : LQ wy → Prop} (k : Nat) (hk : k < N)
    (h1 : ∀ j s, j < k → P j s → (∃ s', step s = .next s' ∧ P (j + 1) s') ∨ ∃ q, step s = .out q ∧ Q q) (h2 : ∀ s, P k s → ∃ q, step s = .out q ∧ Q q) (s : (patsTy ps).den) (h0 : P 0 s) : Q (iterQ step N s) := by
  have : ∀ d j s n, j + d = k → d < n → P j s → Q (iterQ step n s) := by
    intro d
    induction d with
    | zero =>
      intro j s n e hn hp
      obtain rfl : j = k := by omega
      cases n with
      | zero => omega
      | succ n =>
        obtain ⟨q, e, hq⟩ := h2 s hp
        simp only [iterQ, e]; exact hq
    | succ d ih =>
      intro j s n e hn hp
      cases n with
      | zero => omega
      | succ n =>
        rcases h1 j s (by omega) hp with ⟨s', e1, hp'⟩ | ⟨q, e1, hq⟩
        · simp only [iterQ, e1]; exact ih (j + 1) s' n (by omega) (by omega) hp'
        · simp only [iterQ, e1]; exact hq
  exact this k 0 s N (by omega) hk h0

abbrev keyI : Type := Int × Int × Unit
abbrev deadT : Type := keyI → Option Bool
theorem setSl_g {α : Type} (s : Sl α) (i j : Nat) (x : α) : (setSl s i x).g j = bif Nat.beq j i then x else s.g j := rfl
theorem setSl_at {α : Type} (s : Sl α) (i : Nat) (x : α) : (setSl s i x).g i = x := by rw [setSl_g, Nat.beq_refl]; rfl
theorem setSl_ne {α : Type} (s : Sl α) {i j : Nat} (x : α) (h : j ≠ i) : (setSl s i x).g j = s.g j := by rw [setSl_g, show Nat.beq j i = false from beq_ne h]; rfl
def bArg (k s : Int) (sp : Sl spanI) (fd : spanI) (fl : flyT) (W : rowI) (D : deadT) : (patsTy ps124).den :=
  ((k, (s, ())), ((), ((), ((), ((), ((), ((), ((sp, ()), (fd, (((), ()), (fl, (((), ()), (((), ()), (W, (D, ())))))))))))))))
def bOut (b : Bool) (sp : Sl spanI) (fd : spanI) (fl : flyT) (W : rowI) (D : deadT) : GO r124 (objPats ps124) :=
  .ok (b, ()) ((sp, ()), (fd, (((), ()), (fl, (((), ()), (((), ()), (W, (D, ()))))))))
section
variable {f : flightT} {u d t : Int} {sp : Sl spanI} {fd : spanI}
/-- What is known to be dead is. -/
def DeadOK (sp : Sl spanI) (m : Nat → Int) (fd : spanI) (D : deadT) : Prop := ∀ (k : Nat) (s : Int), k ≤ sp.n → Option.getD (D ((k : Int), (s, ()))) false = true → goW sp.g m fd.1 fd.2.1 (sp.n - k) k s = none
theorem eqK (p q a b : Int) : eqD T4 (p, (q, ())) (a, (b, ())) = (decide (p = a) && (decide (q = b) && true)) := rfl
theorem DeadOK.set {m : Nat → Int} {D : deadT} (h : DeadOK sp m fd D) {k : Nat} {s : Int} (hg : goW sp.g m fd.1 fd.2.1 (sp.n - k) k s = none) : DeadOK sp m fd (setMap (k := T4) (v := .bool) (eqD T4) D ((k : Int), (s, ())) true) := by
  intro k' s' hk' h'
  have h' : Option.getD (bif eqD T4 ((k' : Int), (s', ())) ((k : Int), (s, ())) then some true else D ((k' : Int), (s', ()))) false = true := h'
  rw [eqK] at h'
  by_cases e : k' = k ∧ s' = s
  · rw [e.1, e.2]; exact hg
  · have : (decide ((k' : Int) = (k : Int)) && (decide (s' = s) && true)) = false := by
      by_cases e1 : (k' : Int) = (k : Int)
      · have e2 : ¬ s' = s := fun q => e ⟨by omega, q⟩
        simp [e2]
      · simp [e1]
    rw [this] at h'
    exact h k' s' hk' h'
/-- What a call comes to. -/
def BlowOK (m : Nat → Int) (sp : Sl spanI) (fd : spanI) (fl : flyT) (r k : Nat) (s : Int) (W : rowI) (o : GO r124 (objPats ps124)) : Prop :=
  ∃ W' D', o = bOut (goW sp.g m fd.1 fd.2.1 r k s).isSome sp fd fl W' D' ∧ W'.n = sp.n ∧ DeadOK sp m fd D' ∧ (∀ i, i < k → W'.g i = W.g i) ∧
    ∀ l, goW sp.g m fd.1 fd.2.1 r k s = some l → ∀ i, k ≤ i → i < sp.n → W'.g i = (l.getD (i - k) 0, ())
def lArg (w : Int) (sp : Sl spanI) (fd : spanI) (fl : flyT) (W : rowI) (D : deadT) : (patsTy vs124x0).den := (w, ((sp, ()), (fd, (((), ()), (fl, (((), ()), (((), ()), (D, (W, ())))))))))
def lOut (sp : Sl spanI) (fd : spanI) (fl : flyT) (W : rowI) (D : deadT) : (patsTy (wayP wv124x0 0)).den := ((sp, ()), (fd, (((), ()), (fl, (((), ()), (((), ()), (D, (W, ()))))))))
def LoopB (m : Nat → Int) (sp : Sl spanI) (fd : spanI) (fl : flyT) (r k : Nat) (s : Int) (W : rowI) (q : LQ wv124x0) : Prop :=
  (∃ W' D', q = .exit 0 (lOut sp fd fl W' D') ∧ W'.n = sp.n ∧ DeadOK sp m fd D' ∧ (∀ i, i < k → W'.g i = W.g i) ∧ goW sp.g m fd.1 fd.2.1 (r + 1) k s = none) ∨
  ∃ W' D' l, q = .ret (true, lOut sp fd fl W' D') ∧ W'.n = sp.n ∧ DeadOK sp m fd D' ∧ goW sp.g m fd.1 fd.2.1 (r + 1) k s = some l ∧ (∀ i, i < k → W'.g i = W.g i) ∧ ∀ i, k ≤ i → i < sp.n → W'.g i = (l.getD (i - k) 0, ())
theorem L124xe {fl : flyT} {m : Nat → Int} (hm : ∀ j, j < sp.n → 0 ≤ m j ∧ m j ≤ 200) (hsp : ∀ j, j < sp.n → -100 ≤ (sp.g j).1 ∧ (sp.g j).2.1 ≤ 100) (hn : sp.n ≤ 8)
    {R : (patsTy ps124).den → GO r124 (objPats ps124)} {r k : Nat} (hk : k + (r + 1) = sp.n) {s : Int} (hs : -20000 * (k : Int) ≤ s ∧ s ≤ 20000 * (k : Int))
    (hR : ∀ (s' : Int) (V : rowI) (D : deadT), -20000 * ((k + 1 : Nat) : Int) ≤ s' ∧ s' ≤ 20000 * ((k + 1 : Nat) : Int) → V.n = sp.n → DeadOK sp m fd D → BlowOK m sp fd fl r (k + 1) s' V (R (bArg ((k + 1 : Nat) : Int) s' sp fd fl V D)))
    (V : rowI) (D : deadT) (hV : V.n = sp.n) (hD : DeadOK sp m fd D) :
    LoopB m sp fd fl r k s V (L124x0 R ((), ((), ((), ((), ((), ((), ((), (m k, (((k : Int), (s, ())), ()))))))))) (lArg (sp.g k).1 sp fd fl V D)) := by
  have hkn : k < sp.n := by omega
  have hb := hsp k hkn
  have hmk := hm k hkn
  have hgo : goW sp.g m fd.1 fd.2.1 (r + 1) k s = fstV (fun w => (goW sp.g m fd.1 fd.2.1 r (k + 1) (s + w * m k)).map (w :: ·)) (lens (sp.g k).1 (sp.g k).2.1) (sp.g k).1 := rfl
  have hc : lens (sp.g k).1 (sp.g k).2.1 ≤ 201 := by unfold lens; omega
  have i1 : ((0 : Int) ≤ (k : Int)) ∧ (k : Int) < ((sp.n : Nat) : Int) := by omega
  unfold L124x0
  refine iterQ_rel2 (P := fun j x => ∃ V' D', x = lArg ((sp.g k).1 + (j : Int)) sp fd fl V' D' ∧ V'.n = sp.n ∧ DeadOK sp m fd D' ∧ (∀ i, i < k → V'.g i = V.g i) ∧ ∀ i : Nat, i < j → goW sp.g m fd.1 fd.2.1 r (k + 1) (s + ((sp.g k).1 + (i : Int)) * m k) = none)
    (lens (sp.g k).1 (sp.g k).2.1) (big_lt (n := lens (sp.g k).1 (sp.g k).2.1) (by omega)) ?_ ?_ _ ⟨V, D, by simp, hV, hD, fun i hi => rfl, fun i hi => by omega⟩
  · rintro j x hj ⟨V1, D1, rfl, w1, w2, w3, w4⟩
    have hle : (sp.g k).1 + (j : Int) ≤ (sp.g k).2.1 := by unfold lens at hj; omega
    have hpb := prod_bd (w := (sp.g k).1 + (j : Int)) (m := m k) ⟨by omega, by omega⟩ hmk
    have hs' : -20000 * ((k + 1 : Nat) : Int) ≤ s + ((sp.g k).1 + (j : Int)) * m k ∧ s + ((sp.g k).1 + (j : Int)) * m k ≤ 20000 * ((k + 1 : Nat) : Int) := by omega
    have q1 : W (((sp.g k).1 + (j : Int)) * m k) = ((sp.g k).1 + (j : Int)) * m k := W_id ⟨by omega, by omega⟩
    have q2 : W (s + ((sp.g k).1 + (j : Int)) * m k) = s + ((sp.g k).1 + (j : Int)) * m k := W_id ⟨by omega, by omega⟩
    have q3 : W ((k : Int) + 1) = ((k + 1 : Nat) : Int) := by rw [W_id ⟨by omega, by omega⟩]; rfl
    have q4 : W ((sp.g k).1 + (j : Int) + 1) = (sp.g k).1 + ((j + 1 : Nat) : Int) := by rw [W_id ⟨by omega, by omega⟩]; omega
    obtain ⟨V2, D2, e, v1, v2, v3, v4⟩ := hR (s + ((sp.g k).1 + (j : Int)) * m k) (setSl V1 k ((sp.g k).1 + (j : Int), ())) D1 hs' w1 w2
    have i2 : ((0 : Int) ≤ (k : Int)) ∧ (k : Int) < ((V1.n : Nat) : Int) := by omega
    have i3 : ((0 : Int) ≤ (k : Int)) ∧ (k : Int) < ((V2.n : Nat) : Int) := by omega
    have st : S124x0 R (no_index ((), ((), ((), ((), ((), ((), ((), (m k, (((k : Int), (s, ())), ())))))))))) (lArg ((sp.g k).1 + (j : Int)) sp fd fl V1 D1) =
        bif (goW sp.g m fd.1 fd.2.1 r (k + 1) (s + ((sp.g k).1 + (j : Int)) * m k)).isSome then .out (.ret (true, lOut sp fd fl (setSl V2 k ((sp.g k).1 + (j : Int), ())) D2)) else .next (lArg ((sp.g k).1 + ((j + 1 : Nat) : Int)) sp fd fl V2 D2) := by
      unfold S124x0 Z124x0 lArg
      simp only [i1, i2, hle, q1, q2, q3, decide_true, cond_true, and_self, Int.toNat_natCast]
      refine (congrArg (fun o => onOk o _ _) e).trans ?_
      unfold bOut
      refine (onOk_ok _ _ _ _).trans ?_
      cases (goW sp.g m fd.1 fd.2.1 r (k + 1) (s + ((sp.g k).1 + (j : Int)) * m k)).isSome with
      | false => simp only [q4, Bool.not_false, cond_true, cond_false]
      | true => simp only [i3, Bool.not_true, cond_false, cond_true, and_self, decide_true]; rfl
    cases hg : goW sp.g m fd.1 fd.2.1 r (k + 1) (s + ((sp.g k).1 + (j : Int)) * m k) with
    | none =>
      rw [hg] at st
      refine .inl ⟨_, st, V2, D2, rfl, v1, v2, fun i hi => ?_, fun i hi => ?_⟩
      · rw [v3 i (by omega), setSl_ne _ _ (by omega)]; exact w3 i hi
      · by_cases q : i = j
        · subst q; exact hg
        · exact w4 i (by omega)
    | some l =>
      rw [hg] at st
      have v4 := v4 l hg
      have hres : goW sp.g m fd.1 fd.2.1 (r + 1) k s = some (((sp.g k).1 + (j : Int)) :: l) := by
        rw [hgo]
        exact fstV_at hj (by simp only [hg, Option.map_some]) fun i hi => by simp only [w4 i hi, Option.map_none]
      refine .inr ⟨_, st, .inr ⟨_, _, _, rfl, v1, v2, hres, fun i hi => ?_, fun i hi1 hi2 => ?_⟩⟩
      · rw [setSl_ne _ _ (by omega), v3 i (by omega), setSl_ne _ _ (by omega)]; exact w3 i hi
      · by_cases q : i = k
        · subst q
          rw [setSl_at, Nat.sub_self, List.getD_cons_zero]
        · rw [setSl_ne _ _ q, v4 i (by omega) hi2]
          have : i - k = (i - (k + 1)) + 1 := by omega
          rw [this, List.getD_cons_succ]
  · rintro x ⟨V1, D1, rfl, w1, w2, w3, w4⟩
    have hle : ¬ (sp.g k).1 + ((lens (sp.g k).1 (sp.g k).2.1 : Nat) : Int) ≤ (sp.g k).2.1 := by unfold lens; omega
    refine ⟨.exit 0 (lOut sp fd fl V1 D1), ?_, .inl ⟨V1, D1, rfl, w1, w2, w3, ?_⟩⟩
    · unfold S124x0 Z124x0 lArg
      simp only [i1, hle, decide_true, decide_false, cond_true, cond_false, and_self, Int.toNat_natCast]
      rfl
    · rw [hgo]
      exact fstV_all fun i hi => by simp only [w4 i hi, Option.map_none]
theorem nbeq (n : Nat) : (bif Nat.beq n n then true else false) = true := by rw [Nat.beq_refl]; rfl
theorem F124xe (hf : flightB f = true) (hu : 50 ≤ u ∧ u ≤ 1000) (hd : 50 ≤ d ∧ d ≤ 1000) (hsn : sp.n = f.1.n) (hsp : ∀ j, j < sp.n → -100 ≤ (sp.g j).1 ∧ (sp.g j).2.1 ≤ 100) :
    ∀ (r fu k : Nat) (s : Int) (V : rowI) (D : deadT), k + r = sp.n → r < fu → -20000 * (k : Int) ≤ s ∧ s ≤ 20000 * (k : Int) → V.n = sp.n → DeadOK sp (mins f.1 u d t) fd D →
      BlowOK (mins f.1 u d t) sp fd (fly f u d t) r k s V (F124 fu (bArg (k : Int) s sp fd (fly f u d t) V D))
  | 0, 0, _, _, _, _, _, h, _, _, _ => absurd h (Nat.lt_irrefl 0)
  | r + 1, 0, _, _, _, _, _, h, _, _, _ => absurd h (Nat.not_lt_zero _)
  | 0, fu + 1, k, s, V, D, hk, _, hs, hV, hD => by
    have e : ((k : Int) = ((sp.n : Nat) : Int)) := by omega
    have e73 : M73 (no_index (s, (fd, ()))) = some (inB s fd.1 fd.2.1, ()) := M73xe (s, (fd, ()))
    have hg : (goW sp.g (mins f.1 u d t) fd.1 fd.2.1 0 k s).isSome = inB s fd.1 fd.2.1 := by
      unfold goW
      cases inB s fd.1 fd.2.1 <;> rfl
    refine ⟨V, D, ?_, hV, hD, fun i hi => rfl, fun l hl i h1 h2 => by omega⟩
    rw [hg]
    show U124 (F124 fu) _ = _
    unfold U124 Q124 bArg
    simp only [e, decide_true, cond_true, e73, cl_some, nbeq]
    rfl
  | r + 1, fu + 1, k, s, V, D, hk, hfu, hs, hV, hD => by
    have hn4 := (flightB_t hf).2.1
    have hkn : k < sp.n := by omega
    have e : ¬ ((k : Int) = ((sp.n : Nat) : Int)) := by omega
    have i1 : ((0 : Int) ≤ (k : Int)) ∧ (k : Int) < ((sp.n : Nat) : Int) := by omega
    have hnk : sp.n - k = r + 1 := by omega
    show BlowOK _ _ _ _ _ _ _ _ (U124 (F124 fu) _)
    unfold U124 Q124 bArg
    simp only [e, decide_false, cond_false]
    cases hdead : Option.getD (D ((k : Int), (s, ()))) false with
    | true =>
      have hg := hD k s (by omega) hdead
      rw [hnk] at hg
      refine ⟨V, D, ?_, hV, hD, fun i hi => rfl, fun l hl => by rw [hg] at hl; cases hl⟩
      rw [hg]
      simp only [nbeq, cond_true]
      rfl
    | false =>
      have e118 : M118 (no_index (fly f u d t, ((k : Int), ()))) = some (mins f.1 u d t k, ()) := M118xe f (by omega) (by omega) (by omega)
      simp only [cond_false, e118, cl_some, i1, and_self, decide_true, cond_true, Int.toNat_natCast]
      have L := L124xe (fd := fd) (fl := fly f u d t) (m := mins f.1 u d t) (fun j hj => mins_bd hf hu hd (by omega)) hsp (by omega) hk hs
        (fun s' V' D' h1 h2 h3 => F124xe hf hu hd hsn hsp r fu (k + 1) s' V' D' (by omega) (by omega) h1 h2 h3) V D hV hD
      rcases L with ⟨V1, D1, l1, l2, l3, l4, l5⟩ | ⟨V1, D1, l, l1, l2, l3, l4, l5, l6⟩
      · refine ⟨V1, setMap (k := T4) (v := .bool) (eqD T4) D1 ((k : Int), (s, ())) true, ?_, l2, l3.set (by rw [hnk]; exact l5), l4, fun l hl => by rw [l5] at hl; cases hl⟩
        rw [l5]
        refine (congrArg (fun o => onExit o 0 _ (onRet o _ _)) l1).trans ?_
        refine (xe124x0e0 _ _ _).trans ?_
        have eb : Nat.beq V.n V1.n = true := by rw [hV, l2]; exact Nat.beq_refl _
        unfold lOut
        simp only [eb, cond_true]
        rfl
      · refine ⟨V1, D1, ?_, l2, l3, l5, fun l' hl' => ?_⟩
        · rw [l4]
          refine (congrArg (fun o => onExit o 0 _ (onRet o _ _)) l1).trans ?_
          have eb : Nat.beq V.n V1.n = true := by rw [hV, l2]; exact Nat.beq_refl _
          refine (xs124x0e0 _ _ _).trans ?_
          refine (xr124x0 _ _ _).trans ?_
          unfold lOut
          simp only [eb, cond_true]
          rfl
        · rw [l4] at hl'
          cases hl'
          exact l6
end
end Go.Dm


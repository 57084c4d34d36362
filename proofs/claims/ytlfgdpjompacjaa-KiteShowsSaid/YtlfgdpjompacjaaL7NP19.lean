/- The reference's first truth; possible; what First and With come to. -/
import Derived.Test.YtlfgdpjompacjaaL7NP18
set_option linter.unusedVariables false
set_option linter.unusedSimpArgs false
namespace Go.Dm
set_option maxRecDepth 100000

section
variable {f : flightT} {se sn : Sl spanI}
theorem L85b_e (hf : flightB f = true) (hse : spOK f se) (hsn : spOK f sn) (hle : ∀ j, j < se.n → (se.g j).1 ≤ (se.g j).2.1) (hln : ∀ j, j < sn.n → (sn.g j).1 ≤ (sn.g j).2.1) {u : Int} (hu : 50 ≤ u ∧ u ≤ 1000) :
    (fstV (fun d => fstV (fun t => tryT f se.g sn.g (u, d, t)) (lens f.2.2.2.2.2.1 f.2.2.2.2.2.2.1) f.2.2.2.2.2.1) (lens f.2.2.2.1 f.2.2.2.2.1) f.2.2.2.1 = none ∧ (fun q => q = LQ.exit (wy := wv85x0x0) 2 ()) (L85x0x0 (no_index (se, (sn, ((), ((), (u, (f, (zeroT, ())))))))) (no_index (f.2.2.2.1, ())))) ∨
      ∃ r, fstV (fun d => fstV (fun t => tryT f se.g sn.g (u, d, t)) (lens f.2.2.2.2.2.1 f.2.2.2.2.2.2.1) f.2.2.2.2.2.1) (lens f.2.2.2.1 f.2.2.2.2.1) f.2.2.2.1 = some r ∧ (fun (r : tripT) q => ∃ V : truthT, IsTruth V r ∧ q = LQ.ret (wy := wv85x0x0) (true, (V, ()))) r (L85x0x0 (no_index (se, (sn, ((), ((), (u, (f, (zeroT, ())))))))) (no_index (f.2.2.2.1, ()))) := by
  obtain ⟨hl, hn4, h2, h3, h4⟩ := flightB_t hf
  unfold L85x0x0
  refine iterQ_fst (ps := vs85x0x0) (lo := f.2.2.2.1) (hi := f.2.2.2.2.1) (G := fun d => fstV (fun t => tryT f se.g sn.g (u, d, t)) (lens f.2.2.2.2.2.1 f.2.2.2.2.2.2.1) f.2.2.2.2.2.1) (mk := fun t => (t, ())) (QN := fun q => q = LQ.exit (wy := wv85x0x0) 2 ()) (QS := fun (r : tripT) q => ∃ V : truthT, IsTruth V r ∧ q = LQ.ret (wy := wv85x0x0) (true, (V, ())))
    (big_lt (n := lens f.2.2.2.1 f.2.2.2.2.1) (by unfold lens; omega)) (fun d ht1 ht2 => ?_) fun d ht => ?_
  · have q4 : W (d + 1) = d + 1 := W_id ⟨by omega, by omega⟩
    rcases L85c_e hf hse hsn hle hln hu (d := d) ⟨by omega, by omega⟩ with ⟨a, b⟩ | ⟨r, a, V, v1, v2⟩
    · refine .inl ⟨a, ?_⟩
      unfold S85x0x0 Z85x0x0
      simp only [ht2, decide_true, cond_true]
      refine (congrArg (fun o => onExit o 4 _ (onRet o _ _)) b).trans ?_
      refine (xe85x0_0_0e4 _ _ _).trans ?_
      rw [q4]
    · refine .inr ⟨r, _, a, ?_, V, v1, rfl⟩
      unfold S85x0x0 Z85x0x0
      simp only [ht2, decide_true, cond_true]
      refine (congrArg (fun o => onExit o 4 _ (onRet o _ _)) v2).trans ?_
      rfl
  · have ht' : ¬ d ≤ f.2.2.2.2.1 := by omega
    refine ⟨_, ?_, rfl⟩
    unfold S85x0x0 Z85x0x0
    simp only [ht', decide_false, cond_false]
theorem M85xe (hf : flightB f = true) (hse : spOK f se) (hsn : spOK f sn) (hle : ∀ j, j < se.n → (se.g j).1 ≤ (se.g j).2.1) (hln : ∀ j, j < sn.n → (sn.g j).1 ≤ (sn.g j).2.1) :
    FstOK (fstT f se.g sn.g) (M85 (no_index (f, (se, (sn, ()))))) := by
  obtain ⟨hl, hn4, h2, h3, h4⟩ := flightB_t hf
  have L : (fstT f se.g sn.g = none ∧ (fun q => q = LQ.exit (wy := wv85x0) 0 ()) (L85x0 (no_index (se, (sn, ((), ((), (f, (zeroT, ()))))))) (no_index (f.2.1, ())))) ∨
      ∃ r, fstT f se.g sn.g = some r ∧ (fun (r : tripT) q => ∃ V : truthT, IsTruth V r ∧ q = LQ.ret (wy := wv85x0) (true, (V, ()))) r (L85x0 (no_index (se, (sn, ((), ((), (f, (zeroT, ()))))))) (no_index (f.2.1, ()))) := by
    rw [fstT_e]
    unfold L85x0
    refine iterQ_fst (ps := vs85x0) (lo := f.2.1) (hi := f.2.2.1) (G := fun u => fstV (fun d => fstV (fun t => tryT f se.g sn.g (u, d, t)) (lens f.2.2.2.2.2.1 f.2.2.2.2.2.2.1) f.2.2.2.2.2.1) (lens f.2.2.2.1 f.2.2.2.2.1) f.2.2.2.1) (mk := fun t => (t, ())) (QN := fun q => q = LQ.exit (wy := wv85x0) 0 ()) (QS := fun (r : tripT) q => ∃ V : truthT, IsTruth V r ∧ q = LQ.ret (wy := wv85x0) (true, (V, ())))
      (big_lt (n := lens f.2.1 f.2.2.1) (by unfold lens; omega)) (fun u ht1 ht2 => ?_) fun u ht => ?_
    · have q4 : W (u + 1) = u + 1 := W_id ⟨by omega, by omega⟩
      rcases L85b_e hf hse hsn hle hln (u := u) ⟨by omega, by omega⟩ with ⟨a, b⟩ | ⟨r, a, V, v1, v2⟩
      · refine .inl ⟨a, ?_⟩
        unfold S85x0 Z85x0
        simp only [ht2, decide_true, cond_true]
        refine (congrArg (fun o => onExit o 2 _ (onRet o _ _)) b).trans ?_
        refine (xe85x0_0e2 _ _ _).trans ?_
        rw [q4]
      · refine .inr ⟨r, _, a, ?_, V, v1, rfl⟩
        unfold S85x0 Z85x0
        simp only [ht2, decide_true, cond_true]
        refine (congrArg (fun o => onExit o 2 _ (onRet o _ _)) v2).trans ?_
        rfl
    · have ht' : ¬ u ≤ f.2.2.1 := by omega
      refine ⟨_, ?_, rfl⟩
      unfold S85x0 Z85x0
      simp only [ht', decide_false, cond_false]
  unfold M85 Q85
  rcases L with ⟨a, b⟩ | ⟨r, a, V, v1, v2⟩
  · refine .inl ⟨a, ?_⟩
    refine (congrArg (fun o => onExit o 0 _ (onRet o _ _)) b).trans ?_
    rfl
  · refine .inr ⟨V, r, a, v1, ?_⟩
    refine (congrArg (fun o => onExit o 0 _ (onRet o _ _)) v2).trans ?_
    rfl
end
theorem M86xe {f : flightT} (h : f.1.n ≤ 8) (north : Bool) : M86 (no_index (f, (north, ()))) = some (spR f north, ()) := by
  have : L86x0 (no_index (north, ((), (f, ())))) (no_index (s0I, ((0 : Int), ()))) = .exit 0 (spR f north, ()) := by
    unfold L86x0
    refine iterQ_steps (ps := vs86x0) f.1.n big (fun j => (tab s0I (spT f north) j, ((j : Int), ()))) (big_lt (by omega)) (fun j hj => ?_) ?_
    · have e1 : ((j : Int) < ((f.1.n : Nat) : Int)) := by omega
      have e3 : W ((j : Int) + 1) = ((j + 1 : Nat) : Int) := by rw [W_id ⟨by omega, by omega⟩]; rfl
      have e7 : ((tab s0I (spT f north) j).n + 1) * 16 ≤ 140737488355328 := by rw [tab_n]; show (0 + j + 1) * 16 ≤ _; omega
      unfold S86x0 Z86x0
      simp only [e1, e3, e7, decide_true, cond_true, Int.toNat_natCast, Int.natCast_nonneg, and_self]
      cases north <;> rfl
    · unfold S86x0 Z86x0
      simp only [Int.lt_irrefl, decide_false, cond_false]
      rfl
  unfold M86 Q86
  refine (congrArg (fun o => onExit o 0 _ _) this).trans ?_
  rfl
theorem spR_ok {f : flightT} (hf : flightB f = true) (north : Bool) : spOK f (spR f north) ∧ ∀ j, j < (spR f north).n → ((spR f north).g j).1 ≤ ((spR f north).g j).2.1 := by
  have key : ∀ j, j < f.1.n → -100 ≤ ((spR f north).g j).1 ∧ ((spR f north).g j).1 ≤ ((spR f north).g j).2.1 ∧ ((spR f north).g j).2.1 ≤ 100 := fun j hj => by
    have := wind_bd hf hj
    rw [spR_g f north hj]
    unfold spT
    cases north
    · simp only [cond_false]; omega
    · simp only [cond_true]; omega
  refine ⟨⟨spR_n f north, fun j hj => ?_⟩, fun j hj => ?_⟩
  · rw [spR_n] at hj; have := key j hj; omega
  · rw [spR_n] at hj; exact (key j hj).2.1
/-- The first truth that fits a flight. -/
def fst0 (f : flightT) : Option tripT := fstT f (spR f false).g (spR f true).g
theorem M34xe {f : flightT} (hf : flightB f = true) : FstOK (fst0 f) (M34 (no_index (f, ()))) := by
  have hn4 := (flightB_t hf).2.1
  have := M85xe hf (spR_ok hf false).1 (spR_ok hf true).1 (spR_ok hf false).2 (spR_ok hf true).2
  unfold M34 Q34
  simp only [M86xe (f := f) (show f.1.n ≤ 8 by omega), cl_some]
  rcases this with ⟨a, b⟩ | ⟨V, r, a, v, b⟩
  · exact .inl ⟨a, by rw [b]; rfl⟩
  · exact .inr ⟨V, r, a, v, by rw [b]; rfl⟩
abbrev wishT : Type := Int × Int × Int × Int × Unit
/-- The wish for one wind of a layer. -/
def oneW (layer : Int) (north : Bool) (n : Int) : wishT := (layer, (wayI north, (n, (n, ()))))
theorem wish_le {f : flightT} (hf : flightB f = true) {w : wishT} (hw : wishOK f w) (hle : w.2.2.1 ≤ w.2.2.2.1) (north : Bool) : ∀ j, j < (wishR f north w).n → ((wishR f north w).g j).1 ≤ ((wishR f north w).g j).2.1 := fun j hj => by
  have hn : (wishR f north w).n = f.1.n := (wish_sp hf hw north).1
  have := (spR_ok hf north).2 j (by rw [spR_n]; omega)
  unfold wishR
  cases decide (wayI north = w.2.1) with
  | false => exact this
  | true =>
    rw [cond_true, setSl_g]
    cases Nat.beq j (Int.toNat w.1) with
    | true => exact hle
    | false => exact this
theorem wayI_e (a b : Bool) : decide (wayI a = wayI b) = (a == b) := by cases a <;> cases b <;> rfl
theorem M88xe {f : flightT} (hf : flightB f = true) {layer : Int} (hl : 0 ≤ layer ∧ layer < (f.1.n : Int)) (north : Bool) {n : Int} (hn : -100 ≤ n ∧ n ≤ 100) :
    FstOK (fstT f (wishR f false (oneW layer north n)).g (wishR f true (oneW layer north n)).g) (M88 (no_index (f, (layer, (north, (n, ())))))) := by
  have hn4 := (flightB_t hf).2.1
  have hw : wishOK f (oneW layer north n) := ⟨hl, hn⟩
  have key := M85xe hf (wish_sp hf hw false) (wish_sp hf hw true) (wish_le hf hw (Int.le_refl _) false) (wish_le hf hw (Int.le_refl _) true)
  have e112 : ∀ b, M112 (no_index (spR f b, (layer, (n, ())))) = some (setSl (spR f b) (Int.toNat layer) (n, (n, ())), ()) := fun b => by
    have b1 : (spR f b).n * 16 ≤ 140737488355328 := by rw [spR_n]; omega
    have b2 : ((0 : Int) ≤ layer) ∧ layer < (((spR f b).n : Nat) : Int) := by rw [spR_n]; exact hl
    unfold M112 Q112
    simp only [b1, b2, and_self, decide_true, cond_true]
  unfold M88 Q88
  simp only [M86xe (f := f) (show f.1.n ≤ 8 by omega), cl_some, e112]
  unfold wishR oneW at key
  simp only [wayI_e] at key
  unfold wishR oneW
  simp only [wayI_e]
  cases north with
  | false =>
    rcases key with ⟨a, b⟩ | ⟨V, r, a, v, b⟩
    · exact .inl ⟨a, by refine (congrArg (fun o => cl (r85).dflt o _ _) b).trans ?_; rfl⟩
    · exact .inr ⟨V, r, a, v, by refine (congrArg (fun o => cl (r85).dflt o _ _) b).trans ?_; rfl⟩
  | true =>
    rcases key with ⟨a, b⟩ | ⟨V, r, a, v, b⟩
    · exact .inl ⟨a, by refine (congrArg (fun o => cl (r85).dflt o _ _) b).trans ?_; rfl⟩
    · exact .inr ⟨V, r, a, v, by refine (congrArg (fun o => cl (r85).dflt o _ _) b).trans ?_; rfl⟩

/-! the rule -/
theorem setTop_id (f : flightT) : setTop f f.2.2.2.2.2.1 f.2.2.2.2.2.2.1 = f := rfl
theorem M80xe {f : flightT} (hf : flightB f = true) {layer : Int} (hl : 0 ≤ layer ∧ layer < (f.1.n : Int)) (north : Bool) :
    M80 (no_index (f, (layer, (wayI north, ())))) = some ((layer, (wayI north, (spR f north).g (Int.toNat layer))), ()) := by
  have hn4 := (flightB_t hf).2.1
  have e := R94xe f 0 0 0 north (show f.1.n ≤ 8 by omega)
  have b0 : Nat.blt 0 (spR f north).n = true := blt0 (by rw [spR_n]; omega)
  have b2 : ((0 : Int) ≤ layer) ∧ layer < (((spR f north).n : Nat) : Int) := by rw [spR_n]; exact hl
  unfold M80 Q80
  refine (congrArg (fun o => cl _ o _ _) e).trans ?_
  simp only [cl_some, b0, b2, and_self, decide_true, cond_true]
theorem anyW {f : flightT} (hf : flightB f = true) {layer : Int} (hl : 0 ≤ layer ∧ layer < (f.1.n : Int)) (north : Bool) :
    wishOK f (layer, (wayI north, (spR f north).g (Int.toNat layer))) ∧ ∀ b, (wishR f b (layer, (wayI north, (spR f north).g (Int.toNat layer)))).g = (spR f b).g := by
  have hi : Int.toNat layer < (spR f north).n := by rw [spR_n]; omega
  refine ⟨⟨hl, (spR_ok hf north).1.2 _ hi⟩, fun b => ?_⟩
  unfold wishR
  simp only [wayI_e]
  cases hb : (b == north) with
  | false => rfl
  | true =>
    have : b = north := by simpa using hb
    subst this
    funext j
    rw [cond_true, setSl_g]
    cases e : Nat.beq j (Int.toNat layer) with
    | true => rw [Nat.eq_of_beq_eq_true e]; rfl
    | false => rfl
theorem M79x0 {f : flightT} (hf : flightB f = true) {layer : Int} (hl : 0 ≤ layer ∧ layer < (f.1.n : Int)) (north : Bool) :
    FstOK (fst0 f) (M79 (no_index (f, ((layer, (wayI north, (spR f north).g (Int.toNat layer))), ((f.2.2.2.2.2.1, (f.2.2.2.2.2.2.1, ())), ()))))) := by
  have := M79xe (f := f) (tl := f.2.2.2.2.2.1) (th := f.2.2.2.2.2.2.1) hf (anyW hf hl north).1
  rw [setTop_id] at this
  rw [(anyW hf hl north).2 false, (anyW hf hl north).2 true] at this
  exact this
theorem M76xn {f : flightT} (h8 : f.1.n ≤ 8) {layer : Int} (h : flightB f = false ∨ ¬ (0 ≤ layer ∧ layer < (f.1.n : Int))) : M76 (no_index (f, (layer, ()))) = some (zeroT, ((2 : Int), ())) := by
  have e92 : M92 (no_index (f, ())) = some (flightB f, ()) := M92xe (x := (f, ())) (show f.1.n ≤ _ by omega)
  have e102 : ∀ a b c : Int, M102 (no_index (a, (b, (c, ())))) = some (inB a b c, ()) := fun a b c => M102xe _
  have hw : W ((f.1.n : Int) - 1) = (f.1.n : Int) - 1 := W_id ⟨by omega, by omega⟩
  unfold M76 Q76
  simp only [e92, e102, cl_some, hw]
  rcases h with h | h
  · rw [h]; rfl
  · have : inB layer 0 ((f.1.n : Int) - 1) = false := decide_eq_false (by omega)
    rw [this]
    cases flightB f <;> rfl
theorem M76xe {f : flightT} (hf : flightB f = true) {layer : Int} (hl : 0 ≤ layer ∧ layer < (f.1.n : Int)) :
    (fst0 f = none ∧ M76 (no_index (f, (layer, ()))) = some (zeroT, ((7 : Int), ()))) ∨ ∃ V r, fst0 f = some r ∧ IsTruth V r ∧ M76 (no_index (f, (layer, ()))) = some (V, ((0 : Int), ())) := by
  have hn4 := (flightB_t hf).2.1
  have e92 : M92 (no_index (f, ())) = some (flightB f, ()) := M92xe (x := (f, ())) (show f.1.n ≤ _ by omega)
  have e102 : ∀ a b c : Int, M102 (no_index (a, (b, (c, ())))) = some (inB a b c, ()) := fun a b c => M102xe _
  have hw : W ((f.1.n : Int) - 1) = (f.1.n : Int) - 1 := W_id ⟨by omega, by omega⟩
  have hin : inB layer 0 ((f.1.n : Int) - 1) = true := decide_eq_true (by omega)
  have h0 : (0 : Int) ≤ 0 ∧ (0 : Int) < (f.1.n : Int) := by omega
  have e80 : M80 (no_index (f, ((0 : Int), ((0 : Int), ())))) = some (((0 : Int), ((0 : Int), (spR f false).g (Int.toNat 0))), ()) := M80xe hf h0 false
  have key := M79x0 hf h0 false
  unfold M76 Q76
  simp only [e92, e102, cl_some, hw, hf, hin, e80, Bool.not_true, cond_false]
  rcases key with ⟨a, b⟩ | ⟨V, r, a, v, b⟩
  · refine .inl ⟨a, ?_⟩
    refine (congrArg (fun o => cl (r79).dflt o _ _) b).trans ?_
    rfl
  · refine .inr ⟨V, r, a, v, ?_⟩
    refine (congrArg (fun o => cl (r79).dflt o _ _) b).trans ?_
    rfl

/-! the same truths -/
theorem isRow_same {a b : rowI} {l : List Int} (ha : IsRow a l) (hb : IsRow b l) (h : l.length ≤ 1000) : M25 (no_index (a, (b, ()))) = some (true, ()) := by
  have := M25xe (x := (a, (b, ()))) (show a.n ≤ _ by rw [ha.1]; omega)
  refine this.trans ?_
  have e1 : a.n = b.n := by rw [ha.1, hb.1]
  have e2 : (List.range a.n).all (fun j => decide ((a.g j).1 = (b.g j).1)) = true := List.all_eq_true.2 fun j hj => by
    have hj : j < a.n := by simpa using hj
    rw [ha.2 j hj, hb.2 j (by omega)]; simp
  show some (decide (a.n = b.n) && (List.range a.n).all (fun j => decide ((a.g j).1 = (b.g j).1)), ()) = _
  rw [e2, decide_eq_true e1]; rfl
theorem fst0xlen {f : flightT} {se sn : Nat → spanI} : ∀ {l : List (Int × Int × Int)} {r : tripT}, fsm (tryT f se sn) l = some r → r.1 ∈ l ∧ tryT f se sn r.1 = some r ∧ r.2.1.length = f.1.n ∧ r.2.2.length = f.1.n
  | x :: l, r, h => by
    simp only [fsm] at h
    cases e : tryT f se sn x with
    | none =>
      rw [e] at h
      obtain ⟨h1, h2⟩ := fst0xlen h
      exact ⟨List.mem_cons_of_mem _ h1, h2⟩
    | some r' =>
      rw [e] at h
      cases h
      have e0 := e
      unfold tryT at e
      cases hm : minB f x with
      | false => rw [hm] at e; cases e
      | true =>
        rw [hm] at e
        cases g0 : goD f x.1 x.2.1 x.2.2 false se with
        | none => rw [g0] at e; cases e
        | some a =>
          cases g1 : goD f x.1 x.2.1 x.2.2 true sn with
          | none => rw [g0, g1] at e; cases e
          | some b =>
            rw [g0, g1] at e
            cases e
            exact ⟨List.mem_cons_self .., e0, goD_len g0, goD_len g1⟩
theorem same_truth {a b : truthT} {r : tripT} (ha : IsTruth a r) (hb : IsTruth b r) (h1 : r.2.1.length ≤ 1000) (h2 : r.2.2.length ≤ 1000) : M33 (no_index (a, (b, ()))) = some (true, ()) := by
  obtain ⟨a1, a2, a3, a4, a5⟩ := ha
  obtain ⟨b1, b2, b3, b4, b5⟩ := hb
  have e1 : a.1 = b.1 := a1.trans b1.symm
  have e2 : a.2.1 = b.2.1 := a2.trans b2.symm
  have e3 : a.2.2.1 = b.2.2.1 := a3.trans b3.symm
  have s1 := isRow_same a4 b4 h1
  have s2 : M25 (no_index (a.2.2.2.2.1, b.2.2.2.2)) = some (true, ()) := isRow_same a5 b5 h2
  unfold M33 Q33
  simp only [e1, e2, e3, s1, s2, cl_some, decide_true, cond_true]
theorem zero_same : M33 (no_index (zeroT, (zeroT, ()))) = some (true, ()) := by
  have z : IsRow (⟨0, fun _ => ((0 : Int), ())⟩ : rowI) [] := ⟨rfl, fun i hi => absurd hi (Nat.not_lt_zero i)⟩
  exact same_truth (r := ((0, 0, 0), [], [])) ⟨rfl, rfl, rfl, z, z⟩ ⟨rfl, rfl, rfl, z, z⟩ (Nat.zero_le _) (Nat.zero_le _)
def askI (f : flightT) (b : Bool) : Int := bif flightB f && b then bif (fst0 f).isSome then 0 else 7 else 2
theorem M29xe {f : flightT} (h : f.1.n ≤ 8) (b : Bool) : M29 (no_index (f, (b, ()))) = some (askI f b, ()) := by
  have e38 : M38 (no_index (f, ())) = some (flightB f, ()) := M38xe (x := (f, ())) (show f.1.n ≤ _ by omega)
  unfold M29 Q29 askI
  simp only [e38, cl_some]
  cases hf : flightB f with
  | false => rfl
  | true =>
    cases b with
    | false => rfl
    | true =>
      rcases M34xe hf with ⟨a, e⟩ | ⟨V, r, a, _, e⟩
      · simp only [e, a, cl_some]; rfl
      · simp only [e, a, cl_some]; rfl
end Go.Dm


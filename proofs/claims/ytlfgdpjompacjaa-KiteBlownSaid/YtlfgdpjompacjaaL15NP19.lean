/- The reference's first truth; possible; what First and With come to. -/
import Derived.Test.YtlfgdpjompacjaaL15NP18
set_option linter.unusedVariables false
set_option linter.unusedSimpArgs false
namespace Go.Dm
set_option maxRecDepth 100000

section
variable {f : flightT} {se sn : Sl spanI}
end
theorem spR_ok {f : flightT} (hf : flightB f = true) (north : Bool) : spOK f (spR f north) ∧ ∀ j, j < (spR f north).n → ((spR f north).g j).1 ≤ ((spR f north).g j).2.1 := by
  have key : ∀ j, j < f.1.n → -100 ≤ ((spR f north).g j).1 ∧ ((spR f north).g j).1 ≤ ((spR f north).g j).2.1 ∧ ((spR f north).g j).2.1 ≤ 100 := fun j hj => by
    have := wind_bd hf hj
    rw [spR_g f north hj]
    unfold spT
    cases north
    · simp only [cond_false]; omega
    · simp only [cond_true]; omega
  refine ⟨⟨spR_n f north, fun j hj => ?_⟩, fun j hj => ?_⟩
  · rw [spR_n] at hj; have := key j hj; omega
  · rw [spR_n] at hj; exact (key j hj).2.1
/-- The first truth that fits a flight. -/
def fst0 (f : flightT) : Option tripT := fstT f (spR f false).g (spR f true).g
abbrev wishT : Type := Int × Int × Int × Int × Unit
/-- The wish for one wind of a layer. -/
def oneW (layer : Int) (north : Bool) (n : Int) : wishT := (layer, (wayI north, (n, (n, ()))))
theorem wayI_e (a b : Bool) : decide (wayI a = wayI b) = (a == b) := by cases a <;> cases b <;> rfl
/-! the rule -/
theorem setTop_id (f : flightT) : setTop f f.2.2.2.2.2.1 f.2.2.2.2.2.2.1 = f := rfl
theorem M80xe {f : flightT} (hf : flightB f = true) {layer : Int} (hl : 0 ≤ layer ∧ layer < (f.1.n : Int)) (north : Bool) :
    M80 (no_index (f, (layer, (wayI north, ())))) = some ((layer, (wayI north, (spR f north).g (Int.toNat layer))), ()) := by
  have hn4 := (flightB_t hf).2.1
  have e := R94xe f 0 0 0 north (show f.1.n ≤ 8 by omega)
  have b0 : Nat.blt 0 (spR f north).n = true := blt0 (by rw [spR_n]; omega)
  have b2 : ((0 : Int) ≤ layer) ∧ layer < (((spR f north).n : Nat) : Int) := by rw [spR_n]; exact hl
  unfold M80 Q80
  refine (congrArg (fun o => cl _ o _ _) e).trans ?_
  simp only [cl_some, b0, b2, and_self, decide_true, cond_true]
theorem anyW {f : flightT} (hf : flightB f = true) {layer : Int} (hl : 0 ≤ layer ∧ layer < (f.1.n : Int)) (north : Bool) :
    wishOK f (layer, (wayI north, (spR f north).g (Int.toNat layer))) ∧ ∀ b, (wishR f b (layer, (wayI north, (spR f north).g (Int.toNat layer)))).g = (spR f b).g := by
  have hi : Int.toNat layer < (spR f north).n := by rw [spR_n]; omega
  refine ⟨⟨hl, (spR_ok hf north).1.2 _ hi⟩, fun b => ?_⟩
  unfold wishR
  simp only [wayI_e]
  cases hb : (b == north) with
  | false => rfl
  | true =>
    have : b = north := by simpa using hb
    subst this
    funext j
    rw [cond_true, setSl_g]
    cases e : Nat.beq j (Int.toNat layer) with
    | true => rw [Nat.eq_of_beq_eq_true e]; rfl
    | false => rfl
theorem M79x0 {f : flightT} (hf : flightB f = true) {layer : Int} (hl : 0 ≤ layer ∧ layer < (f.1.n : Int)) (north : Bool) :
    FstOK (fst0 f) (M79 (no_index (f, ((layer, (wayI north, (spR f north).g (Int.toNat layer))), ((f.2.2.2.2.2.1, (f.2.2.2.2.2.2.1, ())), ()))))) := by
  have := M79xe (f := f) (tl := f.2.2.2.2.2.1) (th := f.2.2.2.2.2.2.1) hf (anyW hf hl north).1
  rw [setTop_id] at this
  rw [(anyW hf hl north).2 false, (anyW hf hl north).2 true] at this
  exact this
theorem M76xe {f : flightT} (hf : flightB f = true) {layer : Int} (hl : 0 ≤ layer ∧ layer < (f.1.n : Int)) :
    (fst0 f = none ∧ M76 (no_index (f, (layer, ()))) = some (zeroT, ((7 : Int), ()))) ∨ ∃ V r, fst0 f = some r ∧ IsTruth V r ∧ M76 (no_index (f, (layer, ()))) = some (V, ((0 : Int), ())) := by
  have hn4 := (flightB_t hf).2.1
  have e92 : M92 (no_index (f, ())) = some (flightB f, ()) := M92xe (x := (f, ())) (show f.1.n ≤ _ by omega)
  have e102 : ∀ a b c : Int, M102 (no_index (a, (b, (c, ())))) = some (inB a b c, ()) := fun a b c => M102xe _
  have hw : W ((f.1.n : Int) - 1) = (f.1.n : Int) - 1 := W_id ⟨by omega, by omega⟩
  have hin : inB layer 0 ((f.1.n : Int) - 1) = true := decide_eq_true (by omega)
  have h0 : (0 : Int) ≤ 0 ∧ (0 : Int) < (f.1.n : Int) := by omega
  have e80 : M80 (no_index (f, ((0 : Int), ((0 : Int), ())))) = some (((0 : Int), ((0 : Int), (spR f false).g (Int.toNat 0))), ()) := M80xe hf h0 false
  have key := M79x0 hf h0 false
  unfold M76 Q76
  simp only [e92, e102, cl_some, hw, hf, hin, e80, Bool.not_true, cond_false]
  rcases key with ⟨a, b⟩ | ⟨V, r, a, v, b⟩
  · refine .inl ⟨a, ?_⟩
    refine (congrArg (fun o => cl (r79).dflt o _ _) b).trans ?_
    rfl
  · refine .inr ⟨V, r, a, v, ?_⟩
    refine (congrArg (fun o => cl (r79).dflt o _ _) b).trans ?_
    rfl

/-! the same truths -/
theorem fst0xlen {f : flightT} {se sn : Nat → spanI} : ∀ {l : List (Int × Int × Int)} {r : tripT}, fsm (tryT f se sn) l = some r → r.1 ∈ l ∧ tryT f se sn r.1 = some r ∧ r.2.1.length = f.1.n ∧ r.2.2.length = f.1.n
  | x :: l, r, h => by
    simp only [fsm] at h
    cases e : tryT f se sn x with
    | none =>
      rw [e] at h
      obtain ⟨h1, h2⟩ := fst0xlen h
      exact ⟨List.mem_cons_of_mem _ h1, h2⟩
    | some r' =>
      rw [e] at h
      cases h
      have e0 := e
      unfold tryT at e
      cases hm : minB f x with
      | false => rw [hm] at e; cases e
      | true =>
        rw [hm] at e
        cases g0 : goD f x.1 x.2.1 x.2.2 false se with
        | none => rw [g0] at e; cases e
        | some a =>
          cases g1 : goD f x.1 x.2.1 x.2.2 true sn with
          | none => rw [g0, g1] at e; cases e
          | some b =>
            rw [g0, g1] at e
            cases e
            exact ⟨List.mem_cons_self .., e0, goD_len g0, goD_len g1⟩
end Go.Dm


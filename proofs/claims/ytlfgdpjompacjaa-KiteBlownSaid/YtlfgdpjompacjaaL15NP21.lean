/- The laws KiteWinds and KiteShows. -/
import Derived.Test.YtlfgdpjompacjaaL15NP20
set_option linter.unusedVariables false
set_option linter.unusedSimpArgs false
namespace Go.Dm
set_option maxRecDepth 100000

theorem M79xw {f : flightT} (hf : flightB f = true) {layer : Int} (hl : 0 ≤ layer ∧ layer < (f.1.n : Int)) (north : Bool) {n : Int} (hn : -100 ≤ n ∧ n ≤ 100) :
    FstOK (fstT f (wishR f false (oneW layer north n)).g (wishR f true (oneW layer north n)).g) (M79 (no_index (f, ((layer, (wayI north, (n, (n, ())))), ((f.2.2.2.2.2.1, (f.2.2.2.2.2.2.1, ())), ()))))) := by
  have := M79xe (f := f) (tl := f.2.2.2.2.2.1) (th := f.2.2.2.2.2.2.1) hf (w := oneW layer north n) ⟨hl, hn⟩
  rw [setTop_id] at this
  exact this
theorem M110xe {f : flightT} (hf : flightB f = true) {layer : Int} (hl : 0 ≤ layer ∧ layer < (f.1.n : Int)) (north : Bool) {n : Int} (hn : -100 ≤ n ∧ n ≤ 100) :
    M110 (no_index (n, (f, ((layer, ()), ((wayI north, ()), ()))))) = some (okN f layer north n, ()) := by
  obtain ⟨V, e⟩ := (M79xw hf hl north hn).is
  have e81 : M81 (no_index (n, ())) = some ((n, (n, ())), ()) := rfl
  unfold M110 Q110
  simp only [e81, cl_some]
  refine (congrArg (fun o => cl (r79).dflt o _ _) e).trans ?_
  rfl
theorem blows_e {f : flightT} (hf : flightB f = true) {layer : Int} (hl : 0 ≤ layer ∧ layer < (f.1.n : Int)) (north : Bool) : ∀ x : Int, -100 ≤ x → x ≤ 100 →
    (fun y1 : Int × Unit => ((p110 (y1.1, (f, ((layer, ()), ((wayI north, ()), ()))))), (v110 (y1.1, (f, ((layer, ()), ((wayI north, ()), ()))))))) (x, ()) = (true, (okN f layer north x, ())) := fun x h1 h2 => by
  have := M110xe hf hl north (n := x) ⟨h1, h2⟩
  simp only [p110, v110, this]
  rfl
theorem M77xw {f : flightT} (hf : flightB f = true) {layer : Int} (hl : 0 ≤ layer ∧ layer < (f.1.n : Int)) (north : Bool) :
    M77 (no_index (layS f layer north, ((fun y1 : Int × Unit => ((p110 (y1.1, (f, ((layer, ()), ((wayI north, ()), ()))))), (v110 (y1.1, (f, ((layer, ()), ((wayI north, ()), ()))))))), ()))) = some (endS (okN f layer north) (layS f layer north).1 (layS f layer north).2.1, ()) := by
  have hb := layS_bd hf hl north
  exact M77xe (lo := (layS f layer north).1) (hi := (layS f layer north).2.1) (by omega) (fun x h1 h2 => blows_e hf hl north x (by omega) (by omega))
/-- Whether the top can be a number. -/
def topOk (f : flightT) (n : Int) : Bool := (fst0 (setTop f n n)).isSome
theorem setTop_ok {f : flightT} (hf : flightB f = true) {n : Int} (h : f.2.2.2.2.2.1 ≤ n ∧ n ≤ f.2.2.2.2.2.2.1) : flightB (setTop f n n) = true := by
  have h4 := (flightB_t hf).2.2.2.2
  simp only [flightB, headB, Bool.and_eq_true] at hf ⊢
  obtain ⟨a1, a2, a3, a4, a5, a6⟩ := hf
  exact ⟨a1, a2, a3, a4, decide_eq_true (show 1 ≤ n ∧ n ≤ n ∧ n ≤ (f.1.n : Int) by omega), a6⟩
theorem M78xe {f : flightT} (hf : flightB f = true) {n : Int} (h : f.2.2.2.2.2.1 ≤ n ∧ n ≤ f.2.2.2.2.2.2.1) : M78 (no_index (n, (f, ()))) = some (topOk f n, ()) := by
  have hn4 := (flightB_t hf).2.1
  have hs := setTop_ok hf h
  have h0 : (0 : Int) ≤ 0 ∧ (0 : Int) < ((setTop f n n).1.n : Int) := by show (0 : Int) ≤ 0 ∧ (0 : Int) < (f.1.n : Int); omega
  have h0' : (0 : Int) ≤ 0 ∧ (0 : Int) < (f.1.n : Int) := h0
  have e80 : M80 (no_index (f, ((0 : Int), ((0 : Int), ())))) = some (((0 : Int), ((0 : Int), (spR f false).g (Int.toNat 0))), ()) := M80xe hf h0' false
  have e81 : M81 (no_index (n, ())) = some ((n, (n, ())), ()) := rfl
  have key := M79xe (f := f) (tl := n) (th := n) hs (anyW hs h0 false).1
  rw [(anyW hs h0 false).2 false, (anyW hs h0 false).2 true] at key
  obtain ⟨V, e⟩ := key.is
  unfold M78 Q78
  simp only [e80, e81, cl_some]
  refine (congrArg (fun o => cl (r79).dflt o _ _) e).trans ?_
  rfl
theorem M77xt {f : flightT} (hf : flightB f = true) :
    M77 (no_index ((f.2.2.2.2.2.1, (f.2.2.2.2.2.2.1, ())), ((fun y1 : Int × Unit => ((p78 (y1.1, (f, ()))), (v78 (y1.1, (f, ()))))), ()))) = some (endS (topOk f) f.2.2.2.2.2.1 f.2.2.2.2.2.2.1, ()) := by
  obtain ⟨_, hn4, _, _, h4⟩ := flightB_t hf
  refine M77xe (by omega) fun x h1 h2 => ?_
  have := M78xe hf (n := x) ⟨h1, h2⟩
  simp only [p78, v78, this]
  rfl
abbrev windsT : Type := Int × Int × Sl spanI × Sl spanI × Unit
def zeroW : windsT := ((0 : Int), ((0 : Int), ((⟨0, fun _ => ((0 : Int), ((0 : Int), ()))⟩ : Sl spanI), ((⟨0, fun _ => ((0 : Int), ((0 : Int), ()))⟩ : Sl spanI), ()))))
def wiE (f : flightT) (north : Bool) (j : Nat) : spanI := endS (okN f (j : Int) north) (layS f (j : Int) north).1 (layS f (j : Int) north).2.1
/-- What is known of a flight's winds. -/
def winV (f : flightT) (j : Nat) : windsT := ((endS (topOk f) f.2.2.2.2.2.1 f.2.2.2.2.2.2.1).1, ((endS (topOk f) f.2.2.2.2.2.1 f.2.2.2.2.2.2.1).2.1, (tab s0I (wiE f false) j, (tab s0I (wiE f true) j, ()))))
theorem L28xe {f : flightT} (hf : flightB f = true) : L28x0 (no_index (f, ((), ((), (f.1, (((f.1.n : Nat) : Int), (zeroW, ()))))))) (no_index ((0 : Int), (winV f 0, ()))) = .exit 0 (winV f f.1.n, ()) := by
  have hn4 := (flightB_t hf).2.1
  unfold L28x0
  refine iterQ_steps (ps := vs28x0) f.1.n big (fun j => ((j : Int), (winV f j, ()))) (big_lt (by omega)) (fun j hj => ?_) ?_
  · have e1 : ((j : Int) < ((f.1.n : Nat) : Int)) := by omega
    have i1 : ((0 : Int) ≤ (j : Int)) ∧ (j : Int) < ((f.1.n : Nat) : Int) := by omega
    have e3 : W ((j : Int) + 1) = ((j + 1 : Nat) : Int) := by rw [W_id ⟨by omega, by omega⟩]; rfl
    have b0 : ∀ b, ((tab s0I (wiE f b) j).n + 1) * 16 ≤ 140737488355328 := fun b => by rw [tab_n]; show (0 + j + 1) * 16 ≤ _; omega
    have m0 := M77xw hf (layer := (j : Int)) (by omega) false
    have m1 := M77xw hf (layer := (j : Int)) (by omega) true
    have l0 : layS f (j : Int) false = ((f.1.g j).2.1, ((f.1.g j).2.2.1, ())) := by unfold layS; rw [Int.toNat_natCast, spR_g f false hj]; rfl
    have l1 : layS f (j : Int) true = (f.1.g j).2.2.2 := by unfold layS; rw [Int.toNat_natCast, spR_g f true hj]; rfl
    have w0 : endS (okN f (j : Int) false) (layS f (j : Int) false).1 (layS f (j : Int) false).2.1 = wiE f false j := rfl
    have w1 : endS (okN f (j : Int) true) (layS f (j : Int) true).1 (layS f (j : Int) true).2.1 = wiE f true j := rfl
    rw [w0, l0] at m0
    rw [w1, l1] at m1
    have e82 : ∀ b : Bool, M82 (no_index (f, ((j : Int), (wayI b, ())))) = some ((fun y1 : Int × Unit => ((p110 (y1.1, (f, (((j : Int), ()), ((wayI b, ()), ()))))), (v110 (y1.1, (f, (((j : Int), ()), ((wayI b, ()), ()))))))), ()) := fun b => rfl
    have c0 : M82 (no_index (f, ((j : Int), ((0 : Int), ())))) = _ := e82 false
    have c1 : M82 (no_index (f, ((j : Int), ((1 : Int), ())))) = _ := e82 true
    unfold S28x0 Z28x0
    simp only [e1, i1, and_self, decide_true, cond_true, Int.toNat_natCast, c0, c1, cl_some, m0, m1]
    unfold winV
    simp only [b0, decide_true, cond_true, e3]
    rfl
  · unfold S28x0 Z28x0
    simp only [Int.lt_irrefl, decide_false, cond_false]
theorem M28xe {f : flightT} (hf : flightB f = true) : (fst0 f = none ∧ M28 (no_index (f, ())) = some (zeroW, ((7 : Int), ()))) ∨ ∃ r, fst0 f = some r ∧ M28 (no_index (f, ())) = some (winV f f.1.n, ((0 : Int), ())) := by
  have hn4 := (flightB_t hf).2.1
  unfold M28 Q28
  rcases M76xe hf (layer := 0) ⟨by omega, by omega⟩ with ⟨a, e⟩ | ⟨V, r, a, v, e⟩
  · refine .inl ⟨a, ?_⟩
    simp only [e, cl_some]
    rfl
  · refine .inr ⟨r, a, ?_⟩
    have d : decide ((0 : Int) = 0) = true := rfl
    simp only [e, cl_some, d, decide_true, Bool.not_true, cond_false, M77xt hf]
    refine (congrArg (fun o => onExit o 0 _ _) (L28xe hf)).trans ?_
    rfl
/-! the reference -/
/-! the truth that shows an end -/
theorem end_bd (c : Int → Bool) {lo hi : Int} (h : -100 ≤ lo ∧ lo ≤ hi ∧ hi ≤ 100) (high : Bool) : -100 ≤ endN c lo hi high ∧ endN c lo hi high ≤ 100 := by
  unfold endN
  cases e : fstN (fun j => c (atE lo hi high j)) (lens lo hi) with
  | none => show (-100 : Int) ≤ 0 ∧ (0 : Int) ≤ 100; omega
  | some k =>
    have := (fstN_some e).1
    unfold lens at this
    unfold atE
    cases high
    · simp only [cond_false]; omega
    · simp only [cond_true]; omega
def endW (f : flightT) (layer : Int) (north high : Bool) : Int := endN (okN f layer north) (layS f layer north).1 (layS f layer north).2.1 high
/-- The first truth in which a wind is at an end of its bounds. -/
def fstE (f : flightT) (layer : Int) (north high : Bool) : Option tripT := fstT f (wishR f false (oneW layer north (endW f layer north high))).g (wishR f true (oneW layer north (endW f layer north high))).g
/-- What shows a truth. -/
def ShwOK (g : Option tripT) (V : truthT) : Prop := (g = none ∧ V = zeroT) ∨ ∃ r, g = some r ∧ IsTruth V r
theorem FstOK.shw {g : Option tripT} {o : Option (truthT × Bool × Unit)} (h : FstOK g o) : ∃ V b, o = some (V, (b, ())) ∧ ShwOK g V := by
  rcases h with ⟨a, b⟩ | ⟨V, r, a, v, b⟩
  · exact ⟨_, _, b, .inl ⟨a, rfl⟩⟩
  · exact ⟨V, _, b, .inr ⟨r, a, v⟩⟩
theorem M35xe {f : flightT} (hf : flightB f = true) {layer : Int} (hl : 0 ≤ layer ∧ layer < (f.1.n : Int)) (north high : Bool) :
    (fst0 f = none ∧ M35 (no_index (f, (layer, (north, (high, ()))))) = some (zeroT, ((7 : Int), ()))) ∨ ∃ V r, fst0 f = some r ∧ M35 (no_index (f, (layer, (north, (high, ()))))) = some (V, ((0 : Int), ())) ∧ ShwOK (fstE f layer north high) V := by
  have hb := layS_bd hf hl north
  have hn4 := (flightB_t hf).2.1
  have hi : Int.toNat layer < f.1.n := by omega
  unfold M35 Q35
  rcases M76xe hf hl with ⟨a, e⟩ | ⟨V0, r, a, v, e⟩
  · refine .inl ⟨a, ?_⟩
    simp only [e, cl_some]
    rfl
  · have d : decide ((0 : Int) = 0) = true := rfl
    have i1 : ((0 : Int) ≤ layer) ∧ layer < ((f.1.n : Nat) : Int) := hl
    obtain ⟨b, e87⟩ := M87xe (lo := (layS f layer north).1) (hi := (layS f layer north).2.1) (F := fun y1 : Int × Unit => ((p110 (y1.1, (f, ((layer, ()), ((wayI north, ()), ()))))), (v110 (y1.1, (f, ((layer, ()), ((wayI north, ()), ()))))))) (c := okN f layer north) (by omega) (fun x h1 h2 => blows_e hf hl north x (by omega) (by omega)) high
    obtain ⟨V, b', e79, s⟩ := (M79xw hf hl north (n := endW f layer north high) (end_bd _ hb _)).shw
    refine .inr ⟨V, r, a, ?_, s⟩
    have e81 : ∀ n : Int, M81 (no_index (n, ())) = some ((n, (n, ())), ()) := fun _ => rfl
    simp only [e, cl_some, d, Bool.not_true, cond_false, i1, and_self, decide_true, cond_true]
    cases north with
    | true =>
      have l1 : layS f layer true = (f.1.g (Int.toNat layer)).2.2.2 := by unfold layS; rw [spR_g f true hi]; rfl
      rw [l1] at e87
      have e82 : M82 (no_index (f, (layer, ((1 : Int), ())))) = some ((fun y1 : Int × Unit => ((p110 (y1.1, (f, ((layer, ()), (((1 : Int), ()), ()))))), (v110 (y1.1, (f, ((layer, ()), (((1 : Int), ()), ()))))))), ()) := rfl
      simp only [e82, cl_some, cond_true]
      refine (congrArg (fun o => cl (r87).dflt o _ _) e87).trans ?_
      simp only [cl_some, e81]
      have q : endN (okN f layer true) (f.1.g (Int.toNat layer)).2.2.2.1 (f.1.g (Int.toNat layer)).2.2.2.2.1 high = endW f layer true high := by unfold endW; rw [l1]
      rw [q]
      refine (congrArg (fun o => cl (r79).dflt o _ _) e79).trans ?_
      rfl
    | false =>
      have l1 : layS f layer false = ((f.1.g (Int.toNat layer)).2.1, ((f.1.g (Int.toNat layer)).2.2.1, ())) := by unfold layS; rw [spR_g f false hi]; rfl
      rw [l1] at e87
      have e82 : M82 (no_index (f, (layer, ((0 : Int), ())))) = some ((fun y1 : Int × Unit => ((p110 (y1.1, (f, ((layer, ()), (((0 : Int), ()), ()))))), (v110 (y1.1, (f, ((layer, ()), (((0 : Int), ()), ()))))))), ()) := rfl
      simp only [e82, cl_some, cond_false]
      refine (congrArg (fun o => cl (r87).dflt o _ _) e87).trans ?_
      simp only [cl_some, e81]
      have q : endN (okN f layer false) (f.1.g (Int.toNat layer)).2.1 (f.1.g (Int.toNat layer)).2.2.1 high = endW f layer false high := by unfold endW; rw [l1]
      rw [q]
      refine (congrArg (fun o => cl (r79).dflt o _ _) e79).trans ?_
      rfl
end Go.Dm


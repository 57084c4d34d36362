/- The laws KiteWinds and KiteShows. -/
import Derived.Test.YtlfgdpjompacjaaL7NP20
set_option linter.unusedVariables false
set_option linter.unusedSimpArgs false
namespace Go.Dm
set_option maxRecDepth 100000

theorem M79xw {f : flightT} (hf : flightB f = true) {layer : Int} (hl : 0 ≤ layer ∧ layer < (f.1.n : Int)) (north : Bool) {n : Int} (hn : -100 ≤ n ∧ n ≤ 100) :
    FstOK (fstT f (wishR f false (oneW layer north n)).g (wishR f true (oneW layer north n)).g) (M79 (no_index (f, ((layer, (wayI north, (n, (n, ())))), ((f.2.2.2.2.2.1, (f.2.2.2.2.2.2.1, ())), ()))))) := by
  have := M79xe (f := f) (tl := f.2.2.2.2.2.1) (th := f.2.2.2.2.2.2.1) hf (w := oneW layer north n) ⟨hl, hn⟩
  rw [setTop_id] at this
  exact this
theorem M110xe {f : flightT} (hf : flightB f = true) {layer : Int} (hl : 0 ≤ layer ∧ layer < (f.1.n : Int)) (north : Bool) {n : Int} (hn : -100 ≤ n ∧ n ≤ 100) :
    M110 (no_index (n, (f, ((layer, ()), ((wayI north, ()), ()))))) = some (okN f layer north n, ()) := by
  obtain ⟨V, e⟩ := (M79xw hf hl north hn).is
  have e81 : M81 (no_index (n, ())) = some ((n, (n, ())), ()) := rfl
  unfold M110 Q110
  simp only [e81, cl_some]
  refine (congrArg (fun o => cl (r79).dflt o _ _) e).trans ?_
  rfl
theorem blows_e {f : flightT} (hf : flightB f = true) {layer : Int} (hl : 0 ≤ layer ∧ layer < (f.1.n : Int)) (north : Bool) : ∀ x : Int, -100 ≤ x → x ≤ 100 →
    (fun y1 : Int × Unit => ((p110 (y1.1, (f, ((layer, ()), ((wayI north, ()), ()))))), (v110 (y1.1, (f, ((layer, ()), ((wayI north, ()), ()))))))) (x, ()) = (true, (okN f layer north x, ())) := fun x h1 h2 => by
  have := M110xe hf hl north (n := x) ⟨h1, h2⟩
  simp only [p110, v110, this]
  rfl
/-! the reference -/
/-! the truth that shows an end -/
theorem end_bd (c : Int → Bool) {lo hi : Int} (h : -100 ≤ lo ∧ lo ≤ hi ∧ hi ≤ 100) (high : Bool) : -100 ≤ endN c lo hi high ∧ endN c lo hi high ≤ 100 := by
  unfold endN
  cases e : fstN (fun j => c (atE lo hi high j)) (lens lo hi) with
  | none => show (-100 : Int) ≤ 0 ∧ (0 : Int) ≤ 100; omega
  | some k =>
    have := (fstN_some e).1
    unfold lens at this
    unfold atE
    cases high
    · simp only [cond_false]; omega
    · simp only [cond_true]; omega
def endW (f : flightT) (layer : Int) (north high : Bool) : Int := endN (okN f layer north) (layS f layer north).1 (layS f layer north).2.1 high
/-- The first truth in which a wind is at an end of its bounds. -/
def fstE (f : flightT) (layer : Int) (north high : Bool) : Option tripT := fstT f (wishR f false (oneW layer north (endW f layer north high))).g (wishR f true (oneW layer north (endW f layer north high))).g
/-- What shows a truth. -/
def ShwOK (g : Option tripT) (V : truthT) : Prop := (g = none ∧ V = zeroT) ∨ ∃ r, g = some r ∧ IsTruth V r
theorem FstOK.shw {g : Option tripT} {o : Option (truthT × Bool × Unit)} (h : FstOK g o) : ∃ V b, o = some (V, (b, ())) ∧ ShwOK g V := by
  rcases h with ⟨a, b⟩ | ⟨V, r, a, v, b⟩
  · exact ⟨_, _, b, .inl ⟨a, rfl⟩⟩
  · exact ⟨V, _, b, .inr ⟨r, a, v⟩⟩
theorem M37xe {f : flightT} (hf : flightB f = true) {layer : Int} (hl : 0 ≤ layer ∧ layer < (f.1.n : Int)) (north high : Bool) : ∃ V, M37 (no_index (f, (layer, (north, (high, ()))))) = some (V, ()) ∧ ShwOK (fstE f layer north high) V := by
  have hb := layS_bd hf hl north
  have key := fun n hn => (M88xe hf hl north (n := n) hn).shw
  unfold M37 Q37
  simp only [M84xe hf hl north, cl_some]
  cases high with
  | true =>
    obtain ⟨V, b, e, s⟩ := key (endW f layer north true) (end_bd _ hb _)
    refine ⟨V, ?_, s⟩
    have e : M88 (no_index (f, (layer, (north, (endS (okN f layer north) (layS f layer north).1 (layS f layer north).2.1).2)))) = some (V, (b, ())) := e
    simp only [cond_true, e, cl_some]
  | false =>
    obtain ⟨V, b, e, s⟩ := key (endW f layer north false) (end_bd _ hb _)
    refine ⟨V, ?_, s⟩
    have e : M88 (no_index (f, (layer, (north, ((endS (okN f layer north) (layS f layer north).1 (layS f layer north).2.1).1, ()))))) = some (V, (b, ())) := e
    simp only [cond_false, e, cl_some]
theorem M35xe {f : flightT} (hf : flightB f = true) {layer : Int} (hl : 0 ≤ layer ∧ layer < (f.1.n : Int)) (north high : Bool) :
    (fst0 f = none ∧ M35 (no_index (f, (layer, (north, (high, ()))))) = some (zeroT, ((7 : Int), ()))) ∨ ∃ V r, fst0 f = some r ∧ M35 (no_index (f, (layer, (north, (high, ()))))) = some (V, ((0 : Int), ())) ∧ ShwOK (fstE f layer north high) V := by
  have hb := layS_bd hf hl north
  have hn4 := (flightB_t hf).2.1
  have hi : Int.toNat layer < f.1.n := by omega
  unfold M35 Q35
  rcases M76xe hf hl with ⟨a, e⟩ | ⟨V0, r, a, v, e⟩
  · refine .inl ⟨a, ?_⟩
    simp only [e, cl_some]
    rfl
  · have d : decide ((0 : Int) = 0) = true := rfl
    have i1 : ((0 : Int) ≤ layer) ∧ layer < ((f.1.n : Nat) : Int) := hl
    obtain ⟨b, e87⟩ := M87xe (lo := (layS f layer north).1) (hi := (layS f layer north).2.1) (F := fun y1 : Int × Unit => ((p110 (y1.1, (f, ((layer, ()), ((wayI north, ()), ()))))), (v110 (y1.1, (f, ((layer, ()), ((wayI north, ()), ()))))))) (c := okN f layer north) (by omega) (fun x h1 h2 => blows_e hf hl north x (by omega) (by omega)) high
    obtain ⟨V, b', e79, s⟩ := (M79xw hf hl north (n := endW f layer north high) (end_bd _ hb _)).shw
    refine .inr ⟨V, r, a, ?_, s⟩
    have e81 : ∀ n : Int, M81 (no_index (n, ())) = some ((n, (n, ())), ()) := fun _ => rfl
    simp only [e, cl_some, d, Bool.not_true, cond_false, i1, and_self, decide_true, cond_true]
    cases north with
    | true =>
      have l1 : layS f layer true = (f.1.g (Int.toNat layer)).2.2.2 := by unfold layS; rw [spR_g f true hi]; rfl
      rw [l1] at e87
      have e82 : M82 (no_index (f, (layer, ((1 : Int), ())))) = some ((fun y1 : Int × Unit => ((p110 (y1.1, (f, ((layer, ()), (((1 : Int), ()), ()))))), (v110 (y1.1, (f, ((layer, ()), (((1 : Int), ()), ()))))))), ()) := rfl
      simp only [e82, cl_some, cond_true]
      refine (congrArg (fun o => cl (r87).dflt o _ _) e87).trans ?_
      simp only [cl_some, e81]
      have q : endN (okN f layer true) (f.1.g (Int.toNat layer)).2.2.2.1 (f.1.g (Int.toNat layer)).2.2.2.2.1 high = endW f layer true high := by unfold endW; rw [l1]
      rw [q]
      refine (congrArg (fun o => cl (r79).dflt o _ _) e79).trans ?_
      rfl
    | false =>
      have l1 : layS f layer false = ((f.1.g (Int.toNat layer)).2.1, ((f.1.g (Int.toNat layer)).2.2.1, ())) := by unfold layS; rw [spR_g f false hi]; rfl
      rw [l1] at e87
      have e82 : M82 (no_index (f, (layer, ((0 : Int), ())))) = some ((fun y1 : Int × Unit => ((p110 (y1.1, (f, ((layer, ()), (((0 : Int), ()), ()))))), (v110 (y1.1, (f, ((layer, ()), (((0 : Int), ()), ()))))))), ()) := rfl
      simp only [e82, cl_some, cond_false]
      refine (congrArg (fun o => cl (r87).dflt o _ _) e87).trans ?_
      simp only [cl_some, e81]
      have q : endN (okN f layer false) (f.1.g (Int.toNat layer)).2.1 (f.1.g (Int.toNat layer)).2.2.1 high = endW f layer false high := by unfold endW; rw [l1]
      rw [q]
      refine (congrArg (fun o => cl (r79).dflt o _ _) e79).trans ?_
      rfl
theorem M35xn {f : flightT} (h8 : f.1.n ≤ 8) {layer : Int} (h : flightB f = false ∨ ¬ (0 ≤ layer ∧ layer < (f.1.n : Int))) (north high : Bool) : M35 (no_index (f, (layer, (north, (high, ()))))) = some (zeroT, ((2 : Int), ())) := by
  unfold M35 Q35
  simp only [M76xn h8 h, cl_some]
  rfl
theorem shw_same {g : Option tripT} {a b : truthT} (ha : ShwOK g a) (hb : ShwOK g b) (hg : ∀ r, g = some r → r.2.1.length ≤ 1000 ∧ r.2.2.length ≤ 1000) : M33 (no_index (a, (b, ()))) = some (true, ()) := by
  rcases ha with ⟨a1, a2⟩ | ⟨r, a1, a2⟩
  · rcases hb with ⟨b1, b2⟩ | ⟨r, b1, b2⟩
    · rw [a2, b2]; exact zero_same
    · rw [a1] at b1; cases b1
  · rcases hb with ⟨b1, b2⟩ | ⟨r', b1, b2⟩
    · rw [a1] at b1; cases b1
    · rw [a1] at b1
      cases b1
      exact same_truth a2 b2 (hg r a1).1 (hg r a1).2
theorem M7xe (f : flightT) (layer : Int) (north high : Bool) : M7 (no_index (f, (layer, (north, (high, ()))))) = some (true, ()) := by
  have e27 : M27 (no_index (f, ())) = some (decide (((f.1.n : Nat) : Int) ≤ 7), ()) := rfl
  unfold M7 Q7
  simp only [e27, cl_some, known_M]
  by_cases h7 : ((f.1.n : Nat) : Int) ≤ 7
  case neg => simp [h7]
  simp only [h7, decide_true, Bool.not_true, cond_false]
  have h8 : f.1.n ≤ 8 := by omega
  have hw : W ((f.1.n : Int) - 1) = (f.1.n : Int) - 1 := W_id ⟨by omega, by omega⟩
  have e36 : M36 (no_index (f, (layer, ()))) = some (inB layer 0 ((f.1.n : Int) - 1), ()) := by
    have e75 : ∀ a b c : Int, M75 (no_index (a, (b, (c, ())))) = some (inB a b c, ()) := fun a b c => M75xe _
    unfold M36 Q36
    simp only [e75, cl_some, hw]
  simp only [e36, M29xe h8, cl_some, askI]
  by_cases hl : 0 ≤ layer ∧ layer < (f.1.n : Int)
  · have hi : inB layer 0 ((f.1.n : Int) - 1) = true := decide_eq_true (by omega)
    rw [hi]
    cases hf : flightB f with
    | false =>
      simp only [M35xn h8 (.inl hf), cl_some]
      have z := zero_same
      unfold zeroT at z ⊢
      simp [z]
    | true =>
      rcases M35xe hf hl north high with ⟨a, e⟩ | ⟨V, r, a, e, s⟩
      · simp only [e, a, cl_some]
        have z := zero_same
        unfold zeroT at z ⊢
        simp [z]
      · obtain ⟨V', e', s'⟩ := M37xe hf hl north high
        have hs := shw_same s s' fun r hr => by
          obtain ⟨_, _, l1, l2⟩ := fst0xlen (show fsm _ _ = some r from hr)
          omega
        simp only [e, e', a, cl_some]
        simp [hs]
  · have hi : inB layer 0 ((f.1.n : Int) - 1) = false := decide_eq_false (by omega)
    rw [hi]
    simp only [M35xn h8 (.inr hl), cl_some]
    have z := zero_same
    unfold zeroT at z ⊢
    simp [z]
theorem law7 (x : (a7).den) : M7 x = some (true, ()) := by
  obtain ⟨f, l, n, h, ⟨⟩⟩ := x
  exact M7xe f l n h
end Go.Dm


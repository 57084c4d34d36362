/- The laws KiteWinds and KiteShows. -/
import Derived.Test.YtlfgdpjompacjaaL5NP20
set_option linter.unusedVariables false
set_option linter.unusedSimpArgs false
namespace Go.Dm
set_option maxRecDepth 100000

theorem M79xw {f : flightT} (hf : flightB f = true) {layer : Int} (hl : 0 ≤ layer ∧ layer < (f.1.n : Int)) (north : Bool) {n : Int} (hn : -100 ≤ n ∧ n ≤ 100) :
    FstOK (fstT f (wishR f false (oneW layer north n)).g (wishR f true (oneW layer north n)).g) (M79 (no_index (f, ((layer, (wayI north, (n, (n, ())))), ((f.2.2.2.2.2.1, (f.2.2.2.2.2.2.1, ())), ()))))) := by
  have := M79xe (f := f) (tl := f.2.2.2.2.2.1) (th := f.2.2.2.2.2.2.1) hf (w := oneW layer north n) ⟨hl, hn⟩
  rw [setTop_id] at this
  exact this
theorem M110xe {f : flightT} (hf : flightB f = true) {layer : Int} (hl : 0 ≤ layer ∧ layer < (f.1.n : Int)) (north : Bool) {n : Int} (hn : -100 ≤ n ∧ n ≤ 100) :
    M110 (no_index (n, (f, ((layer, ()), ((wayI north, ()), ()))))) = some (okN f layer north n, ()) := by
  obtain ⟨V, e⟩ := (M79xw hf hl north hn).is
  have e81 : M81 (no_index (n, ())) = some ((n, (n, ())), ()) := rfl
  unfold M110 Q110
  simp only [e81, cl_some]
  refine (congrArg (fun o => cl (r79).dflt o _ _) e).trans ?_
  rfl
theorem blows_e {f : flightT} (hf : flightB f = true) {layer : Int} (hl : 0 ≤ layer ∧ layer < (f.1.n : Int)) (north : Bool) : ∀ x : Int, -100 ≤ x → x ≤ 100 →
    (fun y1 : Int × Unit => ((p110 (y1.1, (f, ((layer, ()), ((wayI north, ()), ()))))), (v110 (y1.1, (f, ((layer, ()), ((wayI north, ()), ()))))))) (x, ()) = (true, (okN f layer north x, ())) := fun x h1 h2 => by
  have := M110xe hf hl north (n := x) ⟨h1, h2⟩
  simp only [p110, v110, this]
  rfl
theorem M77xw {f : flightT} (hf : flightB f = true) {layer : Int} (hl : 0 ≤ layer ∧ layer < (f.1.n : Int)) (north : Bool) :
    M77 (no_index (layS f layer north, ((fun y1 : Int × Unit => ((p110 (y1.1, (f, ((layer, ()), ((wayI north, ()), ()))))), (v110 (y1.1, (f, ((layer, ()), ((wayI north, ()), ()))))))), ()))) = some (endS (okN f layer north) (layS f layer north).1 (layS f layer north).2.1, ()) := by
  have hb := layS_bd hf hl north
  exact M77xe (lo := (layS f layer north).1) (hi := (layS f layer north).2.1) (by omega) (fun x h1 h2 => blows_e hf hl north x (by omega) (by omega))
/-- Whether the top can be a number. -/
def topOk (f : flightT) (n : Int) : Bool := (fst0 (setTop f n n)).isSome
theorem setTop_ok {f : flightT} (hf : flightB f = true) {n : Int} (h : f.2.2.2.2.2.1 ≤ n ∧ n ≤ f.2.2.2.2.2.2.1) : flightB (setTop f n n) = true := by
  have h4 := (flightB_t hf).2.2.2.2
  simp only [flightB, headB, Bool.and_eq_true] at hf ⊢
  obtain ⟨a1, a2, a3, a4, a5, a6⟩ := hf
  exact ⟨a1, a2, a3, a4, decide_eq_true (show 1 ≤ n ∧ n ≤ n ∧ n ≤ (f.1.n : Int) by omega), a6⟩
theorem M78xe {f : flightT} (hf : flightB f = true) {n : Int} (h : f.2.2.2.2.2.1 ≤ n ∧ n ≤ f.2.2.2.2.2.2.1) : M78 (no_index (n, (f, ()))) = some (topOk f n, ()) := by
  have hn4 := (flightB_t hf).2.1
  have hs := setTop_ok hf h
  have h0 : (0 : Int) ≤ 0 ∧ (0 : Int) < ((setTop f n n).1.n : Int) := by show (0 : Int) ≤ 0 ∧ (0 : Int) < (f.1.n : Int); omega
  have h0' : (0 : Int) ≤ 0 ∧ (0 : Int) < (f.1.n : Int) := h0
  have e80 : M80 (no_index (f, ((0 : Int), ((0 : Int), ())))) = some (((0 : Int), ((0 : Int), (spR f false).g (Int.toNat 0))), ()) := M80xe hf h0' false
  have e81 : M81 (no_index (n, ())) = some ((n, (n, ())), ()) := rfl
  have key := M79xe (f := f) (tl := n) (th := n) hs (anyW hs h0 false).1
  rw [(anyW hs h0 false).2 false, (anyW hs h0 false).2 true] at key
  obtain ⟨V, e⟩ := key.is
  unfold M78 Q78
  simp only [e80, e81, cl_some]
  refine (congrArg (fun o => cl (r79).dflt o _ _) e).trans ?_
  rfl
theorem M77xt {f : flightT} (hf : flightB f = true) :
    M77 (no_index ((f.2.2.2.2.2.1, (f.2.2.2.2.2.2.1, ())), ((fun y1 : Int × Unit => ((p78 (y1.1, (f, ()))), (v78 (y1.1, (f, ()))))), ()))) = some (endS (topOk f) f.2.2.2.2.2.1 f.2.2.2.2.2.2.1, ()) := by
  obtain ⟨_, hn4, _, _, h4⟩ := flightB_t hf
  refine M77xe (by omega) fun x h1 h2 => ?_
  have := M78xe hf (n := x) ⟨h1, h2⟩
  simp only [p78, v78, this]
  rfl
abbrev windsT : Type := Int × Int × Sl spanI × Sl spanI × Unit
def zeroW : windsT := ((0 : Int), ((0 : Int), ((⟨0, fun _ => ((0 : Int), ((0 : Int), ()))⟩ : Sl spanI), ((⟨0, fun _ => ((0 : Int), ((0 : Int), ()))⟩ : Sl spanI), ()))))
def wiE (f : flightT) (north : Bool) (j : Nat) : spanI := endS (okN f (j : Int) north) (layS f (j : Int) north).1 (layS f (j : Int) north).2.1
/-- What is known of a flight's winds. -/
def winV (f : flightT) (j : Nat) : windsT := ((endS (topOk f) f.2.2.2.2.2.1 f.2.2.2.2.2.2.1).1, ((endS (topOk f) f.2.2.2.2.2.1 f.2.2.2.2.2.2.1).2.1, (tab s0I (wiE f false) j, (tab s0I (wiE f true) j, ()))))
theorem L28xe {f : flightT} (hf : flightB f = true) : L28x0 (no_index (f, ((), ((), (f.1, (((f.1.n : Nat) : Int), (zeroW, ()))))))) (no_index ((0 : Int), (winV f 0, ()))) = .exit 0 (winV f f.1.n, ()) := by
  have hn4 := (flightB_t hf).2.1
  unfold L28x0
  refine iterQ_steps (ps := vs28x0) f.1.n big (fun j => ((j : Int), (winV f j, ()))) (big_lt (by omega)) (fun j hj => ?_) ?_
  · have e1 : ((j : Int) < ((f.1.n : Nat) : Int)) := by omega
    have i1 : ((0 : Int) ≤ (j : Int)) ∧ (j : Int) < ((f.1.n : Nat) : Int) := by omega
    have e3 : W ((j : Int) + 1) = ((j + 1 : Nat) : Int) := by rw [W_id ⟨by omega, by omega⟩]; rfl
    have b0 : ∀ b, ((tab s0I (wiE f b) j).n + 1) * 16 ≤ 140737488355328 := fun b => by rw [tab_n]; show (0 + j + 1) * 16 ≤ _; omega
    have m0 := M77xw hf (layer := (j : Int)) (by omega) false
    have m1 := M77xw hf (layer := (j : Int)) (by omega) true
    have l0 : layS f (j : Int) false = ((f.1.g j).2.1, ((f.1.g j).2.2.1, ())) := by unfold layS; rw [Int.toNat_natCast, spR_g f false hj]; rfl
    have l1 : layS f (j : Int) true = (f.1.g j).2.2.2 := by unfold layS; rw [Int.toNat_natCast, spR_g f true hj]; rfl
    have w0 : endS (okN f (j : Int) false) (layS f (j : Int) false).1 (layS f (j : Int) false).2.1 = wiE f false j := rfl
    have w1 : endS (okN f (j : Int) true) (layS f (j : Int) true).1 (layS f (j : Int) true).2.1 = wiE f true j := rfl
    rw [w0, l0] at m0
    rw [w1, l1] at m1
    have e82 : ∀ b : Bool, M82 (no_index (f, ((j : Int), (wayI b, ())))) = some ((fun y1 : Int × Unit => ((p110 (y1.1, (f, (((j : Int), ()), ((wayI b, ()), ()))))), (v110 (y1.1, (f, (((j : Int), ()), ((wayI b, ()), ()))))))), ()) := fun b => rfl
    have c0 : M82 (no_index (f, ((j : Int), ((0 : Int), ())))) = _ := e82 false
    have c1 : M82 (no_index (f, ((j : Int), ((1 : Int), ())))) = _ := e82 true
    unfold S28x0 Z28x0
    simp only [e1, i1, and_self, decide_true, cond_true, Int.toNat_natCast, c0, c1, cl_some, m0, m1]
    unfold winV
    simp only [b0, decide_true, cond_true, e3]
    rfl
  · unfold S28x0 Z28x0
    simp only [Int.lt_irrefl, decide_false, cond_false]
theorem M28xe {f : flightT} (hf : flightB f = true) : (fst0 f = none ∧ M28 (no_index (f, ())) = some (zeroW, ((7 : Int), ()))) ∨ ∃ r, fst0 f = some r ∧ M28 (no_index (f, ())) = some (winV f f.1.n, ((0 : Int), ())) := by
  have hn4 := (flightB_t hf).2.1
  unfold M28 Q28
  rcases M76xe hf (layer := 0) ⟨by omega, by omega⟩ with ⟨a, e⟩ | ⟨V, r, a, v, e⟩
  · refine .inl ⟨a, ?_⟩
    simp only [e, cl_some]
    rfl
  · refine .inr ⟨r, a, ?_⟩
    have d : decide ((0 : Int) = 0) = true := rfl
    simp only [e, cl_some, d, decide_true, Bool.not_true, cond_false, M77xt hf]
    refine (congrArg (fun o => onExit o 0 _ _) (L28xe hf)).trans ?_
    rfl
theorem M28xn {f : flightT} (h8 : f.1.n ≤ 8) (hf : flightB f = false) : M28 (no_index (f, ())) = some (zeroW, ((2 : Int), ())) := by
  unfold M28 Q28
  simp only [M76xn h8 (layer := 0) (.inl hf), cl_some]
  rfl

/-! the reference -/
theorem L31a_e {f : flightT} (hf : flightB f = true) : L31x0 (no_index ((), ((), ((), (f, (zeroW, ())))))) (no_index (true, (f.2.2.2.2.2.1, (zeroW, ())))) = .exit 0 (winV f 0, ()) := by
  obtain ⟨_, hn4, _, _, h4⟩ := flightB_t hf
  have hln : lens f.2.2.2.2.2.1 f.2.2.2.2.2.2.1 ≤ 4 := by unfold lens; omega
  unfold L31x0
  have z : (true, (f.2.2.2.2.2.1, (zeroW, ()))) = (fun j : Nat => ((widS (topOk f) f.2.2.2.2.2.1 j).1, (f.2.2.2.2.2.1 + (j : Int), (((widS (topOk f) f.2.2.2.2.2.1 j).2.1, ((widS (topOk f) f.2.2.2.2.2.1 j).2.2, zeroW.2.2)), ())))) 0 := by
    simp [widS, zeroW]
  rw [z]
  refine iterQ_steps (ps := vs31x0) (lens f.2.2.2.2.2.1 f.2.2.2.2.2.2.1) big (fun j : Nat => ((widS (topOk f) f.2.2.2.2.2.1 j).1, (f.2.2.2.2.2.1 + (j : Int), (((widS (topOk f) f.2.2.2.2.2.1 j).2.1, ((widS (topOk f) f.2.2.2.2.2.1 j).2.2, zeroW.2.2)), ())))) (big_lt (n := lens f.2.2.2.2.2.1 f.2.2.2.2.2.2.1) (by omega)) (fun j hj => ?_) ?_
  · have hle : f.2.2.2.2.2.1 + (j : Int) ≤ f.2.2.2.2.2.2.1 := by unfold lens at hj; omega
    have q4 : W (f.2.2.2.2.2.1 + (j : Int) + 1) = f.2.2.2.2.2.1 + ((j + 1 : Nat) : Int) := by rw [W_id ⟨by omega, by omega⟩]; omega
    obtain ⟨V, e⟩ := (M34xe (setTop_ok hf (n := f.2.2.2.2.2.1 + (j : Int)) ⟨by omega, by omega⟩)).is
    have e : M34 (no_index ((f.1, (f.2.1, (f.2.2.1, (f.2.2.2.1, (f.2.2.2.2.1, (f.2.2.2.2.2.1 + (j : Int), (f.2.2.2.2.2.1 + (j : Int), f.2.2.2.2.2.2.2))))))), ())) = some (V, (topOk f (f.2.2.2.2.2.1 + (j : Int)), ())) := e
    unfold S31x0 Z31x0
    simp only [hle, decide_true, cond_true, e, cl_some, q4]
    have ws : widS (topOk f) f.2.2.2.2.2.1 (j + 1) = bif topOk f (f.2.2.2.2.2.1 + (j : Int)) then (false, (bif (widS (topOk f) f.2.2.2.2.2.1 j).1 then (f.2.2.2.2.2.1 + (j : Int), f.2.2.2.2.2.1 + (j : Int)) else (mn (widS (topOk f) f.2.2.2.2.2.1 j).2.1 (f.2.2.2.2.2.1 + (j : Int)), mx (widS (topOk f) f.2.2.2.2.2.1 j).2.2 (f.2.2.2.2.2.1 + (j : Int))))) else widS (topOk f) f.2.2.2.2.2.1 j := rfl
    rw [ws]
    generalize widS (topOk f) f.2.2.2.2.2.1 j = wv
    cases topOk f (f.2.2.2.2.2.1 + (j : Int)) with
    | false => rfl
    | true =>
      simp only [cond_true, M83xe, cl_some]
      cases wv.1 <;> rfl
  · have hle : ¬ f.2.2.2.2.2.1 + ((lens f.2.2.2.2.2.1 f.2.2.2.2.2.2.1 : Nat) : Int) ≤ f.2.2.2.2.2.2.1 := by unfold lens; omega
    unfold S31x0 Z31x0
    simp only [hle, decide_false, cond_false]
    rw [widS_end]
    rfl
theorem L31b_e {f : flightT} (hf : flightB f = true) : L31x1 (no_index ((), ((), ((), (f, (zeroW, ())))))) (no_index ((0 : Int), (winV f 0, ()))) = .exit 2 (winV f f.1.n, ()) := by
  have hn4 := (flightB_t hf).2.1
  unfold L31x1
  refine iterQ_steps (ps := vs31x1) f.1.n big (fun j => ((j : Int), (winV f j, ()))) (big_lt (by omega)) (fun j hj => ?_) ?_
  · have e1 : ((j : Int) < ((f.1.n : Nat) : Int)) := by omega
    have e3 : W ((j : Int) + 1) = ((j + 1 : Nat) : Int) := by rw [W_id ⟨by omega, by omega⟩]; rfl
    have b0 : ∀ b, ((tab s0I (wiE f b) j).n + 1) * 16 ≤ 140737488355328 := fun b => by rw [tab_n]; show (0 + j + 1) * 16 ≤ _; omega
    have m0 := M84xe hf (layer := (j : Int)) (by omega) false
    have m1 := M84xe hf (layer := (j : Int)) (by omega) true
    unfold S31x1 Z31x1
    simp only [e1, decide_true, cond_true, m0, m1, cl_some, e3]
    unfold winV
    simp only [b0, decide_true, cond_true]
    rfl
  · unfold S31x1 Z31x1
    simp only [Int.lt_irrefl, decide_false, cond_false]
theorem M31xe {f : flightT} (hf : flightB f = true) : M31 (no_index (f, ())) = some (winV f f.1.n, ()) := by
  unfold M31 Q31
  refine (congrArg (fun o => onExit o 0 _ _) (L31a_e hf)).trans ?_
  refine (xe31x0e0 _ _ _).trans ?_
  refine (congrArg (fun o => onExit o 2 _ _) (L31b_e hf)).trans ?_
  rfl
theorem M30xself (w : windsT) (h1 : w.2.2.1.n ≤ 1000) (h2 : w.2.2.2.1.n ≤ 1000) : M30 (no_index (w, (w, ()))) = some (true, ()) := by
  have s1 : M51 (no_index (w.2.2.1, (w.2.2.1, ()))) = some (true, ()) := M51xself _ (by omega)
  have s2 : M51 (no_index (w.2.2.2.1, w.2.2.2)) = some (true, ()) := M51xself _ (by omega)
  unfold M30 Q30
  simp only [decide_true, Bool.and_self, cond_true, s1, s2, cl_some]
theorem M5xe (f : flightT) : M5 (no_index (f, ())) = some (true, ()) := by
  have e27 : M27 (no_index (f, ())) = some (decide (((f.1.n : Nat) : Int) ≤ 7), ()) := rfl
  have z : M30 (no_index (zeroW, (zeroW, ()))) = some (true, ()) := M30xself _ (Nat.zero_le _) (Nat.zero_le _)
  unfold M5 Q5
  simp only [e27, cl_some, known_M]
  by_cases h7 : ((f.1.n : Nat) : Int) ≤ 7
  case neg => simp [h7]
  simp only [h7, decide_true, Bool.not_true, cond_false]
  have h8 : f.1.n ≤ 8 := by omega
  simp only [M29xe h8, cl_some, askI, Bool.and_true]
  cases hf : flightB f with
  | false =>
    simp only [M28xn h8 hf, cl_some]
    unfold zeroW at z ⊢
    simp [z]
  | true =>
    rcases M28xe hf with ⟨a, e⟩ | ⟨r, a, e⟩
    · simp only [e, a, cl_some]
      unfold zeroW at z ⊢
      simp [z]
    · have s : M30 (no_index (winV f f.1.n, (winV f f.1.n, ()))) = some (true, ()) := M30xself _ (by show (tab _ _ _).n ≤ _; rw [tab_n]; show 0 + f.1.n ≤ _; omega) (by show (tab _ _ _).n ≤ _; rw [tab_n]; show 0 + f.1.n ≤ _; omega)
      simp only [e, a, cl_some, M31xe hf]
      simp [s]
theorem law5 (x : (a5).den) : M5 x = some (true, ()) := by
  obtain ⟨f, ⟨⟩⟩ := x
  exact M5xe f

/-! the truth that shows an end -/
end Go.Dm


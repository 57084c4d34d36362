/- The law KiteBlown. -/
import Derived.Test.YtlfgdpjompacjaaL15NP26
set_option linter.unusedVariables false
set_option linter.unusedSimpArgs false
namespace Go.Dm
set_option maxRecDepth 100000

theorem FitT.top {f : flightT} (hf : flightB f = true) {V : truthT} (h : FitT f V) : topOk f V.2.2.1 = true ∧ f.2.2.2.2.2.1 ≤ V.2.2.1 ∧ V.2.2.1 ≤ f.2.2.2.2.2.2.1 := by
  have v := h.val hf
  obtain ⟨m1, m2, m3⟩ := mem_trips.1 v.mem
  have v' : ValT (setTop f V.2.2.1 V.2.2.1) (spR (setTop f V.2.2.1 V.2.2.1) false).g (spR (setTop f V.2.2.1 V.2.2.1) true).g (tripOf V) :=
    ⟨mem_trips.2 ⟨m1, m2, Int.le_refl _, Int.le_refl _⟩, v.min, v.east, v.north⟩
  obtain ⟨r, e, _⟩ := fst_le v'
  refine ⟨?_, m3⟩
  show (fst0 (setTop f V.2.2.1 V.2.2.1)).isSome = true
  unfold fst0
  rw [e]; rfl
theorem FitT.ok {f : flightT} (hf : flightB f = true) {V : truthT} (h : FitT f V) {L : Nat} (hL : L < f.1.n) (north : Bool) : okN f (L : Int) north (ofV V L north) = true := by
  obtain ⟨r, e, _⟩ := h.wish hf hL north
  unfold okN
  rw [e]; rfl
theorem layS_g (f : flightT) (L : Nat) (north : Bool) : layS f (L : Int) north = (spR f north).g L := by unfold layS; rw [Int.toNat_natCast]
theorem FitT.bd {f : flightT} (hf : flightB f = true) {V : truthT} (h : FitT f V) {L : Nat} (hL : L < f.1.n) (north : Bool) :
    ((wiE f north L).1 ≤ ofV V L north ∧ ofV V L north ≤ (wiE f north L).2.1) ∧ ∀ high, okN f (L : Int) north (endW f (L : Int) north high) = true ∧ (layS f (L : Int) north).1 ≤ endW f (L : Int) north high ∧ endW f (L : Int) north high ≤ (layS f (L : Int) north).2.1 := by
  have hw := h.wind north hL
  rw [← layS_g f L north] at hw
  exact end_ok hw.1 hw.2 (h.ok hf hL north)
theorem L15xe {f : flightT} (hf : flightB f = true) {V : truthT} (h : FitT f V) :
    L15x0 (no_index ((), ((), (((f.1.n : Nat) : Int), (V, (winV f f.1.n, ())))))) (no_index ((0 : Int), ())) = .exit 0 () := by
  have hn4 := (flightB_t hf).2.1
  obtain ⟨_, _, _, q1, q2⟩ := fineB_t h.fine
  have w1 : (winV f f.1.n).2.2.1.n = f.1.n := by show (tab _ _ _).n = _; rw [tab_n]; show 0 + f.1.n = _; omega
  have w2 : (winV f f.1.n).2.2.2.1.n = f.1.n := by show (tab _ _ _).n = _; rw [tab_n]; show 0 + f.1.n = _; omega
  unfold L15x0
  refine iterQ_steps (ps := vs15x0) f.1.n big (fun j => ((j : Int), ())) (big_lt (by omega)) (fun j hj => ?_) ?_
  · have e1 : ((j : Int) < ((f.1.n : Nat) : Int)) := by omega
    have i1 : ((0 : Int) ≤ (j : Int)) ∧ (j : Int) < ((f.1.n : Nat) : Int) := by omega
    have e3 : W ((j : Int) + 1) = ((j + 1 : Nat) : Int) := by rw [W_id ⟨by omega, by omega⟩]; rfl
    have g1 : (winV f f.1.n).2.2.1.g j = wiE f false j := tab_g0 (s0 := s0I) rfl hj
    have g2 : (winV f f.1.n).2.2.2.1.g j = wiE f true j := tab_g0 (s0 := s0I) rfl hj
    have b1 := (h.bd hf hj false).1
    have b2 := (h.bd hf hj true).1
    have m1 : M45 (no_index ((V.2.2.2.1.g j).1, (wiE f false j, ()))) = some (true, ()) := (M45xe _).trans (congrArg (fun b => some (b, ())) (inB_i b1.1 b1.2))
    have m2 : M45 (no_index ((V.2.2.2.2.1.g j).1, (wiE f true j, ()))) = some (true, ()) := (M45xe _).trans (congrArg (fun b => some (b, ())) (inB_i b2.1 b2.2))
    unfold S15x0 Z15x0
    simp only [e1, i1, q1, q2, w1, w2, e3, g1, g2, m1, m2, cl_some, decide_true, cond_true, and_self, Int.toNat_natCast, Bool.not_true, cond_false]
  · unfold S15x0 Z15x0
    simp only [Int.lt_irrefl, decide_false, cond_false]
theorem M62xe {f : flightT} {V : truthT} (h : FitT f V) {L : Nat} (hL : L < f.1.n) (north : Bool) : M62 (no_index (V, ((L : Int), (north, ())))) = some (ofV V L north, ()) := by
  obtain ⟨_, _, _, q1, q2⟩ := fineB_t h.fine
  have i1 : ((0 : Int) ≤ (L : Int)) ∧ (L : Int) < ((f.1.n : Nat) : Int) := by omega
  unfold M62 Q62
  cases north
  · simp only [cond_false, q1, i1, and_self, decide_true, cond_true, Int.toNat_natCast]; rfl
  · simp only [cond_true, q2, i1, and_self, decide_true, Int.toNat_natCast]; rfl
theorem FitT.calls {f : flightT} (hf : flightB f = true) {V : truthT} (h : FitT f V) : M56 (no_index (V, ())) = some (true, ()) ∧ M57 (no_index (f, (V, ()))) = some (true, ()) ∧ M60 (no_index (f, (V, ()))) = some (true, ((0 : Int), ())) := by
  have hn4 := (flightB_t hf).2.1
  obtain ⟨_, _, _, q1, q2⟩ := fineB_t h.fine
  have ht : truthF f V.1 V.2.1 V.2.2.1 V.2.2.2.1 V.2.2.2.2.1 = true := by
    have := h.fine
    rw [fineB_e, hf] at this
    simpa using this
  refine ⟨?_, ?_, ?_⟩
  · refine (M56xe _).trans ?_
    show some (decide (((V.2.2.2.1.n : Nat) : Int) ≤ 7) && decide (((V.2.2.2.2.1.n : Nat) : Int) ≤ 7), ()) = _
    rw [decide_eq_true (by omega), decide_eq_true (by omega)]; rfl
  · refine (M57xe f (up := V.1) (down := V.2.1) (top := V.2.2.1) (e := V.2.2.2.1) (n := V.2.2.2.2.1) (by omega)).trans ?_
    rw [ht]
  · refine (M60xe f (up := V.1) (down := V.2.1) (top := V.2.2.1) (e := V.2.2.2.1) (n := V.2.2.2.2.1) (by omega) (by omega) (by omega)).trans ?_
    rw [h.fine, h.fits]; rfl
theorem M15xe (f : flightT) (V : truthT) (layer : Int) (north high : Bool) : M15 (no_index (f, (V, (layer, (north, (high, ())))))) = some (true, ()) := by
  have e27 : M27 (no_index (f, ())) = some (decide (((f.1.n : Nat) : Int) ≤ 7), ()) := rfl
  have e56 : M56 (no_index (V, ())) = some (decide (((V.2.2.2.1.n : Nat) : Int) ≤ 7) && decide (((V.2.2.2.2.1.n : Nat) : Int) ≤ 7), ()) := M56xe _
  unfold M15 Q15
  simp only [e27, e56, cl_some, known_M]
  by_cases h7 : ((f.1.n : Nat) : Int) ≤ 7
  case neg => simp [h7]
  by_cases he : ((V.2.2.2.1.n : Nat) : Int) ≤ 7
  case neg => simp [h7, he]
  by_cases hn : ((V.2.2.2.2.1.n : Nat) : Int) ≤ 7
  case neg => simp [h7, he, hn]
  have h8 : f.1.n ≤ 8 := by omega
  have e38 : M38 (no_index (f, ())) = some (flightB f, ()) := M38xe (x := (f, ())) (show f.1.n ≤ _ by omega)
  have e57 : M57 (no_index (f, (V, ()))) = some (truthF f V.1 V.2.1 V.2.2.1 V.2.2.2.1 V.2.2.2.2.1, ()) := M57xe f (up := V.1) (down := V.2.1) (top := V.2.2.1) (e := V.2.2.2.1) (n := V.2.2.2.2.1) (by omega)
  have hw : W ((f.1.n : Int) - 1) = (f.1.n : Int) - 1 := W_id ⟨by omega, by omega⟩
  have e36 : M36 (no_index (f, (layer, ()))) = some (inB layer 0 ((f.1.n : Int) - 1), ()) := by
    have e75 : ∀ a b c : Int, M75 (no_index (a, (b, (c, ())))) = some (inB a b c, ()) := fun a b c => M75xe _
    unfold M36 Q36
    simp only [e75, cl_some, hw]
  simp only [h7, he, hn, e38, e57, e36, cl_some, decide_true, Bool.and_self, Bool.not_true, cond_false]
  cases hf : flightB f with
  | false => rfl
  | true =>
  cases ht : truthF f V.1 V.2.1 V.2.2.1 V.2.2.2.1 V.2.2.2.2.1 with
  | false => rfl
  | true =>
  by_cases hl : 0 ≤ layer ∧ layer < (f.1.n : Int)
  case neg =>
    have hi : inB layer 0 ((f.1.n : Int) - 1) = false := decide_eq_false (by omega)
    rw [hi]; rfl
  have hi : inB layer 0 ((f.1.n : Int) - 1) = true := decide_eq_true (by omega)
  obtain ⟨L, hLe⟩ : ∃ L : Nat, layer = (L : Int) := ⟨layer.toNat, by omega⟩
  subst hLe
  have hL : L < f.1.n := by omega
  have hn4 := (flightB_t hf).2.1
  have hfine : fineB f V.1 V.2.1 V.2.2.1 V.2.2.2.1 V.2.2.2.2.1 = true := by rw [fineB_e, hf, ht]; rfl
  have e60 : M60 (no_index (f, (V, ()))) = some (fitsB f V.1 V.2.1 V.2.2.1 V.2.2.2.1 V.2.2.2.2.1, ((0 : Int), ())) := by
    have := M60xe f (up := V.1) (down := V.2.1) (top := V.2.2.1) (e := V.2.2.2.1) (n := V.2.2.2.2.1) h8 (by omega) (by omega)
    rw [hfine] at this
    exact this
  rw [hi]
  simp only [e60, cl_some, Bool.not_true, cond_false]
  rcases M28xe hf with ⟨a, e28⟩ | ⟨r0, a, e28⟩
  · -- no truth fits
    have e32 : M32 (no_index (f, ())) = some (zeroT, ((7 : Int), ())) := by
      rcases M76xe hf (layer := 0) ⟨by omega, by omega⟩ with ⟨_, e⟩ | ⟨_, _, a', _, _⟩
      · unfold M32 Q32
        simp only [e, cl_some]
      · rw [a] at a'; cases a'
    have e35 : M35 (no_index (f, ((L : Int), (north, (high, ()))))) = some (zeroT, ((7 : Int), ())) := by
      rcases M35xe hf hl north high with ⟨_, e⟩ | ⟨_, _, a', _, _⟩
      · exact e
      · rw [a] at a'; cases a'
    have hno : fitsB f V.1 V.2.1 V.2.2.1 V.2.2.2.1 V.2.2.2.2.1 = false := by
      cases hq : fitsB f V.1 V.2.1 V.2.2.1 V.2.2.2.1 V.2.2.2.2.1 with
      | false => rfl
      | true =>
        obtain ⟨r, e, _⟩ := FitT.first hf (V := V) ⟨hfine, hq⟩
        rw [a] at e; cases e
    simp only [e28, e32, e35, hno, cl_some]
    rfl
  · -- some truth fits
    obtain ⟨V0, e32, t0⟩ : ∃ V0, M32 (no_index (f, ())) = some (V0, ((0 : Int), ())) ∧ IsTruth V0 r0 := by
      rcases M76xe hf (layer := 0) ⟨by omega, by omega⟩ with ⟨a', _⟩ | ⟨V0, r', a', v, e⟩
      · rw [a] at a'; cases a'
      · rw [a] at a'
        cases a'
        refine ⟨V0, ?_, v⟩
        unfold M32 Q32
        simp only [e, cl_some]
    have v0 := fst_val (show fstT f (spR f false).g (spR f true).g = some r0 from a)
    have f0 := isTruth_fit hf v0 t0
    obtain ⟨ok1, ok2, ok3⟩ := (f0.bd hf hL north).2 high
    obtain ⟨V1, e35, s1⟩ : ∃ V1, M35 (no_index (f, ((L : Int), (north, (high, ()))))) = some (V1, ((0 : Int), ())) ∧ ShwOK (fstE f (L : Int) north high) V1 := by
      rcases M35xe hf hl north high with ⟨a', _⟩ | ⟨V1, _, _, e, s⟩
      · rw [a] at a'; cases a'
      · exact ⟨V1, e, s⟩
    obtain ⟨r1, g1, t1⟩ : ∃ r1, fstE f (L : Int) north high = some r1 ∧ IsTruth V1 r1 := by
      rcases s1 with ⟨s, _⟩ | ⟨r, s, t⟩
      · unfold okN at ok1
        unfold fstE at s
        rw [s] at ok1; cases ok1
      · exact ⟨r, s, t⟩
    obtain ⟨f1, o1, v1⟩ := show_fit hf hL ⟨ok2, ok3⟩ g1 t1
    obtain ⟨c56, c57, c60⟩ := f0.calls hf
    obtain ⟨d56, d57, d60⟩ := f1.calls hf
    have le01 : Le3 r0 r1 := by
      obtain ⟨r, e, l⟩ := fst_le v1
      have e : fst0 f = some r := e
      rw [a] at e; cases e; exact l
    have n0 := val_len v0.east
    have n1 := val_len v0.north
    have n2 := val_len v1.east
    have n3 := val_len v1.north
    have m61 := M61xe t1 t0 le01 (by omega) (by omega) (by omega) (by omega)
    have w1 : (winV f f.1.n).2.2.1.n = f.1.n := by show (tab _ _ _).n = _; rw [tab_n]; show 0 + f.1.n = _; omega
    have w2 : (winV f f.1.n).2.2.2.1.n = f.1.n := by show (tab _ _ _).n = _; rw [tab_n]; show 0 + f.1.n = _; omega
    have i1 : ((0 : Int) ≤ (L : Int)) ∧ (L : Int) < ((f.1.n : Nat) : Int) := by omega
    have gg1 : (winV f f.1.n).2.2.1.g L = wiE f false L := tab_g0 (s0 := s0I) rfl hL
    have gg2 : (winV f f.1.n).2.2.2.1.g L = wiE f true L := tab_g0 (s0 := s0I) rfl hL
    have m62 := M62xe f1 hL north
    rw [o1] at m62
    have x1 : ∀ b, (wiE f b L).1 = endW f (L : Int) b false := fun _ => rfl
    have x2 : ∀ b, (wiE f b L).2.1 = endW f (L : Int) b true := fun _ => rfl
    simp only [e28, e32, e35, c56, c57, c60, d56, d57, d60, m61, w1, w2, i1, cl_some, decide_true, and_self, Bool.not_true, cond_false, cond_true, Int.toNat_natCast, gg1, gg2, x1, x2]
    -- when the proposed truth fits
    have tail : ∀ (E : Int), E = endW f (L : Int) north high → fitsB f V.1 V.2.1 V.2.2.1 V.2.2.2.1 V.2.2.2.2.1 = true →
        M61 (no_index (V, (V0, ()))) = some (false, ()) ∧ M62 (no_index (V, ((L : Int), (north, ())))) = some (ofV V L north, ()) ∧ (ofV V L north = E → M61 (no_index (V, (V1, ()))) = some (false, ())) ∧
        M45 (no_index (V.2.2.1, (((winV f f.1.n).1, ((winV f f.1.n).2.1, ())), ()))) = some (true, ()) := fun E hE hq => by
      have fV : FitT f V := ⟨hfine, hq⟩
      obtain ⟨_, _, _, q1, q2⟩ := fineB_t hfine
      have lV1 : (tripOf V).2.1.length = f.1.n := by show (lstF _ _ _).length = _; rw [lstF_len, q1]
      have lV2 : (tripOf V).2.2.length = f.1.n := by show (lstF _ _ _).length = _; rw [lstF_len, q2]
      refine ⟨?_, M62xe fV hL north, fun ho => ?_, ?_⟩
      · obtain ⟨r, e, l⟩ := fV.first hf
        rw [a] at e; cases e
        exact M61xe (tripOf_is V) t0 l (by omega) (by omega) (by omega) (by omega)
      · obtain ⟨r, e, l⟩ := fV.wish hf hL north
        rw [ho, hE] at e
        have e : fstE f (L : Int) north high = some r := e
        rw [g1] at e; cases e
        exact M61xe (tripOf_is V) t1 l (by omega) (by omega) (by omega) (by omega)
      · obtain ⟨k1, k2, k3⟩ := fV.top hf
        have b := (end_ok k2 k3 k1).1
        refine (M45xe _).trans ?_
        show some (inB V.2.2.1 (endN (topOk f) f.2.2.2.2.2.1 f.2.2.2.2.2.2.1 false) (endN (topOk f) f.2.2.2.2.2.1 f.2.2.2.2.2.2.1 true), ()) = _
        rw [inB_i b.1 b.2]
    have loop : fitsB f V.1 V.2.1 V.2.2.1 V.2.2.2.1 V.2.2.2.2.1 = true → L15x0 (no_index ((), ((), (((f.1.n : Nat) : Int), (V, (winV f f.1.n, ())))))) (no_index ((0 : Int), ())) = .exit 0 () := fun hq => L15xe hf ⟨hfine, hq⟩
    cases north <;> cases high <;> simp only [m62, cl_some, decide_true, cond_true, cond_false, Bool.not_true] <;>
      cases hq : fitsB f V.1 V.2.1 V.2.2.1 V.2.2.2.1 V.2.2.2.2.1 <;> simp only [Bool.not_true, Bool.not_false, cond_true, cond_false]
    · obtain ⟨t1, t2, t3, t4⟩ := tail _ rfl hq
      by_cases ho : ofV V L false = endW f (L : Int) false false
      · simp only [t1, t2, cl_some, ho, t3 ho, t4, loop hq, decide_true, cond_true, cond_false, Bool.not_true]; rfl
      · simp only [t1, t2, cl_some, ho, t4, loop hq, decide_false, cond_true, cond_false, Bool.not_true]; rfl
    · obtain ⟨t1, t2, t3, t4⟩ := tail _ rfl hq
      by_cases ho : ofV V L false = endW f (L : Int) false true
      · simp only [t1, t2, cl_some, ho, t3 ho, t4, loop hq, decide_true, cond_true, cond_false, Bool.not_true]; rfl
      · simp only [t1, t2, cl_some, ho, t4, loop hq, decide_false, cond_true, cond_false, Bool.not_true]; rfl
    · obtain ⟨t1, t2, t3, t4⟩ := tail _ rfl hq
      by_cases ho : ofV V L true = endW f (L : Int) true false
      · simp only [t1, t2, cl_some, ho, t3 ho, t4, loop hq, decide_true, cond_true, cond_false, Bool.not_true]; rfl
      · simp only [t1, t2, cl_some, ho, t4, loop hq, decide_false, cond_true, cond_false, Bool.not_true]; rfl
    · obtain ⟨t1, t2, t3, t4⟩ := tail _ rfl hq
      by_cases ho : ofV V L true = endW f (L : Int) true true
      · simp only [t1, t2, cl_some, ho, t3 ho, t4, loop hq, decide_true, cond_true, cond_false, Bool.not_true]; rfl
      · simp only [t1, t2, cl_some, ho, t4, loop hq, decide_false, cond_true, cond_false, Bool.not_true]; rfl
theorem law15 (x : (a15).den) : M15 x = some (true, ()) := by
  obtain ⟨f, V, l, n, h, ⟨⟩⟩ := x
  exact M15xe f V l n h
end Go.Dm


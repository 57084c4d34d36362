/- The theorem of landings. -/
import Derived.Test.YtlfgdpjompacjaaL14NP23
set_option linter.unusedVariables false
set_option linter.unusedSimpArgs false
namespace Go.Dm
set_option maxRecDepth 100000

theorem wnd_g (f : flightT) (north high : Bool) {j : Nat} (hj : j < f.1.n) : (wnd f north high).g j = (bif high then (spT f north j).2.1 else (spT f north j).1, ()) := rowW_g _ hj
theorem M59xe {f : flightT} (h8 : f.1.n ≤ 8) (up down top : Int) (high : Bool) : M59 (no_index (f, (up, (down, (top, (high, ())))))) = some ((up, (down, (top, (wnd f false high, (wnd f true high, ()))))), ()) := by
  have : L59x0 (no_index (high, ((), ((), ((), (f, (zeroT, ()))))))) (no_index ((0 : Int), ((up, (down, (top, (r0I, (r0I, ()))))), ()))) = .exit 0 ((up, (down, (top, (wnd f false high, (wnd f true high, ()))))), ()) := by
    unfold L59x0
    refine iterQ_steps (ps := vs59x0) f.1.n big (fun j => ((j : Int), ((up, (down, (top, (rowW (fun j => bif high then (spT f false j).2.1 else (spT f false j).1) j, (rowW (fun j => bif high then (spT f true j).2.1 else (spT f true j).1) j, ()))))), ()))) (big_lt (by omega)) (fun j hj => ?_) ?_
    · have e1 : ((j : Int) < ((f.1.n : Nat) : Int)) := by omega
      have e2 : ((0 : Int) ≤ (j : Int)) ∧ ((j : Int) < ((f.1.n : Nat) : Int)) := by omega
      have e3 : W ((j : Int) + 1) = ((j + 1 : Nat) : Int) := by rw [W_id ⟨by omega, by omega⟩]; rfl
      have e7 : (j + 1) * 8 ≤ 140737488355328 := by omega
      unfold S59x0 Z59x0
      simp only [rowW_n, e1, e2, e3, e7, decide_true, cond_true, Int.toNat_natCast, and_self, rowW_s]
      cases high <;> rfl
    · unfold S59x0 Z59x0
      simp only [Int.lt_irrefl, decide_false, cond_false]
      rfl
  unfold M59 Q59
  refine (congrArg (fun o => onExit o 0 _ _) this).trans ?_
  rfl
theorem wnd_fine {f : flightT} (hf : flightB f = true) {u d t : Int} (hx : (u, d, t) ∈ trips f) (high : Bool) : fineB f u d t (wnd f false high) (wnd f true high) = true := by
  obtain ⟨h1, h2, h3⟩ := mem_trips.1 hx
  have hl : ∀ north (sp : Nat → spanI), (∀ j, sp j = spT f north j) → listB f (wnd f north high) sp = true := fun north sp hs => by
    unfold listB
    rw [Bool.and_eq_true, wnd_n]
    refine ⟨decide_eq_true rfl, List.all_eq_true.2 fun j hj => ?_⟩
    have hj : j < f.1.n := by simpa using hj
    have hb := wind_bd hf hj
    unfold eachIn
    rw [wnd_g f north high hj, hs j]
    unfold spT
    cases north <;> cases high
    · simp only [cond_false]; exact decide_eq_true ⟨Int.le_refl _, hb.1.2.1⟩
    · simp only [cond_false, cond_true]; exact decide_eq_true ⟨hb.1.2.1, Int.le_refl _⟩
    · simp only [cond_false, cond_true]; exact decide_eq_true ⟨Int.le_refl _, hb.2.2.1⟩
    · simp only [cond_true]; exact decide_eq_true ⟨hb.2.2.1, Int.le_refl _⟩
  unfold fineB
  rw [hf, hl false (spE f) fun _ => rfl, hl true (spN f) fun _ => rfl]
  rw [show inB u f.2.1 f.2.2.1 = true from decide_eq_true h1, show inB d f.2.2.2.1 f.2.2.2.2.1 = true from decide_eq_true h2, show inB t f.2.2.2.2.2.1 f.2.2.2.2.2.2.1 = true from decide_eq_true h3]
  rfl
theorem M58xw {f : flightT} (hf : flightB f = true) {u d t : Int} (hx : (u, d, t) ∈ trips f) (high : Bool) :
    M58 (no_index (f, ((u, (d, (t, (wnd f false high, (wnd f true high, ()))))), ()))) = some (drI f false high (u, (d, t)), (drI f true high (u, (d, t)), (flI f (u, (d, t)), ((0 : Int), ())))) := by
  have hn4 := (flightB_t hf).2.1
  have e := M58xe f (up := u) (down := d) (top := t) (e := wnd f false high) (n := wnd f true high) (by omega) (by rw [wnd_n]; omega) (by rw [wnd_n]; omega)
  rw [wnd_fine hf hx high] at e
  exact e
abbrev metT : Type := Bool × Bool × Bool × Bool × Bool × Bool × Unit
/-- Which bounds are met. -/
def metS (f : flightT) (o : sixT) (a : metT) (x : Int × Int × Int) : metT :=
  (a.1 || decide (drI f false false x = o.1), (a.2.1 || decide (drI f false true x = o.2.1), (a.2.2.1 || decide (drI f true false x = o.2.2.1), (a.2.2.2.1 || decide (drI f true true x = o.2.2.2.1), (a.2.2.2.2.1 || decide (flI f x = o.2.2.2.2.1), (a.2.2.2.2.2.1 || decide (flI f x = o.2.2.2.2.2.1), ()))))))
theorem met_any {f : flightT} {o : sixT} : ∀ (l : List (Int × Int × Int)) (a : metT), l.foldl (metS f o) a =
    (a.1 || l.any (fun x => decide (drI f false false x = o.1)), (a.2.1 || l.any (fun x => decide (drI f false true x = o.2.1)), (a.2.2.1 || l.any (fun x => decide (drI f true false x = o.2.2.1)), (a.2.2.2.1 || l.any (fun x => decide (drI f true true x = o.2.2.2.1)), (a.2.2.2.2.1 || l.any (fun x => decide (flI f x = o.2.2.2.2.1)), (a.2.2.2.2.2.1 || l.any (fun x => decide (flI f x = o.2.2.2.2.2.1)), ()))))))
  | [], a => by simp
  | x :: l, a => by
    rw [List.foldl_cons, met_any l]
    unfold metS
    simp only [List.any_cons, Bool.or_assoc]
theorem any_lst {g : Int × Int × Int → Int} {l : List (Int × Int × Int)} {v : Int} (h : ∃ x ∈ l, v = g x) : l.any (fun x => decide (g x = v)) = true := by
  obtain ⟨x, hx, e⟩ := h
  exact List.any_eq_true.2 ⟨x, hx, decide_eq_true e.symm⟩
theorem L14c_e {f : flightT} (hf : flightB f = true) (o : sixT) {u d : Int} (hu : f.2.1 ≤ u ∧ u ≤ f.2.2.1) (hd : f.2.2.2.1 ≤ d ∧ d ≤ f.2.2.2.2.1) (a : metT) :
    L14x0x0x0 (no_index ((), ((), ((), (u, (d, (f, (o, ())))))))) (no_index (f.2.2.2.2.2.1, (a, ()))) = .exit 4 ((span3 f.2.2.2.2.2.1 f.2.2.2.2.2.2.1).foldl (fun a t => metS f o a (u, (d, t))) a, ()) := by
  obtain ⟨_, hn4, h2, h3, h4⟩ := flightB_t hf
  unfold L14x0x0x0
  refine iterQ_fold (ps := vs14x0x0x0) (wy := wv14x0x0x0) (up := fun a t => metS f o a (u, (d, t))) (lo := f.2.2.2.2.2.1) (hi := f.2.2.2.2.2.2.1) (mk := fun x a => (x, (a, ()))) (q := fun a => .exit 4 (a, ())) (big_lt (n := lens f.2.2.2.2.2.1 f.2.2.2.2.2.2.1) (by unfold lens; omega)) (fun t a h1 h2 => ?_) (fun t a h => ?_) a
  · have hx : (u, d, t) ∈ trips f := mem_trips.2 ⟨hu, hd, h1, h2⟩
    have e59 := fun high => M59xe (f := f) (show f.1.n ≤ 8 by omega) u d t high
    have q4 : W (t + 1) = t + 1 := W_id ⟨by omega, by omega⟩
    obtain ⟨b0, b1, b2, b3, b4, b5, ⟨⟩⟩ := a
    unfold S14x0x0x0 Z14x0x0x0
    simp only [h2, decide_true, cond_true, e59, cl_some, M58xw hf hx, q4, Bool.not_true, cond_false]
    unfold metS
    cases b0 <;> cases b1 <;> cases b2 <;> cases b3 <;> cases b4 <;> cases b5 <;> rfl
  · have ht' : ¬ t ≤ f.2.2.2.2.2.2.1 := by omega
    unfold S14x0x0x0 Z14x0x0x0
    simp only [ht', decide_false, cond_false]
theorem L14b_e {f : flightT} (hf : flightB f = true) (o : sixT) {u : Int} (hu : f.2.1 ≤ u ∧ u ≤ f.2.2.1) (a : metT) :
    L14x0x0 (no_index ((), ((), ((), (u, (f, (o, ()))))))) (no_index (f.2.2.2.1, (a, ()))) = .exit 2 ((span3 f.2.2.2.1 f.2.2.2.2.1).foldl (fun a d => (span3 f.2.2.2.2.2.1 f.2.2.2.2.2.2.1).foldl (fun a t => metS f o a (u, (d, t))) a) a, ()) := by
  obtain ⟨_, hn4, h2, h3, h4⟩ := flightB_t hf
  unfold L14x0x0
  refine iterQ_fold (ps := vs14x0x0) (wy := wv14x0x0) (up := fun a d => (span3 f.2.2.2.2.2.1 f.2.2.2.2.2.2.1).foldl (fun a t => metS f o a (u, (d, t))) a) (lo := f.2.2.2.1) (hi := f.2.2.2.2.1) (mk := fun x a => (x, (a, ()))) (q := fun a => .exit 2 (a, ())) (big_lt (n := lens f.2.2.2.1 f.2.2.2.2.1) (by unfold lens; omega)) (fun d a h1 h2 => ?_) (fun d a h => ?_) a
  · have q4 : W (d + 1) = d + 1 := W_id ⟨by omega, by omega⟩
    unfold S14x0x0 Z14x0x0
    simp only [h2, decide_true, cond_true]
    refine (congrArg (fun o => onExit o 4 _ (onRet o _ _)) (L14c_e hf o hu (d := d) ⟨h1, h2⟩ a)).trans ?_
    refine (xe14x0_0_0e4 _ _ _).trans ?_
    rw [q4]
  · have ht' : ¬ d ≤ f.2.2.2.2.1 := by omega
    unfold S14x0x0 Z14x0x0
    simp only [ht', decide_false, cond_false]
theorem L14xe {f : flightT} (hf : flightB f = true) (o : sixT) (a : metT) :
    L14x0 (no_index ((), ((), ((), (f, (o, ())))))) (no_index (f.2.1, (a, ()))) = .exit 0 ((trips f).foldl (metS f o) a, ()) := by
  obtain ⟨_, hn4, h2, h3, h4⟩ := flightB_t hf
  rw [trips_fold]
  unfold L14x0
  refine iterQ_fold (ps := vs14x0) (wy := wv14x0) (up := fun a u => (span3 f.2.2.2.1 f.2.2.2.2.1).foldl (fun a d => (span3 f.2.2.2.2.2.1 f.2.2.2.2.2.2.1).foldl (fun a t => metS f o a (u, (d, t))) a) a) (lo := f.2.1) (hi := f.2.2.1) (mk := fun x a => (x, (a, ()))) (q := fun a => .exit 0 (a, ())) (big_lt (n := lens f.2.1 f.2.2.1) (by unfold lens; omega)) (fun u a h1 h2 => ?_) (fun u a h => ?_) a
  · have q4 : W (u + 1) = u + 1 := W_id ⟨by omega, by omega⟩
    unfold S14x0 Z14x0
    simp only [h2, decide_true, cond_true]
    refine (congrArg (fun o => onExit o 2 _ (onRet o _ _)) (L14b_e hf o (u := u) ⟨h1, h2⟩ a)).trans ?_
    refine (xe14x0_0e2 _ _ _).trans ?_
    rw [q4]
  · have ht' : ¬ u ≤ f.2.2.1 := by omega
    unfold S14x0 Z14x0
    simp only [ht', decide_false, cond_false]
theorem drift_in {f : flightT} (hf : flightB f = true) {u d t : Int} (hx : (u, d, t) ∈ trips f) (north : Bool) {w : rowI} (hw : w.n = f.1.n) (hb : ∀ j, j < f.1.n → (spT f north j).1 ≤ (w.g j).1 ∧ (w.g j).1 ≤ (spT f north j).2.1) :
    drI f north false (u, (d, t)) ≤ drift f u d t w ∧ drift f u d t w ≤ drI f north true (u, (d, t)) := by
  have hr := trip_bd hf hx
  have hl := wnd_le hf north
  have e0 : ∀ j, j < f.1.n → ((wnd f north false).g j).1 = (spT f north j).1 := fun j hj => by rw [wnd_g f north false hj]; rfl
  have e1 : ∀ j, j < f.1.n → ((wnd f north true).g j).1 = (spT f north j).2.1 := fun j hj => by rw [wnd_g f north true hj]; rfl
  constructor
  · refine drift_mono hf hr.1 hr.2 (wnd_n f north false) hw fun j hj => ?_
    have := hl j hj
    have := hb j hj
    rw [e0 j hj, e1 j hj] at *
    omega
  · refine drift_mono hf hr.1 hr.2 hw (wnd_n f north true) fun j hj => ?_
    have := hl j hj
    have := hb j hj
    rw [e0 j hj, e1 j hj] at *
    omega
theorem fineB_s {f : flightT} {u d t : Int} {e n : rowI} (h : fineB f u d t e n = true) : (u, d, t) ∈ trips f ∧ (∀ j, j < f.1.n → (spT f false j).1 ≤ (e.g j).1 ∧ (e.g j).1 ≤ (spT f false j).2.1) ∧ ∀ j, j < f.1.n → (spT f true j).1 ≤ (n.g j).1 ∧ (n.g j).1 ≤ (spT f true j).2.1 := by
  simp only [fineB, listB, Bool.and_eq_true, decide_eq_true_eq] at h
  obtain ⟨h1, h2, h3, h4, ⟨h5, h6⟩, h7, h8⟩ := h
  refine ⟨mem_trips.2 ⟨inB_t h2, inB_t h3, inB_t h4⟩, fun j hj => ?_, fun j hj => ?_⟩
  · exact inB_t (List.all_eq_true.1 h6 j (by simp; omega))
  · exact inB_t (List.all_eq_true.1 h8 j (by simp; omega))
theorem M14xe (f : flightT) (u d t : Int) (e n : rowI) : M14 (no_index (f, ((u, (d, (t, (e, (n, ()))))), ()))) = some (true, ()) := by
  have e27 : M27 (no_index (f, ())) = some (decide (((f.1.n : Nat) : Int) ≤ 7), ()) := rfl
  have e56 : M56 (no_index ((u, (d, (t, (e, (n, ()))))), ())) = some (decide (((e.n : Nat) : Int) ≤ 7) && decide (((n.n : Nat) : Int) ≤ 7), ()) := M56xe _
  unfold M14 Q14
  simp only [e27, e56, cl_some, known_M]
  by_cases h7 : ((f.1.n : Nat) : Int) ≤ 7
  case neg => simp [h7]
  by_cases he : ((e.n : Nat) : Int) ≤ 7
  case neg => simp [h7, he]
  by_cases hn : ((n.n : Nat) : Int) ≤ 7
  case neg => simp [h7, he, hn]
  have e38 : M38 (no_index (f, ())) = some (flightB f, ()) := M38xe (x := (f, ())) (show f.1.n ≤ _ by omega)
  have e57 : M57 (no_index (f, ((u, (d, (t, (e, (n, ()))))), ()))) = some (truthF f u d t e n, ()) := M57xe f (by omega)
  simp only [h7, he, hn, e38, e57, cl_some, decide_true, Bool.and_self, Bool.not_true, cond_false]
  cases hf : flightB f with
  | false => rfl
  | true =>
  cases ht : truthF f u d t e n with
  | false => rfl
  | true =>
  have hfine : fineB f u d t e n = true := by rw [fineB_e, hf, ht]; rfl
  obtain ⟨o, e48, hl⟩ := M48xe hf
  have e58 : M58 (no_index (f, ((u, (d, (t, (e, (n, ()))))), ()))) = some (drift f u d t e, (drift f u d t n, (flown f u d t, ((0 : Int), ())))) := by
    have := M58xe f (up := u) (down := d) (top := t) (e := e) (n := n) (by omega) (by omega) (by omega)
    rw [hfine] at this
    exact this
  obtain ⟨_, _, _, q1, q2⟩ := fineB_t hfine
  obtain ⟨hx, he', hn'⟩ := fineB_s hfine
  have de := drift_in hf hx false q1 he'
  have dn := drift_in hf hx true q2 hn'
  have e45 : ∀ a b c : Int, M45 (no_index (a, ((b, (c, ())), ()))) = some (inB a b c, ()) := fun a b c => M45xe _
  have e45' : ∀ a : Int, M45 (no_index (a, (o.2.2.2.2, ()))) = some (inB a o.2.2.2.2.1 o.2.2.2.2.2.1, ()) := fun a => M45xe _
  have i0 : inB (drift f u d t e) o.1 o.2.1 = true := decide_eq_true ⟨Int.le_trans (hl.e0.1 _ hx) de.1, Int.le_trans de.2 (hl.e1.1 _ hx)⟩
  have i1 : inB (drift f u d t n) o.2.2.1 o.2.2.2.1 = true := decide_eq_true ⟨Int.le_trans (hl.n0.1 _ hx) dn.1, Int.le_trans dn.2 (hl.n1.1 _ hx)⟩
  have i2 : inB (flown f u d t) o.2.2.2.2.1 o.2.2.2.2.2.1 = true := decide_eq_true ⟨hl.m0.1 _ hx, hl.m1.1 _ hx⟩
  simp only [e48, e58, cl_some, decide_true, Bool.not_true, cond_false, e45, e45', i0, i1, i2]
  refine (congrArg (fun o => onExit o 0 _ (onRet o _ _)) (L14xe hf o _)).trans ?_
  refine (xe14x0e0 _ _ _).trans ?_
  rw [met_any, any_lst hl.e0.2, any_lst hl.e1.2, any_lst hl.n0.2, any_lst hl.n1.2, any_lst hl.m0.2, any_lst hl.m1.2]
  rfl
theorem law14 (x : (a14).den) : M14 x = some (true, ()) := by
  obtain ⟨f, ⟨u, d, t, e, n, ⟨⟩⟩, ⟨⟩⟩ := x
  exact M14xe f u d t e n
end Go.Dm


/- Where a balloon comes down, and for how long it flies: the law KiteLands. -/
import Derived.Test.YtlfgdpjompacjaaL14NP21
set_option linter.unusedVariables false
set_option linter.unusedSimpArgs false
namespace Go.Dm
set_option maxRecDepth 100000

/-! the least and the greatest of what a list comes to -/
def IsLst {α : Type} (g : α → Int) (l : List α) (v : Int) : Prop := (∀ x ∈ l, v ≤ g x) ∧ ∃ x ∈ l, v = g x
def IsGst {α : Type} (g : α → Int) (l : List α) (v : Int) : Prop := (∀ x ∈ l, g x ≤ v) ∧ ∃ x ∈ l, v = g x
theorem isLst_one {α : Type} (g : α → Int) (x : α) : IsLst g [x] (g x) := ⟨fun y hy => by rw [List.mem_singleton.1 hy]; exact Int.le_refl _, x, List.mem_singleton.2 rfl, rfl⟩
theorem isGst_one {α : Type} (g : α → Int) (x : α) : IsGst g [x] (g x) := ⟨fun y hy => by rw [List.mem_singleton.1 hy]; exact Int.le_refl _, x, List.mem_singleton.2 rfl, rfl⟩
theorem IsLst.snoc {α : Type} {g : α → Int} {l : List α} {v : Int} (h : IsLst g l v) (x : α) : IsLst g (l ++ [x]) (min v (g x)) := by
  obtain ⟨h1, y, hy, rfl⟩ := h
  refine ⟨fun z hz => ?_, ?_⟩
  · rcases List.mem_append.1 hz with q | q
    · have := h1 z q; omega
    · rw [List.mem_singleton.1 q]; omega
  · by_cases q : g y ≤ g x
    · exact ⟨y, List.mem_append_left _ hy, by omega⟩
    · exact ⟨x, List.mem_append_right _ (List.mem_singleton.2 rfl), by omega⟩
theorem IsGst.snoc {α : Type} {g : α → Int} {l : List α} {v : Int} (h : IsGst g l v) (x : α) : IsGst g (l ++ [x]) (max v (g x)) := by
  obtain ⟨h1, y, hy, rfl⟩ := h
  refine ⟨fun z hz => ?_, ?_⟩
  · rcases List.mem_append.1 hz with q | q
    · have := h1 z q; omega
    · rw [List.mem_singleton.1 q]; omega
  · by_cases q : g x ≤ g y
    · exact ⟨y, List.mem_append_left _ hy, by omega⟩
    · exact ⟨x, List.mem_append_right _ (List.mem_singleton.2 rfl), by omega⟩
def appR {α : Type} (g : α → Int) : rowI → List α → rowI
  | s, [] => s
  | s, x :: l => appR g (snoc s (g x, ())) l
theorem appR_n {α : Type} (g : α → Int) : ∀ (l : List α) (s : rowI), (appR g s l).n = s.n + l.length
  | [], _ => rfl
  | x :: l, s => by rw [appR, appR_n g l, snoc_n, List.length_cons]; omega
theorem appR_lt {α : Type} (g : α → Int) : ∀ (l : List α) (s : rowI) {i : Nat}, i < s.n → (appR g s l).g i = s.g i
  | [], _, _, _ => rfl
  | x :: l, s, i, h => by rw [appR, appR_lt g l _ (by rw [snoc_n]; omega), snoc_lt h]
theorem appR_mem {α : Type} (g : α → Int) : ∀ (l : List α) (s : rowI), (∀ x ∈ l, ∃ i, i < (appR g s l).n ∧ ((appR g s l).g i).1 = g x) ∧ ∀ i, s.n ≤ i → i < (appR g s l).n → ∃ x ∈ l, ((appR g s l).g i).1 = g x
  | [], s => ⟨fun x hx => (by cases hx), fun i h1 h2 => by have h2 : i < s.n := h2; omega⟩
  | x :: l, s => by
    obtain ⟨h1, h2⟩ := appR_mem g l (snoc s (g x, ()))
    have hs : (snoc s (g x, ())).n = s.n + 1 := snoc_n _ _
    have hat : (appR g (snoc s (g x, ())) l).g s.n = (g x, ()) := by rw [appR_lt g l _ (by omega), snoc_at]
    refine ⟨fun y hy => ?_, fun i k1 k2 => ?_⟩
    · rcases List.mem_cons.1 hy with rfl | hy
      · refine ⟨s.n, ?_, ?_⟩
        · show s.n < (appR g (snoc s (g y, ())) l).n
          rw [appR_n, hs]; omega
        · show ((appR g (snoc s (g y, ())) l).g s.n).1 = _
          rw [hat]
      · exact h1 y hy
    · by_cases q : i = s.n
      · subst q
        exact ⟨x, List.mem_cons_self .., by show ((appR g (snoc s (g x, ())) l).g s.n).1 = _; rw [hat]⟩
      · obtain ⟨y, hy, e⟩ := h2 i (by omega) k2
        exact ⟨y, List.mem_cons_of_mem _ hy, e⟩
theorem minR_s (a : rowI) : ∀ {j : Nat}, 0 < j → (∀ i, i < j → minR a j ≤ (a.g i).1) ∧ ∃ i, i < j ∧ minR a j = (a.g i).1
  | j + 1, _ => by
    rw [minR]
    by_cases h : 0 < j
    · obtain ⟨h1, i, h2, h3⟩ := minR_s a h
      refine ⟨fun k hk => ?_, ?_⟩
      · by_cases q : k = j
        · subst q; omega
        · have := h1 k (by omega); omega
      · by_cases q : minR a j ≤ (a.g j).1
        · exact ⟨i, by omega, by omega⟩
        · exact ⟨j, by omega, by omega⟩
    · obtain rfl : j = 0 := by omega
      exact ⟨fun k hk => by obtain rfl : k = 0 := by omega
                            show min (a.g 0).1 (a.g 0).1 ≤ _; omega, 0, by omega, by show min (a.g 0).1 (a.g 0).1 = _; omega⟩
theorem maxR_s (a : rowI) : ∀ {j : Nat}, 0 < j → (∀ i, i < j → (a.g i).1 ≤ maxR a j) ∧ ∃ i, i < j ∧ maxR a j = (a.g i).1
  | j + 1, _ => by
    rw [maxR]
    by_cases h : 0 < j
    · obtain ⟨h1, i, h2, h3⟩ := maxR_s a h
      refine ⟨fun k hk => ?_, ?_⟩
      · by_cases q : k = j
        · subst q; omega
        · have := h1 k (by omega); omega
      · by_cases q : (a.g j).1 ≤ maxR a j
        · exact ⟨i, by omega, by omega⟩
        · exact ⟨j, by omega, by omega⟩
    · obtain rfl : j = 0 := by omega
      exact ⟨fun k hk => by obtain rfl : k = 0 := by omega
                            show _ ≤ max (a.g 0).1 (a.g 0).1; omega, 0, by omega, by show max (a.g 0).1 (a.g 0).1 = _; omega⟩
def r0I : rowI := ⟨0, fun _ => ((0 : Int), ())⟩
theorem min_app {α : Type} {g : α → Int} {l : List α} (h : 0 < l.length) : IsLst g l (minR (appR g r0I l) (appR g r0I l).n) := by
  obtain ⟨m1, m2⟩ := appR_mem g l r0I
  have hn : (appR g r0I l).n = 0 + l.length := appR_n g l r0I
  obtain ⟨h1, i, h2, h3⟩ := minR_s (appR g r0I l) (j := (appR g r0I l).n) (by omega)
  refine ⟨fun x hx => ?_, ?_⟩
  · obtain ⟨k, k1, k2⟩ := m1 x hx
    rw [← k2]; exact h1 k k1
  · obtain ⟨x, hx, e⟩ := m2 i (Nat.zero_le _) h2
    exact ⟨x, hx, h3.trans e⟩
theorem max_app {α : Type} {g : α → Int} {l : List α} (h : 0 < l.length) : IsGst g l (maxR (appR g r0I l) (appR g r0I l).n) := by
  obtain ⟨m1, m2⟩ := appR_mem g l r0I
  have hn : (appR g r0I l).n = 0 + l.length := appR_n g l r0I
  obtain ⟨h1, i, h2, h3⟩ := maxR_s (appR g r0I l) (j := (appR g r0I l).n) (by omega)
  refine ⟨fun x hx => ?_, ?_⟩
  · obtain ⟨k, k1, k2⟩ := m1 x hx
    rw [← k2]; exact h1 k k1
  · obtain ⟨x, hx, e⟩ := m2 i (Nat.zero_le _) h2
    exact ⟨x, hx, h3.trans e⟩

/-! the rule -/
abbrev sixT : Type := Int × Int × Int × Int × Int × Int × Unit
/-- The winds of a direction, all least or all greatest. -/
def wnd (f : flightT) (north high : Bool) : rowI := rowW (fun j => bif high then (spT f north j).2.1 else (spT f north j).1) f.1.n
theorem wnd_n (f : flightT) (north high : Bool) : (wnd f north high).n = f.1.n := rowW_n _ _
/-- How far a trip comes in a direction, with all least or all greatest winds. -/
def drI (f : flightT) (north high : Bool) (x : Int × Int × Int) : Int := drift f x.1 x.2.1 x.2.2 (wnd f north high)
def flI (f : flightT) (x : Int × Int × Int) : Int := flown f x.1 x.2.1 x.2.2
/-- Between which bounds a flight lands. -/
structure LandOK (f : flightT) (l : List (Int × Int × Int)) (o : sixT) : Prop where
  e0 : IsLst (drI f false false) l o.1
  e1 : IsGst (drI f false true) l o.2.1
  n0 : IsLst (drI f true false) l o.2.2.1
  n1 : IsGst (drI f true true) l o.2.2.2.1
  m0 : IsLst (flI f) l o.2.2.2.2.1
  m1 : IsGst (flI f) l o.2.2.2.2.2.1
theorem L48i_e {f : flightT} (h8 : f.1.n ≤ 8) (north : Bool) (a b : Int) (p : Int × Int × Unit) (rest : (patsTy [.box 2 [.pc tI, .pc tI, .pc tI, .pc tI, .pc tI, .pc tI], .box 226 [.own 1227000 3 T0, .own 1227001 3 T0, .own 1227002 3 T0], .box 227 [.own 1228000 3 T0, .own 1228001 3 T0, .own 1228002 3 T0], .box 1228009 [.pc (.sl T9), .pc tI, .pc tI, .pc tI, .pc tI, .pc tI, .pc tI, .pc tI, .pc tI, .pc tI, .pc tI, .pc tI, .pc tI, .pc tI, .pc tI, .pc tI]]).den) :
    L48x0x0x0 (no_index ((), ((), ((), ((), (a, (p, (b, (spR f north, ((((spR f north).n : Nat) : Int), rest)))))))))) (no_index (r0I, (r0I, ((0 : Int), ())))) = .exit 4 (wnd f north false, (wnd f north true, ())) := by
  have hn := spR_n f north
  unfold L48x0x0x0
  refine iterQ_steps (ps := vs48x0x0x0) f.1.n big (fun j => (rowW (fun j => (spT f north j).1) j, (rowW (fun j => (spT f north j).2.1) j, ((j : Int), ())))) (big_lt (by omega)) (fun j hj => ?_) ?_
  · have e1 : ((j : Int) < ((f.1.n : Nat) : Int)) := by omega
    have e2 : ((0 : Int) ≤ (j : Int)) ∧ ((j : Int) < ((f.1.n : Nat) : Int)) := by omega
    have e3 : W ((j : Int) + 1) = ((j + 1 : Nat) : Int) := by rw [W_id ⟨by omega, by omega⟩]; rfl
    have e7 : (j + 1) * 8 ≤ 140737488355328 := by omega
    unfold S48x0x0x0 Z48x0x0x0
    simp only [hn, rowW_n, e1, e2, e3, e7, decide_true, cond_true, Int.toNat_natCast, and_self, rowW_s, spR_g f north hj]
    rfl
  · unfold S48x0x0x0 Z48x0x0x0
    simp only [hn, Int.lt_irrefl, decide_false, cond_false]
    rfl
def zero6 : sixT := ((0 : Int), ((0 : Int), ((0 : Int), ((0 : Int), ((0 : Int), ((0 : Int), ()))))))
def st48 (l0 l1 l2 h0 h1 h2 : rowI) : (patsTy mp48x0).den := ((), ((), ((), (zero6, ((l0, (l1, (l2, ()))), ((h0, (h1, (h2, ()))), ()))))))
theorem L48xe {f : flightT} (hf : flightB f = true) : ∀ (l : List (Int × Int × Int)) (l0 l1 l2 h0 h1 h2 : rowI), (∀ x ∈ l, (50 ≤ x.1 ∧ x.1 ≤ 1000) ∧ (50 ≤ x.2.1 ∧ x.2.1 ≤ 1000)) →
    l0.n + l.length ≤ 100000 → l1.n = l0.n → l2.n = l0.n → h0.n = l0.n → h1.n = l0.n → h2.n = l0.n →
    L48x0 (st48 l0 l1 l2 h0 h1 h2) (l.map fun x => (fly f x.1 x.2.1 x.2.2, ())) = .next (st48 (appR (drI f false false) l0 l) (appR (drI f true false) l1 l) (appR (flI f) l2 l) (appR (drI f false true) h0 l) (appR (drI f true true) h1 l) (appR (flI f) h2 l))
  | [], _, _, _, _, _, _, _, _, _, _, _, _, _ => rfl
  | x :: l, l0, l1, l2, h0, h1, h2, h, hn, q1, q2, q3, q4, q5 => by
    have hn4 := (flightB_t hf).2.1
    have hx := h x (List.mem_cons_self ..)
    rw [List.length_cons] at hn
    have ih := L48xe hf l (snoc l0 (drI f false false x, ())) (snoc l1 (drI f true false x, ())) (snoc l2 (flI f x, ())) (snoc h0 (drI f false true x, ())) (snoc h1 (drI f true true x, ())) (snoc h2 (flI f x, ()))
      (fun y hy => h y (List.mem_cons_of_mem _ hy)) (by rw [snoc_n]; omega) (by rw [snoc_n, snoc_n, q1]) (by rw [snoc_n, snoc_n, q2]) (by rw [snoc_n, snoc_n, q3]) (by rw [snoc_n, snoc_n, q4]) (by rw [snoc_n, snoc_n, q5])
    have m94 : ∀ north : Bool, M94 (no_index (fly f x.1 x.2.1 x.2.2, (wayI north, ()))) = some (spR f north, ()) := fun north => by
      cases north
      · exact M94x0 f x.1 x.2.1 x.2.2 (by omega)
      · exact M94x1 f x.1 x.2.1 x.2.2 (by omega)
    have a0 : M94 (no_index (fly f x.1 x.2.1 x.2.2, ((0 : Int), ()))) = some (spR f false, ()) := m94 false
    have a1 : M94 (no_index (fly f x.1 x.2.1 x.2.2, ((1 : Int), ()))) = some (spR f true, ()) := m94 true
    have d : ∀ north high, M95 (no_index (fly f x.1 x.2.1 x.2.2, (wnd f north high, ()))) = some (drI f north high x, ()) := fun north high => M95xe f (by omega) (by omega) (wnd_n f north high) (by omega)
    have e96 : M96 (no_index (fly f x.1 x.2.1 x.2.2, ())) = some (flI f x, ()) := M96xe f (by omega) (by omega) (by omega)
    have b0 : (l0.n + 1) * 8 ≤ 140737488355328 := by omega
    have b1 : (l1.n + 1) * 8 ≤ 140737488355328 := by omega
    have b2 : (l2.n + 1) * 8 ≤ 140737488355328 := by omega
    have b3 : (h0.n + 1) * 8 ≤ 140737488355328 := by omega
    have b4 : (h1.n + 1) * 8 ≤ 140737488355328 := by omega
    have b5 : (h2.n + 1) * 8 ≤ 140737488355328 := by omega
    have st : S48x0 (st48 l0 l1 l2 h0 h1 h2) (fly f x.1 x.2.1 x.2.2, ()) = .next (st48 (snoc l0 (drI f false false x, ())) (snoc l1 (drI f true false x, ())) (snoc l2 (flI f x, ())) (snoc h0 (drI f false true x, ())) (snoc h1 (drI f true true x, ())) (snoc h2 (flI f x, ()))) := by
      unfold S48x0 Z48x0 st48
      simp only [a0, cl_some]
      refine (congrArg (fun o => onExit o 4 _ _) (L48i_e (show f.1.n ≤ 8 by omega) false _ _ _ _)).trans ?_
      refine (xe48x0_0_0e4 _ _ _).trans ?_
      simp only [d, cl_some, b0, b3, decide_true, cond_true, a1]
      refine (congrArg (fun o => onExit o 4 _ _) (L48i_e (show f.1.n ≤ 8 by omega) true _ _ _ _)).trans ?_
      refine (xe48x0_0_0e4 _ _ _).trans ?_
      simp only [d, cl_some, b1, b4, decide_true, cond_true, e96, b2, b5]
      rfl
    unfold L48x0 at ih ⊢
    simp only [List.map_cons, runAllD, st]
    exact ih
theorem rng_len : ∀ (n : Nat) (lo : Int), (rng n lo).length = n
  | 0, _ => rfl
  | n + 1, lo => by rw [rng, List.length_cons, rng_len n]
theorem flat_len {α β : Type} {h : α → List β} {c : Nat} : ∀ (l : List α), (∀ x ∈ l, (h x).length ≤ c) → (l.flatMap h).length ≤ l.length * c
  | [], _ => by simp
  | a :: l, k => by
    have := flat_len l fun x hx => k x (List.mem_cons_of_mem _ hx)
    have := k a (List.mem_cons_self ..)
    rw [List.flatMap_cons, List.length_append, List.length_cons, Nat.succ_mul]; omega
theorem trips_len {f : flightT} (hf : flightB f = true) : (trips f).length ≤ 4 * (4 * 4) := by
  obtain ⟨_, hn4, h2, h3, h4⟩ := flightB_t hf
  have l1 : (span3 f.2.1 f.2.2.1).length ≤ 4 := by unfold span3; rw [rng_len]; unfold lens; omega
  have l2 : (span3 f.2.2.2.1 f.2.2.2.2.1).length ≤ 4 := by unfold span3; rw [rng_len]; unfold lens; omega
  have l3 : (span3 f.2.2.2.2.2.1 f.2.2.2.2.2.2.1).length ≤ 4 := by unfold span3; rw [rng_len]; unfold lens; omega
  unfold trips
  refine Nat.le_trans (flat_len (c := 4 * 4) _ fun u _ => Nat.le_trans (flat_len (c := 4) _ fun d _ => by rw [List.length_map]; exact l3) (Nat.mul_le_mul_right _ l2)) (Nat.mul_le_mul_right _ l1)
theorem mem_rng : ∀ {n : Nat} {lo x : Int}, lo ≤ x → x < lo + n → x ∈ rng n lo
  | 0, _, _, h1, h2 => by omega
  | n + 1, lo, x, h1, h2 => by
    rw [rng]
    by_cases q : x = lo
    · subst q; exact List.mem_cons_self ..
    · exact List.mem_cons_of_mem _ (mem_rng (by omega) (by omega))
theorem mem_span {lo hi x : Int} (h1 : lo ≤ x) (h2 : x ≤ hi) : x ∈ span3 lo hi := mem_rng h1 (by unfold lens; omega)
theorem mem_trips {f : flightT} {u d t : Int} : (u, d, t) ∈ trips f ↔ (f.2.1 ≤ u ∧ u ≤ f.2.2.1) ∧ (f.2.2.2.1 ≤ d ∧ d ≤ f.2.2.2.2.1) ∧ (f.2.2.2.2.2.1 ≤ t ∧ t ≤ f.2.2.2.2.2.2.1) := by
  unfold trips
  simp only [List.mem_flatMap, List.mem_map]
  constructor
  · rintro ⟨a, ha, b, hb, c, hc, e⟩
    have e1 : a = u := congrArg Prod.fst e
    have e2 : b = d := congrArg (fun x => x.2.1) e
    have e3 : c = t := congrArg (fun x => x.2.2) e
    subst e1 e2 e3
    exact ⟨span3xmem ha, span3xmem hb, span3xmem hc⟩
  · rintro ⟨h1, h2, h3⟩
    exact ⟨u, mem_span h1.1 h1.2, d, mem_span h2.1 h2.2, t, mem_span h3.1 h3.2, rfl⟩
theorem trips_pos {f : flightT} (hf : flightB f = true) : 0 < (trips f).length := by
  obtain ⟨_, hn4, h2, h3, h4⟩ := flightB_t hf
  have : (f.2.1, f.2.2.2.1, f.2.2.2.2.2.1) ∈ trips f := mem_trips.2 ⟨by omega, by omega, by omega⟩
  exact List.length_pos_of_mem this
theorem M48xe {f : flightT} (hf : flightB f = true) : ∃ o, M48 (no_index (f, ())) = some (o, ((0 : Int), ())) ∧ LandOK f (trips f) o := by
  have hn4 := (flightB_t hf).2.1
  have e92 : M92 (no_index (f, ())) = some (flightB f, ()) := M92xe (x := (f, ())) (show f.1.n ≤ _ by omega)
  have e93 : M93 (no_index (f, ())) = some (fl_flights f, ()) := M93xe hf
  have hl := trips_len hf
  have hp := trips_pos hf
  have key : ∀ l : List (Ty.den T58), l = (trips f).map (fun x => (fly f x.1 x.2.1 x.2.2, ())) → L48x0 (st48 r0I r0I r0I r0I r0I r0I) l = .next (st48 (appR (drI f false false) r0I (trips f)) (appR (drI f true false) r0I (trips f)) (appR (flI f) r0I (trips f)) (appR (drI f false true) r0I (trips f)) (appR (drI f true true) r0I (trips f)) (appR (flI f) r0I (trips f))) := fun l hl' => by
    rw [hl']
    exact L48xe hf (trips f) _ _ _ _ _ _ (fun x hx => trip_bd hf hx) (by show 0 + _ ≤ _; omega) rfl rfl rfl rfl rfl
  have k := key _ (flights_list f)
  have lo : ∀ g : Int × Int × Int → Int, M97 (no_index (appR g r0I (trips f), ())) = some (minR (appR g r0I (trips f)) (appR g r0I (trips f)).n, ()) := fun g => M97xe (by rw [appR_n]; show 0 < 0 + _; omega) (by rw [appR_n]; show 0 + _ ≤ _; omega)
  have hi : ∀ g : Int × Int × Int → Int, M98 (no_index (appR g r0I (trips f), ())) = some (maxR (appR g r0I (trips f)) (appR g r0I (trips f)).n, ()) := fun g => M98xe (by rw [appR_n]; show 0 < 0 + _; omega) (by rw [appR_n]; show 0 + _ ≤ _; omega)
  refine ⟨(minR (appR (drI f false false) r0I (trips f)) (appR (drI f false false) r0I (trips f)).n, (maxR (appR (drI f false true) r0I (trips f)) (appR (drI f false true) r0I (trips f)).n, (minR (appR (drI f true false) r0I (trips f)) (appR (drI f true false) r0I (trips f)).n, (maxR (appR (drI f true true) r0I (trips f)) (appR (drI f true true) r0I (trips f)).n, (minR (appR (flI f) r0I (trips f)) (appR (flI f) r0I (trips f)).n, (maxR (appR (flI f) r0I (trips f)) (appR (flI f) r0I (trips f)).n, ())))))),
    ?_, ⟨min_app hp, max_app hp, min_app hp, max_app hp, min_app hp, max_app hp⟩⟩
  unfold M48 Q48
  simp only [e92, hf, e93, cl_some, Bool.not_true, cond_false]
  refine (congrArg (fun o => onNext o _ (onRetO o _ _)) k).trans ?_
  refine (onNext_next _ _ _).trans ?_
  unfold st48
  simp only [lo, hi, cl_some]
end Go.Dm


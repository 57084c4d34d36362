/- What is known more closely: the law KiteMore. -/
import Derived.Test.YtlfgdpjompacjaaL8NP27
set_option linter.unusedVariables false
set_option linter.unusedSimpArgs false
namespace Go.Dm
set_option maxRecDepth 100000

/-! parts of spans -/
def prt (a b p : Int) : Int := a + Int.tdiv ((b - a) * p) 100
theorem prt_w {a b p : Int} (h : -200000 ≤ a ∧ a ≤ b ∧ b ≤ 200000) (hp : 0 ≤ p ∧ p ≤ 100) : W (a + W (Int.tdiv (W (W (b - a) * p)) 100)) = prt a b p ∧ a ≤ prt a b p ∧ prt a b p ≤ b := by
  have h1 : 0 ≤ (b - a) * p := Int.mul_nonneg (by omega) hp.1
  have h2 : (b - a) * p ≤ (b - a) * 100 := Int.mul_le_mul_of_nonneg_left hp.2 (by omega)
  have h3 : Int.tdiv ((b - a) * p) 100 = (b - a) * p / 100 := Int.tdiv_eq_ediv_of_nonneg h1
  unfold prt
  rw [W_id (n := b - a) ⟨by omega, by omega⟩, W_id (n := (b - a) * p) ⟨by omega, by omega⟩, h3, W_id (n := (b - a) * p / 100) ⟨by omega, by omega⟩]
  exact ⟨W_id ⟨by omega, by omega⟩, by omega, by omega⟩
theorem prt_mono {a b p q : Int} (h : a ≤ b) (hp : 0 ≤ p ∧ p ≤ q) : prt a b p ≤ prt a b q := by
  have h1 : 0 ≤ (b - a) * p := Int.mul_nonneg (by omega) hp.1
  have h2 : (b - a) * p ≤ (b - a) * q := Int.mul_le_mul_of_nonneg_left hp.2 (by omega)
  have h3 : Int.tdiv ((b - a) * p) 100 = (b - a) * p / 100 := Int.tdiv_eq_ediv_of_nonneg h1
  have h4 : Int.tdiv ((b - a) * q) 100 = (b - a) * q / 100 := Int.tdiv_eq_ediv_of_nonneg (by omega)
  unfold prt
  rw [h3, h4]
  omega
/-- Percentages. -/
def PQ (p q : Int) : Prop := 0 ≤ p ∧ p ≤ q ∧ q ≤ 100
theorem prt_ok {a b p q : Int} (h : -200000 ≤ a ∧ a ≤ b ∧ b ≤ 200000) (hp : PQ p q) : a ≤ prt a b p ∧ prt a b p ≤ prt a b q ∧ prt a b q ≤ b := by
  obtain ⟨h1, h2, h3⟩ := hp
  exact ⟨(prt_w h ⟨h1, by omega⟩).2.1, prt_mono h.2.1 ⟨h1, h2⟩, (prt_w h ⟨by omega, h3⟩).2.2⟩
theorem M39xe {a b p q : Int} (h : -200000 ≤ a ∧ a ≤ b ∧ b ≤ 200000) (hp : PQ p q) : M39 (no_index ((a, (b, ())), (p, (q, ())))) = some ((prt a b p, (prt a b q, ())), ()) := by
  obtain ⟨h1, h2, h3⟩ := hp
  have e46 : ∀ x y : Int, M46 (no_index (x, (y, ()))) = some ((x, (y, ())), ()) := fun _ _ => rfl
  unfold M39 Q39
  simp only [(prt_w h ⟨h1, by omega⟩).1, (prt_w h ⟨by omega, h3⟩).1, e46, cl_some]
theorem M41xe {a b c d : Int} (h1 : c ≤ a) (h2 : b ≤ d) : M41 (no_index ((a, (b, ())), ((c, (d, ())), ()))) = some (true, ()) := by
  unfold M41 Q41
  simp only [h1, h2, decide_true, cond_true]

/-! the flight -/
def ly0 : Sl layerT := ⟨0, fun _ => ((0 : Int), ((0 : Int), ((0 : Int), ((0 : Int), ((0 : Int), ())))))⟩
def xL (f : flightT) (p q : Int) (j : Nat) : layerT := ((f.1.g j).1, (prt (f.1.g j).2.1 (f.1.g j).2.2.1 p, (prt (f.1.g j).2.1 (f.1.g j).2.2.1 q, (prt (f.1.g j).2.2.2.1 (f.1.g j).2.2.2.2.1 p, (prt (f.1.g j).2.2.2.1 (f.1.g j).2.2.2.2.1 q, ())))))
def xR (f : flightT) (p q : Int) : Sl layerT := tab ly0 (xL f p q) f.1.n
def xF (f : flightT) (p q : Int) : flightT :=
  (xR f p q, (prt f.2.1 f.2.2.1 p, (prt f.2.1 f.2.2.1 q, (prt f.2.2.2.1 f.2.2.2.2.1 p, (prt f.2.2.2.1 f.2.2.2.2.1 q, (prt f.2.2.2.2.2.1 f.2.2.2.2.2.2.1 p, (prt f.2.2.2.2.2.1 f.2.2.2.2.2.2.1 q,
    (prt f.2.2.2.2.2.2.2.1 f.2.2.2.2.2.2.2.2.1 p, (prt f.2.2.2.2.2.2.2.1 f.2.2.2.2.2.2.2.2.1 q, (prt f.2.2.2.2.2.2.2.2.2.1 f.2.2.2.2.2.2.2.2.2.2.1 p, (prt f.2.2.2.2.2.2.2.2.2.1 f.2.2.2.2.2.2.2.2.2.2.1 q,
      (prt f.2.2.2.2.2.2.2.2.2.2.2.1 f.2.2.2.2.2.2.2.2.2.2.2.2.1 p, (prt f.2.2.2.2.2.2.2.2.2.2.2.1 f.2.2.2.2.2.2.2.2.2.2.2.2.1 q, ())))))))))))))
theorem xR_n (f : flightT) (p q : Int) : (xF f p q).1.n = f.1.n := by show (tab _ _ _).n = _; rw [tab_n]; show 0 + f.1.n = _; omega
theorem xR_g (f : flightT) (p q : Int) {j : Nat} (hj : j < f.1.n) : (xF f p q).1.g j = xL f p q j := tab_g0 (s0 := ly0) rfl hj
theorem head_t {f : flightT} (hf : flightB f = true) : (-100000 ≤ f.2.2.2.2.2.2.2.1 ∧ f.2.2.2.2.2.2.2.1 ≤ f.2.2.2.2.2.2.2.2.1 ∧ f.2.2.2.2.2.2.2.2.1 ≤ 100000) ∧ (-100000 ≤ f.2.2.2.2.2.2.2.2.2.1 ∧ f.2.2.2.2.2.2.2.2.2.1 ≤ f.2.2.2.2.2.2.2.2.2.2.1 ∧ f.2.2.2.2.2.2.2.2.2.2.1 ≤ 100000) ∧
    (0 ≤ f.2.2.2.2.2.2.2.2.2.2.2.1 ∧ f.2.2.2.2.2.2.2.2.2.2.2.1 ≤ f.2.2.2.2.2.2.2.2.2.2.2.2.1 ∧ f.2.2.2.2.2.2.2.2.2.2.2.2.1 ≤ 100000) := by
  simp only [flightB, headB, Bool.and_eq_true] at hf
  obtain ⟨_, _, _, _, _, h1, h2, h3⟩ := hf
  exact ⟨spanB_t h1, spanB_t h2, spanB_t h3⟩
theorem part_span {a b lo hi p q c : Int} (hb : -200000 ≤ lo ∧ hi ≤ 200000) (h : (spanB a b lo hi && decide (W (b - a) ≤ c)) = true) (hp : PQ p q) : (spanB (prt a b p) (prt a b q) lo hi && decide (W (prt a b q - prt a b p) ≤ c)) = true := by
  rw [Bool.and_eq_true] at h ⊢
  obtain ⟨h1, h2⟩ := h
  have h1 := spanB_t h1
  have h2 := of_decide_eq_true h2
  rw [W_id ⟨by omega, by omega⟩] at h2
  have k := prt_ok (a := a) (b := b) (by omega) hp
  refine ⟨decide_eq_true (by omega), decide_eq_true ?_⟩
  rw [W_id ⟨by omega, by omega⟩]
  omega
theorem x_ok {f : flightT} (hf : flightB f = true) {p q : Int} (hp : PQ p q) : flightB (xF f p q) = true := by
  obtain ⟨h1, h2, h3⟩ := head_t hf
  have k1 := prt_ok (a := f.2.2.2.2.2.2.2.1) (b := f.2.2.2.2.2.2.2.2.1) (by omega) hp
  have k2 := prt_ok (a := f.2.2.2.2.2.2.2.2.2.1) (b := f.2.2.2.2.2.2.2.2.2.2.1) (by omega) hp
  have k3 := prt_ok (a := f.2.2.2.2.2.2.2.2.2.2.2.1) (b := f.2.2.2.2.2.2.2.2.2.2.2.2.1) (by omega) hp
  obtain ⟨_, hn4, _, _, h4⟩ := flightB_t hf
  have k4 := prt_ok (a := f.2.2.2.2.2.1) (b := f.2.2.2.2.2.2.1) (by omega) hp
  have hf' := hf
  simp only [flightB, headB, Bool.and_eq_true] at hf'
  obtain ⟨a1, a2, a3, a4, a5, _, _, _⟩ := hf'
  simp only [flightB, headB, Bool.and_eq_true]
  refine ⟨?_, ?_, ?_, ?_, ?_, ?_, ?_, ?_⟩
  · refine List.all_eq_true.2 fun j hj => ?_
    have hj : j < f.1.n := by rw [xR_n] at hj; simpa using hj
    have hl := List.all_eq_true.1 a1 j (by simpa using hj)
    unfold layerC at hl ⊢
    rw [xR_g f p q hj]
    simp only [Bool.and_eq_true] at hl ⊢
    exact ⟨hl.1, part_span (by omega) hl.2.1 hp, part_span (by omega) hl.2.2 hp⟩
  · rw [xR_n]; exact a2
  · exact part_span (by omega) a3 hp
  · exact part_span (by omega) a4 hp
  · rw [xR_n]
    exact decide_eq_true (show 1 ≤ prt f.2.2.2.2.2.1 f.2.2.2.2.2.2.1 p ∧ prt f.2.2.2.2.2.1 f.2.2.2.2.2.2.1 p ≤ prt f.2.2.2.2.2.1 f.2.2.2.2.2.2.1 q ∧ prt f.2.2.2.2.2.1 f.2.2.2.2.2.2.1 q ≤ (f.1.n : Int) by omega)
  · exact decide_eq_true (show -100000 ≤ prt f.2.2.2.2.2.2.2.1 f.2.2.2.2.2.2.2.2.1 p ∧ prt f.2.2.2.2.2.2.2.1 f.2.2.2.2.2.2.2.2.1 p ≤ prt f.2.2.2.2.2.2.2.1 f.2.2.2.2.2.2.2.2.1 q ∧ prt f.2.2.2.2.2.2.2.1 f.2.2.2.2.2.2.2.2.1 q ≤ 100000 by omega)
  · exact decide_eq_true (show -100000 ≤ prt f.2.2.2.2.2.2.2.2.2.1 f.2.2.2.2.2.2.2.2.2.2.1 p ∧ prt f.2.2.2.2.2.2.2.2.2.1 f.2.2.2.2.2.2.2.2.2.2.1 p ≤ prt f.2.2.2.2.2.2.2.2.2.1 f.2.2.2.2.2.2.2.2.2.2.1 q ∧ prt f.2.2.2.2.2.2.2.2.2.1 f.2.2.2.2.2.2.2.2.2.2.1 q ≤ 100000 by omega)
  · exact decide_eq_true (show 0 ≤ prt f.2.2.2.2.2.2.2.2.2.2.2.1 f.2.2.2.2.2.2.2.2.2.2.2.2.1 p ∧ prt f.2.2.2.2.2.2.2.2.2.2.2.1 f.2.2.2.2.2.2.2.2.2.2.2.2.1 p ≤ prt f.2.2.2.2.2.2.2.2.2.2.2.1 f.2.2.2.2.2.2.2.2.2.2.2.2.1 q ∧ prt f.2.2.2.2.2.2.2.2.2.2.2.1 f.2.2.2.2.2.2.2.2.2.2.2.2.1 q ≤ 100000 by omega)
theorem val_mono2 {sp sp' : Nat → spanI} {m m' : Nat → Int} {lo hi lo' hi' : Int} {n : Nat} (h : ∀ j, j < n → (sp' j).1 ≤ (sp j).1 ∧ (sp j).2.1 ≤ (sp' j).2.1) (hm : ∀ j, j < n → m' j = m j) (h1 : lo' ≤ lo) (h2 : hi ≤ hi') :
    ∀ {r k : Nat} {s : Int} {l : List Int}, k + r = n → Val sp m lo hi r k s l → Val sp' m' lo' hi' r k s l
  | 0, _, _, _, _, v => by
    have := inB_t v.2
    exact ⟨v.1, inB_i (by omega) (by omega)⟩
  | r + 1, k, s, l, hk, v => by
    obtain ⟨w, l', rfl, a1, a2, a3⟩ := v
    have := h k (by omega)
    refine ⟨w, l', rfl, by omega, by omega, ?_⟩
    rw [hm k (by omega)]
    exact val_mono2 h hm h1 h2 (by omega) a3
/-- What fits spans that are known more closely fits these. -/
theorem x_val {f : flightT} (hf : flightB f = true) {p q : Int} (hp : PQ p q) {r : tripT} (h : ValT (xF f p q) (spR (xF f p q) false).g (spR (xF f p q) true).g r) : ValT f (spR f false).g (spR f true).g r := by
  obtain ⟨h1, h2, h3⟩ := head_t hf
  obtain ⟨_, hn4, h4, h5, h6⟩ := flightB_t hf
  have k1 := prt_ok (a := f.2.2.2.2.2.2.2.1) (b := f.2.2.2.2.2.2.2.2.1) (by omega) hp
  have k2 := prt_ok (a := f.2.2.2.2.2.2.2.2.2.1) (b := f.2.2.2.2.2.2.2.2.2.2.1) (by omega) hp
  have k3 := prt_ok (a := f.2.2.2.2.2.2.2.2.2.2.2.1) (b := f.2.2.2.2.2.2.2.2.2.2.2.2.1) (by omega) hp
  have k4 := prt_ok (a := f.2.1) (b := f.2.2.1) (by omega) hp
  have k5 := prt_ok (a := f.2.2.2.1) (b := f.2.2.2.2.1) (by omega) hp
  have k6 := prt_ok (a := f.2.2.2.2.2.1) (b := f.2.2.2.2.2.2.1) (by omega) hp
  have hm : ∀ j, j < f.1.n → mins f.1 r.1.1 r.1.2.1 r.1.2.2 j = mins (xF f p q).1 r.1.1 r.1.2.1 r.1.2.2 j := fun j hj => by
    unfold mins
    rw [xR_g f p q hj]
    rfl
  have hs : ∀ b j, j < f.1.n → ((spR f b).g j).1 ≤ ((spR (xF f p q) b).g j).1 ∧ ((spR (xF f p q) b).g j).2.1 ≤ ((spR f b).g j).2.1 := fun b j hj => by
    have hw := wind_bd hf hj
    rw [spR_g f b hj, spR_g (xF f p q) b (by rw [xR_n]; exact hj)]
    unfold spT spE spN at *
    rw [xR_g f p q hj]
    cases b
    · have k := prt_ok (a := (f.1.g j).2.1) (b := (f.1.g j).2.2.1) (by have := hw.1; simp only at this; omega) hp
      exact ⟨k.1, k.2.2⟩
    · have k := prt_ok (a := (f.1.g j).2.2.2.1) (b := (f.1.g j).2.2.2.2.1) (by have := hw.2; omega) hp
      exact ⟨k.1, k.2.2⟩
  obtain ⟨m1, m2, m3⟩ := (mem_trips (u := r.1.1) (d := r.1.2.1) (t := r.1.2.2)).1 h.mem
  have m1 : prt f.2.1 f.2.2.1 p ≤ r.1.1 ∧ r.1.1 ≤ prt f.2.1 f.2.2.1 q := m1
  have m2 : prt f.2.2.2.1 f.2.2.2.2.1 p ≤ r.1.2.1 ∧ r.1.2.1 ≤ prt f.2.2.2.1 f.2.2.2.2.1 q := m2
  have m3 : prt f.2.2.2.2.2.1 f.2.2.2.2.2.2.1 p ≤ r.1.2.2 ∧ r.1.2.2 ≤ prt f.2.2.2.2.2.1 f.2.2.2.2.2.2.1 q := m3
  have hmin := h.min
  have he := h.east
  have hn := h.north
  rw [xR_n] at he hn
  refine ⟨(mem_trips (u := r.1.1) (d := r.1.2.1) (t := r.1.2.2)).2 ⟨by omega, by omega, by omega⟩, ?_, val_mono2 (hs false) hm k1.1 k1.2.2 (Nat.zero_add _) he, val_mono2 (hs true) hm k2.1 k2.2.2 (Nat.zero_add _) hn⟩
  unfold minB flown at hmin ⊢
  rw [xR_n, ← sums_congr hm] at hmin
  have := inB_t hmin
  have a : prt f.2.2.2.2.2.2.2.2.2.2.2.1 f.2.2.2.2.2.2.2.2.2.2.2.2.1 p ≤ sums (mins f.1 r.1.1 r.1.2.1 r.1.2.2) f.1.n := this.1
  have b : sums (mins f.1 r.1.1 r.1.2.1 r.1.2.2) f.1.n ≤ prt f.2.2.2.2.2.2.2.2.2.2.2.1 f.2.2.2.2.2.2.2.2.2.2.2.2.1 q := this.2
  exact inB_i (by omega) (by omega)
def rowL (l : List Int) : rowI := ⟨l.length, fun i => (l.getD i 0, ())⟩
def truthOf (r : tripT) : truthT := (r.1.1, (r.1.2.1, (r.1.2.2, (rowL r.2.1, (rowL r.2.2, ())))))
theorem truthOf_is (r : tripT) : IsTruth (truthOf r) r := ⟨rfl, rfl, rfl, ⟨rfl, fun _ _ => rfl⟩, ⟨rfl, fun _ _ => rfl⟩⟩
/-- What is known more closely is known no wider. -/
theorem x_wind {f : flightT} (hf : flightB f = true) {p q : Int} (hp : PQ p q) {V : truthT} (hV : FitT (xF f p q) V) {L : Nat} (hL : L < f.1.n) (b high : Bool) :
    (wiE f b L).1 ≤ endW (xF f p q) (L : Int) b high ∧ endW (xF f p q) (L : Int) b high ≤ (wiE f b L).2.1 := by
  have hx := x_ok hf hp
  have hLx : L < (xF f p q).1.n := by rw [xR_n]; exact hL
  obtain ⟨o1, o2, o3⟩ := (hV.bd hx hLx b).2 high
  unfold okN at o1
  obtain ⟨r, hr⟩ := Option.isSome_iff_exists.1 o1
  obtain ⟨_, s2, s3⟩ := show_fit hx hLx ⟨o2, o3⟩ hr (truthOf_is r)
  have fV := isTruth_fit hf (x_val hf hp s3) (truthOf_is r)
  have := (fV.bd hf hL b).1
  rwa [s2] at this
theorem x_top {f : flightT} (hf : flightB f = true) {p q : Int} (hp : PQ p q) {V : truthT} (hV : FitT (xF f p q) V) (high : Bool) :
    endN (topOk f) f.2.2.2.2.2.1 f.2.2.2.2.2.2.1 false ≤ endN (topOk (xF f p q)) (xF f p q).2.2.2.2.2.1 (xF f p q).2.2.2.2.2.2.1 high ∧ endN (topOk (xF f p q)) (xF f p q).2.2.2.2.2.1 (xF f p q).2.2.2.2.2.2.1 high ≤ endN (topOk f) f.2.2.2.2.2.1 f.2.2.2.2.2.2.1 true := by
  have hx := x_ok hf hp
  obtain ⟨t1, t2, t3⟩ := hV.top hx
  obtain ⟨o1, o2, o3⟩ := (end_ok t2 t3 t1).2 high
  generalize endN (topOk (xF f p q)) (xF f p q).2.2.2.2.2.1 (xF f p q).2.2.2.2.2.2.1 high = T at *
  obtain ⟨r, hr⟩ := Option.isSome_iff_exists.1 (show (fst0 (setTop (xF f p q) T T)).isSome = true from o1)
  have v := fst_val (show fstT (setTop (xF f p q) T T) (spR (setTop (xF f p q) T T) false).g (spR (setTop (xF f p q) T T) true).g = some r from hr)
  obtain ⟨m1, m2, m3⟩ := (mem_trips (u := r.1.1) (d := r.1.2.1) (t := r.1.2.2)).1 v.mem
  have m3 : T ≤ r.1.2.2 ∧ r.1.2.2 ≤ T := m3
  have v' : ValT (xF f p q) (spR (xF f p q) false).g (spR (xF f p q) true).g r := ⟨(mem_trips (u := r.1.1) (d := r.1.2.1) (t := r.1.2.2)).2 ⟨m1, m2, by omega, by omega⟩, v.min, v.east, v.north⟩
  have fV := isTruth_fit hf (x_val hf hp v') (truthOf_is r)
  obtain ⟨k1, k2, k3⟩ := fV.top hf
  have e : (truthOf r).2.2.1 = T := by show r.1.2.2 = T; omega
  rw [e] at k1 k2 k3
  exact (end_ok k2 k3 k1).1
end Go.Dm


/- The law KiteMore. -/
import Derived.Test.YtlfgdpjompacjaaL8NP28
set_option linter.unusedVariables false
set_option linter.unusedSimpArgs false
namespace Go.Dm
set_option maxRecDepth 100000

/-! kites -/
def yK (k : lineT) (p q : Int) : lineT := (prt k.1 k.2.1 p, (prt k.1 k.2.1 q, (prt k.2.2.1 k.2.2.2.1 p, (prt k.2.2.1 k.2.2.2.1 q, (prt k.2.2.2.2.1 k.2.2.2.2.2.1 p, (prt k.2.2.2.2.1 k.2.2.2.2.2.1 q, ()))))))
theorem y_ok {k : lineT} (hk : lineB k = true) {p q : Int} (hp : PQ p q) : lineB (yK k p q) = true ∧ hgt k.1 k.2.2.1 k.2.2.2.2.2.1 ≤ hgt (yK k p q).1 (yK k p q).2.2.1 (yK k p q).2.2.2.2.2.1 ∧ hgt (yK k p q).2.1 (yK k p q).2.2.2.1 (yK k p q).2.2.2.2.1 ≤ hgt k.2.1 k.2.2.2.1 k.2.2.2.2.1 := by
  obtain ⟨h1, h2, h3⟩ := lineB_t hk
  have k1 := prt_ok (a := k.1) (b := k.2.1) (by omega) hp
  have k2 := prt_ok (a := k.2.2.1) (b := k.2.2.2.1) (by omega) hp
  have k3 := prt_ok (a := k.2.2.2.2.1) (b := k.2.2.2.2.2.1) (by omega) hp
  refine ⟨?_, ?_, ?_⟩
  · simp only [lineB, Bool.and_eq_true]
    refine ⟨⟨?_, ?_⟩, ?_⟩
    · exact decide_eq_true (show 0 ≤ prt k.1 k.2.1 p ∧ prt k.1 k.2.1 p ≤ prt k.1 k.2.1 q ∧ prt k.1 k.2.1 q ≤ 10000 by omega)
    · exact decide_eq_true (show 0 ≤ prt k.2.2.1 k.2.2.2.1 p ∧ prt k.2.2.1 k.2.2.2.1 p ≤ prt k.2.2.1 k.2.2.2.1 q ∧ prt k.2.2.1 k.2.2.2.1 q ≤ 90 by omega)
    · exact decide_eq_true (show 0 ≤ prt k.2.2.2.2.1 k.2.2.2.2.2.1 p ∧ prt k.2.2.2.2.1 k.2.2.2.2.2.1 p ≤ prt k.2.2.2.2.1 k.2.2.2.2.2.1 q ∧ prt k.2.2.2.2.1 k.2.2.2.2.2.1 q ≤ 1000 by omega)
  · exact hgt_mono (w := k.1) (w' := prt k.1 k.2.1 p) (a := k.2.2.1) (a' := prt k.2.2.1 k.2.2.2.1 p) (s := k.2.2.2.2.2.1) (s' := prt k.2.2.2.2.1 k.2.2.2.2.2.1 q) (by omega) (by omega) (by omega)
  · exact hgt_mono (w := prt k.1 k.2.1 q) (w' := k.2.1) (a := prt k.2.2.1 k.2.2.2.1 q) (a' := k.2.2.2.1) (s := prt k.2.2.2.2.1 k.2.2.2.2.2.1 p) (s' := k.2.2.2.2.1) (by omega) (by omega) (by omega)

/-! traces -/
def mk0 : Sl markT := ⟨0, fun _ => ((0 : Int), ((0 : Int), ((0 : Int), ())))⟩
def zM (t : traceT) (p q : Int) (j : Nat) : markT := ((t.2.2.1.g j).1, (prt (t.2.2.1.g j).2.1 (t.2.2.1.g j).2.2.1 p, (prt (t.2.2.1.g j).2.1 (t.2.2.1.g j).2.2.1 q, ())))
def zT (t : traceT) (p q : Int) : traceT := (prt t.1 t.2.1 p, (prt t.1 t.2.1 q, (tab mk0 (zM t p q) t.2.2.1.n, ())))
theorem z_n (t : traceT) (p q : Int) : (zT t p q).2.2.1.n = t.2.2.1.n := by show (tab _ _ _).n = _; rw [tab_n]; show 0 + t.2.2.1.n = _; omega
theorem z_g (t : traceT) (p q : Int) {j : Nat} (hj : j < t.2.2.1.n) : (zT t p q).2.2.1.g j = zM t p q j := tab_g0 (s0 := mk0) rfl hj
theorem z_ok {t : traceT} (ht : traceB t = true) {p q : Int} (hp : PQ p q) : traceB (zT t p q) = true := by
  obtain ⟨h1, h2, h3⟩ := traceB_t ht
  have k := prt_ok (a := t.1) (b := t.2.1) (by omega) hp
  simp only [traceB, Bool.and_eq_true]
  rw [z_n]
  refine ⟨List.all_eq_true.2 fun j hj => ?_, decide_eq_true (show -5000 ≤ prt t.1 t.2.1 p ∧ prt t.1 t.2.1 p ≤ prt t.1 t.2.1 q ∧ prt t.1 t.2.1 q ≤ 5000 by omega), decide_eq_true (by omega)⟩
  have hj : j < t.2.2.1.n := by simpa using hj
  have hc := h1 j hj
  have hb : bef (zT t p q) j = bef t j := by
    cases j with
    | zero => rfl
    | succ j =>
      show ((zT t p q).2.2.1.g j).1 = (t.2.2.1.g j).1
      rw [z_g t p q (by omega)]; rfl
  have ht := temp_bd ht hj
  have k2 := prt_ok (a := (t.2.2.1.g j).2.1) (b := (t.2.2.1.g j).2.2.1) (by omega) hp
  unfold markC at hc ⊢
  rw [hb, z_g t p q hj]
  rw [Bool.and_eq_true] at hc ⊢
  exact ⟨hc.1, decide_eq_true (show -900 ≤ prt (t.2.2.1.g j).2.1 (t.2.2.1.g j).2.2.1 p ∧ prt (t.2.2.1.g j).2.1 (t.2.2.1.g j).2.2.1 p ≤ prt (t.2.2.1.g j).2.1 (t.2.2.1.g j).2.2.1 q ∧ prt (t.2.2.1.g j).2.1 (t.2.2.1.g j).2.2.1 q ≤ 500 by omega)⟩
theorem hs_z (t : traceT) (p q b : Int) (u : rowI) : ∀ j, j < t.2.2.1.n → hs (zT t p q) b u j = hs t b u j
  | 0, _ => rfl
  | j + 1, h => by
    rw [hs, hs, hs_z t p q b u j (by omega)]
    congr 2
    unfold rise
    rw [z_g t p q (show j < t.2.2.1.n by omega), z_g t p q h]
    rfl
theorem spans_z {t : traceT} (ht : traceB t = true) {p q : Int} (hp : PQ p q) {j : Nat} (hj : j < t.2.2.1.n) :
    ((spans t t.2.2.1.n).g j).1 ≤ ((spans (zT t p q) t.2.2.1.n).g j).1 ∧ ((spans (zT t p q) t.2.2.1.n).g j).2.1 ≤ ((spans t t.2.2.1.n).g j).2.1 := by
  obtain ⟨h1, h2, h3⟩ := traceB_t ht
  have k := prt_ok (a := t.1) (b := t.2.1) (by omega) hp
  have tk : ∀ i, i < t.2.2.1.n → -900 ≤ (t.2.2.1.g i).2.1 ∧ ((t.2.2.1.g i).2.1 ≤ prt (t.2.2.1.g i).2.1 (t.2.2.1.g i).2.2.1 p ∧ prt (t.2.2.1.g i).2.1 (t.2.2.1.g i).2.2.1 p ≤ prt (t.2.2.1.g i).2.1 (t.2.2.1.g i).2.2.1 q ∧ prt (t.2.2.1.g i).2.1 (t.2.2.1.g i).2.2.1 q ≤ (t.2.2.1.g i).2.2.1) ∧ (t.2.2.1.g i).2.2.1 ≤ 500 := fun i hi => by
    have hb := temp_bd ht hi
    exact ⟨hb.1, prt_ok (by omega) hp, hb.2.2⟩
  have ec : ∀ i, i < t.2.2.1.n → (cold (zT t p q) t.2.2.1.n).g i = (prt (t.2.2.1.g i).2.1 (t.2.2.1.g i).2.2.1 p, ()) := fun i hi => by
    have := cold_g (zT t p q) (j := i) (by rw [z_n]; exact hi)
    rw [z_n, z_g t p q hi] at this
    exact this
  have ew : ∀ i, i < t.2.2.1.n → (warm (zT t p q) t.2.2.1.n).g i = (prt (t.2.2.1.g i).2.1 (t.2.2.1.g i).2.2.1 q, ()) := fun i hi => by
    have := warm_g (zT t p q) (j := i) (by rw [z_n]; exact hi)
    rw [z_n, z_g t p q hi] at this
    exact this
  have oc : okTemp t (cold (zT t p q) t.2.2.1.n) := fun i hi => by rw [ec i hi]; have := tk i hi; show -900 ≤ prt _ _ p ∧ prt _ _ p ≤ 500; omega
  have ow : okTemp t (warm (zT t p q) t.2.2.1.n) := fun i hi => by rw [ew i hi]; have := tk i hi; show -900 ≤ prt _ _ q ∧ prt _ _ q ≤ 500; omega
  rw [spans_g t hj, spans_g (zT t p q) hj]
  have lz : ((lowR (zT t p q)).g j).1 = hs t (prt t.1 t.2.1 p) (cold (zT t p q) t.2.2.1.n) j := by
    unfold lowR
    rw [z_n, hrow_g _ _ _ (by omega)]
    exact hs_z t p q _ _ j hj
  have hz : ((highR (zT t p q)).g j).1 = hs t (prt t.1 t.2.1 q) (warm (zT t p q) t.2.2.1.n) j := by
    unfold highR
    rw [z_n, hrow_g _ _ _ (by omega)]
    exact hs_z t p q _ _ j hj
  have lt : ((lowR t).g j).1 = hs t t.1 (cold t t.2.2.1.n) j := by unfold lowR; rw [hrow_g _ _ _ (by omega)]
  have ht' : ((highR t).g j).1 = hs t t.2.1 (warm t t.2.2.1.n) j := by unfold highR; rw [hrow_g _ _ _ (by omega)]
  constructor
  · show ((lowR t).g j).1 ≤ ((lowR (zT t p q)).g j).1
    rw [lz, lt]
    exact hs_mono ht (cold_ok ht) oc (by omega) (fun i hi => by rw [ec i hi, cold_g t hi]; exact (tk i hi).2.1.1) j hj
  · show ((highR (zT t p q)).g j).1 ≤ ((highR t).g j).1
    rw [hz, ht']
    exact hs_mono ht ow (warm_ok ht) (by omega) (fun i hi => by rw [ew i hi, warm_g t hi]; exact (tk i hi).2.1.2.2) j hj

/-! the law's loops -/
theorem L8a_e {f : flightT} (hf : flightB f = true) {p q : Int} (hp : PQ p q) (k k' : lineT) (t t' : traceT) :
    L8x0 (no_index (p, (q, ((), ((), ((), ((), ((), ((), (f, (k, (t, (k', (t', ())))))))))))))) (no_index ((0 : Int), ((ly0, f.2), ()))) = .exit 0 ((xR f p q, f.2), ()) := by
  have hn4 := (flightB_t hf).2.1
  unfold L8x0
  refine iterQ_steps (ps := vs8x0) f.1.n big (fun j => ((j : Int), ((tab ly0 (xL f p q) j, f.2), ()))) (big_lt (by omega)) (fun j hj => ?_) ?_
  · have e1 : ((j : Int) < ((f.1.n : Nat) : Int)) := by omega
    have i1 : ((0 : Int) ≤ (j : Int)) ∧ (j : Int) < ((f.1.n : Nat) : Int) := by omega
    have e3 : W ((j : Int) + 1) = ((j + 1 : Nat) : Int) := by rw [W_id ⟨by omega, by omega⟩]; rfl
    have e7 : ((tab ly0 (xL f p q) j).n + 1) * 40 ≤ 140737488355328 := by rw [tab_n]; show (0 + j + 1) * 40 ≤ _; omega
    have hw := wind_bd hf hj
    have m0 := M39xe (a := (f.1.g j).2.1) (b := (f.1.g j).2.2.1) (by have := hw.1; unfold spE at this; simp only at this; omega) hp
    have m1 : M39 (no_index ((f.1.g j).2.2.2, (p, (q, ())))) = _ := M39xe (a := (f.1.g j).2.2.2.1) (b := (f.1.g j).2.2.2.2.1) (by have := hw.2; unfold spN at this; omega) hp
    unfold S8x0 Z8x0
    simp only [e1, i1, and_self, decide_true, cond_true, Int.toNat_natCast, m0, m1, cl_some, e7, e3]
    rfl
  · unfold S8x0 Z8x0
    simp only [Int.lt_irrefl, decide_false, cond_false]
    rfl
theorem L8b_e {t : traceT} (ht : traceB t = true) {p q : Int} (hp : PQ p q) (f f' : flightT) (k k' : lineT) (b0 b1 : Int) :
    L8x1 (no_index (p, (q, ((), ((), ((), ((), ((), ((), (f, (k, (t, (f', (k', ())))))))))))))) (no_index ((0 : Int), ((b0, (b1, (mk0, ()))), ()))) = .exit 2 ((b0, (b1, (tab mk0 (zM t p q) t.2.2.1.n, ()))), ()) := by
  obtain ⟨h1, h2, h3⟩ := traceB_t ht
  unfold L8x1
  refine iterQ_steps (ps := vs8x1) t.2.2.1.n big (fun j => ((j : Int), ((b0, (b1, (tab mk0 (zM t p q) j, ()))), ()))) (big_lt (by omega)) (fun j hj => ?_) ?_
  · have e1 : ((j : Int) < ((t.2.2.1.n : Nat) : Int)) := by omega
    have i1 : ((0 : Int) ≤ (j : Int)) ∧ (j : Int) < ((t.2.2.1.n : Nat) : Int) := by omega
    have e3 : W ((j : Int) + 1) = ((j + 1 : Nat) : Int) := by rw [W_id ⟨by omega, by omega⟩]; rfl
    have e7 : ((tab mk0 (zM t p q) j).n + 1) * 24 ≤ 140737488355328 := by rw [tab_n]; show (0 + j + 1) * 24 ≤ _; omega
    have hb := temp_bd ht hj
    have m0 : M39 (no_index ((t.2.2.1.g j).2, (p, (q, ())))) = _ := M39xe (a := (t.2.2.1.g j).2.1) (b := (t.2.2.1.g j).2.2.1) (by omega) hp
    unfold S8x1 Z8x1
    simp only [e1, i1, and_self, decide_true, cond_true, Int.toNat_natCast, m0, cl_some, e7, e3]
    rfl
  · unfold S8x1 Z8x1
    simp only [Int.lt_irrefl, decide_false, cond_false]
theorem L8c_e {a b : rowS} (hn : b.n = a.n) (h : a.n ≤ 1000) (hi : ∀ j, j < a.n → (a.g j).1 ≤ (b.g j).1 ∧ (b.g j).2.1 ≤ (a.g j).2.1) (f f' : flightT) :
    L8x2 (no_index ((), ((), (a, (b, (f, (f', ()))))))) (no_index ((0 : Int), ())) = .exit 4 () := by
  unfold L8x2
  refine iterQ_steps (ps := vs8x2) a.n big (fun j => ((j : Int), ())) (big_lt (by omega)) (fun j hj => ?_) ?_
  · have e1 : ((j : Int) < ((a.n : Nat) : Int)) := by omega
    have i1 : ((0 : Int) ≤ (j : Int)) ∧ (j : Int) < ((a.n : Nat) : Int) := by omega
    have e3 : W ((j : Int) + 1) = ((j + 1 : Nat) : Int) := by rw [W_id ⟨by omega, by omega⟩]; rfl
    have m : M41 (no_index ((b.g j), ((a.g j), ()))) = some (true, ()) := M41xe (hi j hj).1 (hi j hj).2
    unfold S8x2 Z8x2
    simp only [e1, i1, hn, and_self, decide_true, cond_true, Int.toNat_natCast, m, cl_some, e3, Bool.not_true, cond_false]
  · unfold S8x2 Z8x2
    simp only [Int.lt_irrefl, decide_false, cond_false]
theorem L8d_e {f : flightT} (hf : flightB f = true) {p q : Int} (hp : PQ p q) {V : truthT} (hV : FitT (xF f p q) V) :
    L8x3 (no_index ((), ((), ((), (f, (winV f f.1.n, (winV (xF f p q) (xF f p q).1.n, ()))))))) (no_index ((0 : Int), ())) = .exit 6 () := by
  have hn4 := (flightB_t hf).2.1
  have wn : ∀ (g : flightT) (m : Nat), (winV g m).2.2.1.n = m ∧ (winV g m).2.2.2.1.n = m := fun g m => ⟨by show (tab _ _ _).n = _; rw [tab_n]; show 0 + m = _; omega, by show (tab _ _ _).n = _; rw [tab_n]; show 0 + m = _; omega⟩
  rw [xR_n]
  have a1 := (wn f f.1.n).1
  have a2 := (wn f f.1.n).2
  have a3 := (wn (xF f p q) f.1.n).1
  have a4 := (wn (xF f p q) f.1.n).2
  unfold L8x3
  refine iterQ_steps (ps := vs8x3) f.1.n big (fun j => ((j : Int), ())) (big_lt (by omega)) (fun j hj => ?_) ?_
  · have e1 : ((j : Int) < ((f.1.n : Nat) : Int)) := by omega
    have i1 : ((0 : Int) ≤ (j : Int)) ∧ (j : Int) < ((f.1.n : Nat) : Int) := by omega
    have e3 : W ((j : Int) + 1) = ((j + 1 : Nat) : Int) := by rw [W_id ⟨by omega, by omega⟩]; rfl
    have g : ∀ (g : flightT), (winV g f.1.n).2.2.1.g j = wiE g false j ∧ (winV g f.1.n).2.2.2.1.g j = wiE g true j := fun g => ⟨tab_g0 (s0 := s0I) rfl hj, tab_g0 (s0 := s0I) rfl hj⟩
    have g1 := (g f).1
    have g2 := (g f).2
    have g3 := (g (xF f p q)).1
    have g4 := (g (xF f p q)).2
    have m0 : M41 (no_index (wiE (xF f p q) false j, (wiE f false j, ()))) = some (true, ()) := M41xe (x_wind hf hp hV hj false false).1 (x_wind hf hp hV hj false true).2
    have m1 : M41 (no_index (wiE (xF f p q) true j, (wiE f true j, ()))) = some (true, ()) := M41xe (x_wind hf hp hV hj true false).1 (x_wind hf hp hV hj true true).2
    unfold S8x3 Z8x3
    simp only [e1, i1, a1, a2, a3, a4, g1, g2, g3, g4, and_self, decide_true, cond_true, Int.toNat_natCast, m0, m1, cl_some, e3, Bool.not_true, cond_false]
  · unfold S8x3 Z8x3
    simp only [Int.lt_irrefl, decide_false, cond_false]
theorem M8xe (f : flightT) (k : lineT) (t : traceT) (p q : Int) : M8 (no_index (f, (k, (t, (p, (q, ())))))) = some (true, ()) := by
  have e27 : M27 (no_index (f, ())) = some (decide (((f.1.n : Nat) : Int) ≤ 7), ()) := rfl
  have e21 : M21 (no_index (t, ())) = some (decide (((t.2.2.1.n : Nat) : Int) ≤ 11), ()) := rfl
  unfold M8 Q8
  simp only [e27, e21, cl_some, known_M]
  by_cases h7 : ((f.1.n : Nat) : Int) ≤ 7
  case neg => simp [h7]
  by_cases h11 : ((t.2.2.1.n : Nat) : Int) ≤ 11
  case neg => simp [h7, h11]
  have e38 : M38 (no_index (f, ())) = some (flightB f, ()) := M38xe (x := (f, ())) (show f.1.n ≤ _ by omega)
  have e18 : M18 (no_index (k, ())) = some (lineB k, ()) := M18xe _
  have e23 : M23 (no_index (t, ())) = some (traceB t, ()) := M23xe (x := (t, ())) (show t.2.2.1.n ≤ _ by omega)
  simp only [h7, h11, e38, e18, e23, cl_some, decide_true, Bool.not_true, cond_false]
  cases hf : flightB f with
  | false => rfl
  | true =>
  cases hk : lineB k with
  | false => rfl
  | true =>
  cases ht : traceB t with
  | false => rfl
  | true =>
  by_cases p1 : p < 0
  case pos => simp [p1]
  by_cases p2 : q < p
  case pos => simp [p1, p2]
  by_cases p3 : (100 : Int) < q
  case pos => simp [p1, p2, p3]
  have hp : PQ p q := ⟨by omega, by omega, by omega⟩
  simp only [p1, p2, p3, decide_false, Bool.not_true, cond_false]
  obtain ⟨h1, h2, h3⟩ := head_t hf
  obtain ⟨_, hn4, h4, h5, h6⟩ := flightB_t hf
  obtain ⟨l1, l2, l3⟩ := lineB_t hk
  obtain ⟨t1, t2, t3⟩ := traceB_t ht
  have m1 := M39xe (a := f.2.1) (b := f.2.2.1) (by omega) hp
  have m2 := M39xe (a := f.2.2.2.1) (b := f.2.2.2.2.1) (by omega) hp
  have m3 := M39xe (a := f.2.2.2.2.2.1) (b := f.2.2.2.2.2.2.1) (by omega) hp
  have m4 := M39xe (a := f.2.2.2.2.2.2.2.1) (b := f.2.2.2.2.2.2.2.2.1) (by omega) hp
  have m5 := M39xe (a := f.2.2.2.2.2.2.2.2.2.1) (b := f.2.2.2.2.2.2.2.2.2.2.1) (by omega) hp
  have m6 : M39 (no_index (f.2.2.2.2.2.2.2.2.2.2.2, (p, (q, ())))) = _ := M39xe (a := f.2.2.2.2.2.2.2.2.2.2.2.1) (b := f.2.2.2.2.2.2.2.2.2.2.2.2.1) (by omega) hp
  have m7 := M39xe (a := k.1) (b := k.2.1) (by omega) hp
  have m8 := M39xe (a := k.2.2.1) (b := k.2.2.2.1) (by omega) hp
  have m9 : M39 (no_index (k.2.2.2.2, (p, (q, ())))) = _ := M39xe (a := k.2.2.2.2.1) (b := k.2.2.2.2.2.1) (by omega) hp
  have m10 := M39xe (a := t.1) (b := t.2.1) (by omega) hp
  obtain ⟨y1, y2, y3⟩ := y_ok hk hp
  have z1 := z_ok ht hp
  have hx := x_ok hf hp
  have e17 : M17 (no_index (k, ())) = some ((hgt k.1 k.2.2.1 k.2.2.2.2.2.1, (hgt k.2.1 k.2.2.2.1 k.2.2.2.2.1, ())), ((0 : Int), ())) := by
    have := M17xe (k, ())
    rw [show lineB ((k, ()) : lineT × Unit).1 = true from hk] at this
    exact this
  have e17y : M17 (no_index (yK k p q, ())) = some ((hgt (yK k p q).1 (yK k p q).2.2.1 (yK k p q).2.2.2.2.2.1, (hgt (yK k p q).2.1 (yK k p q).2.2.2.1 (yK k p q).2.2.2.2.1, ())), ((0 : Int), ())) := by
    have := M17xe (yK k p q, ())
    rw [show lineB ((yK k p q, ()) : lineT × Unit).1 = true from y1] at this
    exact this
  have e40 : M40 (no_index (t, ())) = some (spans t t.2.2.1.n, ((0 : Int), ())) := by
    have := M40xe (x := (t, ())) (show t.2.2.1.n ≤ 100 by omega)
    rw [show traceB ((t, ()) : traceT × Unit).1 = true from ht] at this
    exact this
  have e40z : M40 (no_index (zT t p q, ())) = some (spans (zT t p q) t.2.2.1.n, ((0 : Int), ())) := by
    have := M40xe (x := (zT t p q, ())) (show (zT t p q).2.2.1.n ≤ 100 by rw [z_n]; omega)
    rw [show traceB ((zT t p q, ()) : traceT × Unit).1 = true from z1] at this
    rw [show ((zT t p q, ()) : traceT × Unit).1.2.2.1.n = t.2.2.1.n from z_n t p q] at this
    exact this
  have m41 : M41 (no_index ((hgt (yK k p q).1 (yK k p q).2.2.1 (yK k p q).2.2.2.2.2.1, (hgt (yK k p q).2.1 (yK k p q).2.2.2.1 (yK k p q).2.2.2.2.1, ())), ((hgt k.1 k.2.2.1 k.2.2.2.2.2.1, (hgt k.2.1 k.2.2.2.1 k.2.2.2.2.1, ())), ()))) = some (true, ()) := M41xe y2 y3
  refine (congrArg (fun o => onExit o 0 _ _) (L8a_e hf hp k k t (t.1, (t.2.1, (mk0, ()))))).trans ?_
  refine (xe8x0e0 _ _ _).trans ?_
  simp only [m1, m2, m3, m4, m5, m6, m7, m8, m9, m10, cl_some]
  refine (congrArg (fun o => onExit o 2 _ _) (L8b_e ht hp f (xF f p q) k (yK k p q) (prt t.1 t.2.1 p) (prt t.1 t.2.1 q))).trans ?_
  refine (xe8x1e2 _ _ _).trans ?_
  have ey : (prt k.1 k.2.1 p, (prt k.1 k.2.1 q, (prt k.2.2.1 k.2.2.2.1 p, (prt k.2.2.1 k.2.2.2.1 q, (prt k.2.2.2.2.1 k.2.2.2.2.2.1 p, (prt k.2.2.2.2.1 k.2.2.2.2.2.1 q, ())))))) = yK k p q := rfl
  have ez : (prt t.1 t.2.1 p, (prt t.1 t.2.1 q, (tab mk0 (zM t p q) t.2.2.1.n, ()))) = zT t p q := rfl
  have n1 : (spans t t.2.2.1.n).n = t.2.2.1.n := spans_n _ _
  have n2 : (spans (zT t p q) t.2.2.1.n).n = t.2.2.1.n := spans_n _ _
  have L2 := L8c_e (a := spans t t.2.2.1.n) (b := spans (zT t p q) t.2.2.1.n) (by rw [n1, n2]) (by rw [n1]; omega) (fun j hj => by rw [n1] at hj; exact spans_z ht hp hj) f (xF f p q)
  rw [ey, ez]
  simp only [e17, e17y, e40, e40z, m41, n1, n2, cl_some, decide_true, Bool.not_true, cond_false]
  refine (congrArg (fun o => onExit o 4 _ (onRet o _ _)) L2).trans ?_
  refine (xe8x2e4 _ _ _).trans ?_
  rcases M28xe hx with ⟨a, e28x⟩ | ⟨r, a, e28x⟩
  · -- nothing fits what is known more closely
    have d : decide ((7 : Int) = 0) = false := rfl
    have e28x : M28 (no_index (xF f p q, ())) = some (zeroW, ((7 : Int), ())) := e28x
    obtain ⟨w, c, e28⟩ : ∃ w c, M28 (no_index (f, ())) = some (w, (c, ())) := by
      rcases M28xe hf with ⟨_, e⟩ | ⟨_, _, e⟩
      · exact ⟨_, _, e⟩
      · exact ⟨_, _, e⟩
    refine (show cl (r28).dflt (M28 (f, ())) (fun u37 => cl (r28).dflt (M28 (xF f p q, ())) _ none) none = _ from ?_)
    simp only [e28, e28x, cl_some]
    rfl
  · have hV := isTruth_fit hx (fst_val (show fstT (xF f p q) (spR (xF f p q) false).g (spR (xF f p q) true).g = some r from a)) (truthOf_is r)
    have fV := isTruth_fit hf (x_val hf hp (fst_val (show fstT (xF f p q) (spR (xF f p q) false).g (spR (xF f p q) true).g = some r from a))) (truthOf_is r)
    obtain ⟨r', a', _⟩ := fV.first hf
    have e28 : M28 (no_index (f, ())) = some (winV f f.1.n, ((0 : Int), ())) := by
      rcases M28xe hf with ⟨b, _⟩ | ⟨_, _, e⟩
      · rw [a'] at b; cases b
      · exact e
    have wn : ∀ (g : flightT) (m : Nat), (winV g m).2.2.1.n = m ∧ (winV g m).2.2.2.1.n = m := fun g m => ⟨by show (tab _ _ _).n = _; rw [tab_n]; show 0 + m = _; omega, by show (tab _ _ _).n = _; rw [tab_n]; show 0 + m = _; omega⟩
    have a1 := (wn f f.1.n).1
    have a2 := (wn f f.1.n).2
    have a3 := (wn (xF f p q) (xF f p q).1.n).1
    have a4 := (wn (xF f p q) (xF f p q).1.n).2
    rw [xR_n f p q] at a3 a4
    have mt : M41 (no_index (((winV (xF f p q) f.1.n).1, ((winV (xF f p q) f.1.n).2.1, ())), (((winV f f.1.n).1, ((winV f f.1.n).2.1, ())), ()))) = some (true, ()) := M41xe (x_top hf hp hV false).1 (x_top hf hp hV true).2
    have L3 := L8d_e hf hp hV
    rw [xR_n f p q] at L3 e28x
    refine (show cl (r28).dflt (M28 (f, ())) (fun u37 => cl (r28).dflt (M28 (xF f p q, ())) _ none) none = _ from ?_)
    simp only [e28, e28x, cl_some, decide_true, Bool.not_true, cond_false, a1, a2, a3, a4, mt]
    refine (congrArg (fun o => onExit o 6 _ (onRet o _ _)) L3).trans ?_
    rfl
theorem law8 (x : (a8).den) : M8 x = some (true, ()) := by
  obtain ⟨f, k, t, p, q, ⟨⟩⟩ := x
  exact M8xe f k t p q
end Go.Dm


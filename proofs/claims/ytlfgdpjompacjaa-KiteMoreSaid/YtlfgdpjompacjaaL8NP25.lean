/- What fits, and what comes before. -/
import Derived.Test.YtlfgdpjompacjaaL8NP24
set_option linter.unusedVariables false
set_option linter.unusedSimpArgs false
namespace Go.Dm
set_option maxRecDepth 100000

/-! winds that come to where a balloon was found -/
section
variable {sp : Nat → spanI} {m : Nat → Int} {lo hi : Int} {n : Nat} {V : rowI}
theorem val_to (hn : n ≤ 8) (hsp : ∀ j, j < n → -100 ≤ (sp j).1 ∧ (sp j).2.1 ≤ 100) (hm : ∀ j, j < n → 0 ≤ m j ∧ m j ≤ 200) : ∀ {r k : Nat} {s : Int} {l : List Int}, Val sp m lo hi r k s l → k + r = n → (∀ i, i < r → V.g (k + i) = (l.getD i 0, ())) →
    sums (fun j => W ((V.g j).1 * m j)) k = s → -20000 * (k : Int) ≤ s ∧ s ≤ 20000 * (k : Int) → (∀ j, k ≤ j → j < n → (sp j).1 ≤ (V.g j).1 ∧ (V.g j).1 ≤ (sp j).2.1) ∧ inB (sums (fun j => W ((V.g j).1 * m j)) n) lo hi = true
  | 0, k, s, l, h, hk, _, hs, _ => by
    obtain rfl : k = n := by omega
    exact ⟨fun j h1 h2 => by omega, by rw [hs]; exact h.2⟩
  | r + 1, k, s, l, h, hk, hV, hs, hb => by
    obtain ⟨w, l', rfl, h1, h2, h3⟩ := h
    have hw : (V.g k).1 = w := by have := hV 0 (by omega); rw [Nat.add_zero] at this; rw [this]; rfl
    have b := hsp k (by omega)
    have p := prod_bd (w := w) (m := m k) ⟨by omega, by omega⟩ (hm k (by omega))
    have hs' : sums (fun j => W ((V.g j).1 * m j)) (k + 1) = s + w * m k := by
      rw [sums, hs]
      show W (s + W ((V.g k).1 * m k)) = _
      rw [hw, W_id (n := w * m k) ⟨by omega, by omega⟩]
      exact W_id ⟨by omega, by omega⟩
    obtain ⟨c1, c2⟩ := val_to hn hsp hm h3 (by omega) (fun i hi => by
      have := hV (i + 1) (by omega)
      rw [List.getD_cons_succ] at this
      rw [← this]; congr 1; omega) hs' (by omega)
    refine ⟨fun j j1 j2 => ?_, c2⟩
    by_cases q : j = k
    · subst q; rw [hw]; exact ⟨h1, h2⟩
    · exact c1 j (by omega) j2
def lstF (V : rowI) : Nat → Nat → List Int
  | 0, _ => []
  | r + 1, k => (V.g k).1 :: lstF V r (k + 1)
theorem val_of (hn : n ≤ 8) (hsp : ∀ j, j < n → -100 ≤ (sp j).1 ∧ (sp j).2.1 ≤ 100) (hm : ∀ j, j < n → 0 ≤ m j ∧ m j ≤ 200) (hV : ∀ j, j < n → (sp j).1 ≤ (V.g j).1 ∧ (V.g j).1 ≤ (sp j).2.1) (hin : inB (sums (fun j => W ((V.g j).1 * m j)) n) lo hi = true) :
    ∀ (r k : Nat) (s : Int), k + r = n → sums (fun j => W ((V.g j).1 * m j)) k = s → -20000 * (k : Int) ≤ s ∧ s ≤ 20000 * (k : Int) → Val sp m lo hi r k s (lstF V r k)
  | 0, k, s, hk, hs, _ => by
    obtain rfl : k = n := by omega
    rw [hs] at hin
    exact ⟨rfl, hin⟩
  | r + 1, k, s, hk, hs, hb => by
    have b := hsp k (by omega)
    have v := hV k (by omega)
    have p := prod_bd (w := (V.g k).1) (m := m k) ⟨by omega, by omega⟩ (hm k (by omega))
    have hs' : sums (fun j => W ((V.g j).1 * m j)) (k + 1) = s + (V.g k).1 * m k := by
      rw [sums, hs]
      show W (s + W ((V.g k).1 * m k)) = _
      rw [W_id (n := (V.g k).1 * m k) ⟨by omega, by omega⟩]
      exact W_id ⟨by omega, by omega⟩
    exact ⟨_, _, rfl, v.1, v.2, val_of hn hsp hm hV hin r (k + 1) _ (by omega) hs' (by omega)⟩
end
theorem inB_i {x lo hi : Int} (h1 : lo ≤ x) (h2 : x ≤ hi) : inB x lo hi = true := decide_eq_true ⟨h1, h2⟩

/-! trips with winds that fit -/
structure ValT (f : flightT) (se sn : Nat → spanI) (r : tripT) : Prop where
  mem : r.1 ∈ trips f
  min : minB f r.1 = true
  east : Val se (mins f.1 r.1.1 r.1.2.1 r.1.2.2) (fnd f false).1 (fnd f false).2.1 f.1.n 0 0 r.2.1
  north : Val sn (mins f.1 r.1.1 r.1.2.1 r.1.2.2) (fnd f true).1 (fnd f true).2.1 f.1.n 0 0 r.2.2
/-- One comes before the other, or is it. -/
def Le3 (r s : tripT) : Prop := r.1.1 < s.1.1 ∨ (r.1.1 = s.1.1 ∧ (r.1.2.1 < s.1.2.1 ∨ (r.1.2.1 = s.1.2.1 ∧ (r.1.2.2 < s.1.2.2 ∨ (r.1.2.2 = s.1.2.2 ∧ Lex r.2.1 s.2.1 ∧ Lex r.2.2 s.2.2)))))
theorem fst_val {f : flightT} {se sn : Nat → spanI} {r : tripT} (h : fstT f se sn = some r) : ValT f se sn r := by
  obtain ⟨h1, h2, _, _⟩ := fst0xlen h
  unfold tryT at h2
  cases hm : minB f r.1 with
  | false => rw [hm] at h2; cases h2
  | true =>
    rw [hm] at h2
    cases g0 : goD f r.1.1 r.1.2.1 r.1.2.2 false se with
    | none => rw [g0] at h2; cases h2
    | some a =>
      cases g1 : goD f r.1.1 r.1.2.1 r.1.2.2 true sn with
      | none => rw [g0, g1] at h2; cases h2
      | some b =>
        rw [g0, g1] at h2
        have e : r.2 = (a, b) := by
          have := Option.some.inj h2
          rw [← this]
        have v0 := goW_val g0
        have v1 := goW_val g1
        exact ⟨h1, hm, by rw [e]; exact v0, by rw [e]; exact v1⟩
theorem try_val {f : flightT} {se sn : Nat → spanI} {s : tripT} (h : ValT f se sn s) : ∃ r, tryT f se sn s.1 = some r ∧ r.1 = s.1 ∧ Lex r.2.1 s.2.1 ∧ Lex r.2.2 s.2.2 := by
  obtain ⟨a, a1, a2⟩ := goW_least h.east
  obtain ⟨b, b1, b2⟩ := goW_least h.north
  have a1 : goD f s.1.1 s.1.2.1 s.1.2.2 false se = some a := a1
  have b1 : goD f s.1.1 s.1.2.1 s.1.2.2 true sn = some b := b1
  refine ⟨(s.1, (a, b)), ?_, rfl, a2, b2⟩
  unfold tryT
  rw [h.min, a1, b1]
  rfl
theorem idx {lo hi x : Int} (h1 : lo ≤ x) (h2 : x ≤ hi) : (x - lo).toNat < lens lo hi ∧ lo + ((x - lo).toNat : Int) = x := by unfold lens; omega
theorem fst_le {f : flightT} {se sn : Nat → spanI} {s : tripT} (h : ValT f se sn s) : ∃ r, fstT f se sn = some r ∧ Le3 r s := by
  obtain ⟨q, q1, q2, q3, q4⟩ := try_val h
  obtain ⟨m1, m2, m3⟩ := (mem_trips (u := s.1.1) (d := s.1.2.1) (t := s.1.2.2)).1 h.mem
  obtain ⟨i1, e1⟩ := idx m1.1 m1.2
  obtain ⟨i2, e2⟩ := idx m2.1 m2.2
  obtain ⟨i3, e3⟩ := idx m3.1 m3.2
  have q1 : tryT f se sn (s.1.1, (s.1.2.1, s.1.2.2)) = some q := q1
  -- the inner searches find something
  have f3 : ∀ c, c = fstV (fun t => tryT f se sn (s.1.1, (s.1.2.1, t))) (lens f.2.2.2.2.2.1 f.2.2.2.2.2.2.1) f.2.2.2.2.2.1 → c ≠ none := fun c hc he => by
    rw [hc] at he
    have := fstV_none he _ i3
    rw [e3, q1] at this; cases this
  have f2 : ∀ c, c = fstV (fun d => fstV (fun t => tryT f se sn (s.1.1, (d, t))) (lens f.2.2.2.2.2.1 f.2.2.2.2.2.2.1) f.2.2.2.2.2.1) (lens f.2.2.2.1 f.2.2.2.2.1) f.2.2.2.1 → c ≠ none := fun c hc he => by
    rw [hc] at he
    have := fstV_none he _ i2
    rw [e2] at this
    exact f3 _ rfl this
  rw [fstT_e]
  cases h1 : fstV (fun u => fstV (fun d => fstV (fun t => tryT f se sn (u, (d, t))) (lens f.2.2.2.2.2.1 f.2.2.2.2.2.2.1) f.2.2.2.2.2.1) (lens f.2.2.2.1 f.2.2.2.2.1) f.2.2.2.1) (lens f.2.1 f.2.2.1) f.2.1 with
  | none =>
    have := fstV_none h1 _ i1
    rw [e1] at this
    exact absurd this (f2 _ rfl)
  | some r =>
    refine ⟨r, rfl, ?_⟩
    obtain ⟨i, a1, a2, a3⟩ := fstV_some h1
    obtain ⟨j, b1, b2, b3⟩ := fstV_some a2
    obtain ⟨k, c1, c2, c3⟩ := fstV_some b2
    have hr : r.1 = (f.2.1 + (i : Int), (f.2.2.2.1 + (j : Int), f.2.2.2.2.2.1 + (k : Int))) := by
      unfold tryT at c2
      cases hm : minB f (f.2.1 + (i : Int), (f.2.2.2.1 + (j : Int), f.2.2.2.2.2.1 + (k : Int))) with
      | false => rw [hm] at c2; cases c2
      | true =>
        rw [hm] at c2
        simp only [cond_true] at c2
        split at c2
        · split at c2
          · rw [← Option.some.inj c2]
          · cases c2
        · cases c2
    have l1 : i ≤ (s.1.1 - f.2.1).toNat := by
      by_cases z : i ≤ (s.1.1 - f.2.1).toNat
      · exact z
      · have := a3 (s.1.1 - f.2.1).toNat (by omega)
        rw [e1] at this
        exact absurd this (f2 _ rfl)
    unfold Le3
    rw [hr]
    by_cases z1 : f.2.1 + (i : Int) < s.1.1
    · exact .inl z1
    have w1 : f.2.1 + (i : Int) = s.1.1 := by omega
    refine .inr ⟨w1, ?_⟩
    have l2 : j ≤ (s.1.2.1 - f.2.2.2.1).toNat := by
      by_cases z : j ≤ (s.1.2.1 - f.2.2.2.1).toNat
      · exact z
      · have := b3 (s.1.2.1 - f.2.2.2.1).toNat (by omega)
        rw [e2, w1] at this
        exact absurd this (f3 _ rfl)
    by_cases z2 : f.2.2.2.1 + (j : Int) < s.1.2.1
    · exact .inl z2
    have w2 : f.2.2.2.1 + (j : Int) = s.1.2.1 := by omega
    refine .inr ⟨w2, ?_⟩
    have l3 : k ≤ (s.1.2.2 - f.2.2.2.2.2.1).toNat := by
      by_cases z : k ≤ (s.1.2.2 - f.2.2.2.2.2.1).toNat
      · exact z
      · have := c3 (s.1.2.2 - f.2.2.2.2.2.1).toNat (by omega)
        rw [e3, w1, w2, q1] at this
        cases this
    by_cases z3 : f.2.2.2.2.2.1 + (k : Int) < s.1.2.2
    · exact .inl z3
    have w3 : f.2.2.2.2.2.1 + (k : Int) = s.1.2.2 := by omega
    rw [w1, w2, w3, q1] at c2
    cases c2
    exact .inr ⟨w3, q3, q4⟩
/-- Winds that are truths of a flight, and fit. -/
theorem val_fine {f : flightT} (hf : flightB f = true) {r : tripT} (h : ValT f (spR f false).g (spR f true).g r) {V : truthT} (hV : IsTruth V r) :
    fineB f V.1 V.2.1 V.2.2.1 V.2.2.2.1 V.2.2.2.2.1 = true ∧ fitsB f V.1 V.2.1 V.2.2.1 V.2.2.2.1 V.2.2.2.2.1 = true := by
  have hn4 := (flightB_t hf).2.1
  obtain ⟨v1, v2, v3, v4, v5⟩ := hV
  have hr := trip_bd hf h.mem
  have hm : ∀ j, j < f.1.n → 0 ≤ mins f.1 r.1.1 r.1.2.1 r.1.2.2 j ∧ mins f.1 r.1.1 r.1.2.1 r.1.2.2 j ≤ 200 := fun j hj => mins_bd hf hr.1 hr.2 hj
  have hsp : ∀ b j, j < f.1.n → -100 ≤ ((spR f b).g j).1 ∧ ((spR f b).g j).2.1 ≤ 100 := fun b j hj => (spR_ok hf b).1.2 j (by rw [spR_n]; exact hj)
  have l4 : V.2.2.2.1.n = f.1.n := by rw [v4.1]; exact val_len h.east
  have l5 : V.2.2.2.2.1.n = f.1.n := by rw [v5.1]; exact val_len h.north
  obtain ⟨a1, a2⟩ := val_to (V := V.2.2.2.1) (by omega) (hsp false) hm h.east (Nat.zero_add _) (fun i hi => by rw [Nat.zero_add]; exact v4.2 i (by omega)) rfl ⟨by simp, by simp⟩
  obtain ⟨b1, b2⟩ := val_to (V := V.2.2.2.2.1) (by omega) (hsp true) hm h.north (Nat.zero_add _) (fun i hi => by rw [Nat.zero_add]; exact v5.2 i (by omega)) rfl ⟨by simp, by simp⟩
  obtain ⟨m1, m2, m3⟩ := mem_trips.1 h.mem
  have key : ∀ (b : Bool) (w : rowI) (sp : Nat → spanI), w.n = f.1.n → (∀ j, sp j = spT f b j) → (∀ j, 0 ≤ j → j < f.1.n → ((spR f b).g j).1 ≤ (w.g j).1 ∧ (w.g j).1 ≤ ((spR f b).g j).2.1) → listB f w sp = true := fun b w sp hw hs hb => by
    unfold listB
    rw [hw, Bool.and_eq_true]
    refine ⟨decide_eq_true rfl, List.all_eq_true.2 fun j hj => ?_⟩
    have hj : j < f.1.n := by simpa using hj
    have := hb j (Nat.zero_le _) hj
    rw [spR_g f b hj] at this
    unfold eachIn
    rw [hs j]
    exact inB_i this.1 this.2
  rw [v1, v2, v3]
  constructor
  · unfold fineB
    rw [hf, key false V.2.2.2.1 (spE f) l4 (fun _ => rfl) a1, key true V.2.2.2.2.1 (spN f) l5 (fun _ => rfl) b1, inB_i m1.1 m1.2, inB_i m2.1 m2.2, inB_i m3.1 m3.2]
    rfl
  · unfold fitsB drift
    rw [l4, l5]
    have a2 : inB (sums (fun j => W ((V.2.2.2.1.g j).1 * mins f.1 r.1.1 r.1.2.1 r.1.2.2 j)) f.1.n) f.2.2.2.2.2.2.2.1 f.2.2.2.2.2.2.2.2.1 = true := a2
    have b2 : inB (sums (fun j => W ((V.2.2.2.2.1.g j).1 * mins f.1 r.1.1 r.1.2.1 r.1.2.2 j)) f.1.n) f.2.2.2.2.2.2.2.2.2.1 f.2.2.2.2.2.2.2.2.2.2.1 = true := b2
    have c2 : inB (flown f r.1.1 r.1.2.1 r.1.2.2) f.2.2.2.2.2.2.2.2.2.2.2.1 f.2.2.2.2.2.2.2.2.2.2.2.2.1 = true := h.min
    rw [a2, b2, c2]
    rfl
/-- A truth that fits, in spans that hold its winds. -/
theorem fine_val {f : flightT} (hf : flightB f = true) {u d t : Int} {e n : rowI} (h1 : fineB f u d t e n = true) (h2 : fitsB f u d t e n = true) {se sn : Nat → spanI}
    (hse : ∀ j, j < f.1.n → -100 ≤ (se j).1 ∧ (se j).2.1 ≤ 100) (hsn : ∀ j, j < f.1.n → -100 ≤ (sn j).1 ∧ (sn j).2.1 ≤ 100)
    (he : ∀ j, j < f.1.n → (se j).1 ≤ (e.g j).1 ∧ (e.g j).1 ≤ (se j).2.1) (hn : ∀ j, j < f.1.n → (sn j).1 ≤ (n.g j).1 ∧ (n.g j).1 ≤ (sn j).2.1) :
    ValT f se sn ((u, (d, t)), (lstF e e.n 0, lstF n n.n 0)) := by
  have hn4 := (flightB_t hf).2.1
  obtain ⟨_, _, _, q1, q2⟩ := fineB_t h1
  obtain ⟨hx, _, _⟩ := fineB_s h1
  have hr := trip_bd hf hx
  have hm : ∀ j, j < f.1.n → 0 ≤ mins f.1 u d t j ∧ mins f.1 u d t j ≤ 200 := fun j hj => mins_bd hf hr.1 hr.2 hj
  simp only [fitsB, Bool.and_eq_true, drift] at h2
  obtain ⟨f1, f2, f3⟩ := h2
  rw [q1] at f1
  rw [q2] at f2
  refine ⟨hx, f3, ?_, ?_⟩
  · show Val se (mins f.1 u d t) _ _ f.1.n 0 0 (lstF e e.n 0)
    rw [q1]
    exact val_of (by omega) hse hm he f1 f.1.n 0 0 (by omega) rfl ⟨by simp, by simp⟩
  · show Val sn (mins f.1 u d t) _ _ f.1.n 0 0 (lstF n n.n 0)
    rw [q2]
    exact val_of (by omega) hsn hm hn f2 f.1.n 0 0 (by omega) rfl ⟨by simp, by simp⟩
end Go.Dm


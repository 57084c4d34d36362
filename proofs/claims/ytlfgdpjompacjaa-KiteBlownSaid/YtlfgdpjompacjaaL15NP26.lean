/- The theorem of winds. -/
import Derived.Test.YtlfgdpjompacjaaL15NP25
set_option linter.unusedVariables false
set_option linter.unusedSimpArgs false
namespace Go.Dm
set_option maxRecDepth 100000

/-! rows one behind the other, and which comes first -/
theorem isRow_cat {a b : rowI} {l l' : List Int} (ha : IsRow a l) (hb : IsRow b l') : IsRow (catSl a b) (l ++ l') := by
  have hn : (catSl a b).n = a.n + b.n := rfl
  refine ⟨by rw [hn, ha.1, hb.1, List.length_append], fun i hi => ?_⟩
  rw [hn] at hi
  show (bif Nat.blt i a.n then a.g i else b.g (i - a.n)) = _
  by_cases q : i < a.n
  · rw [show Nat.blt i a.n = true by rw [Nat.blt_eq]; exact q, cond_true, ha.2 i q]
    rw [List.getD_eq_getElem?_getD, List.getD_eq_getElem?_getD, List.getElem?_append_left (by rw [← ha.1]; exact q)]
  · have : Nat.blt i a.n = false := by
      cases e : Nat.blt i a.n with
      | false => rfl
      | true => rw [Nat.blt_eq] at e; exact absurd e q
    rw [this, cond_false, hb.2 _ (by omega), ha.1]
    rw [List.getD_eq_getElem?_getD, List.getD_eq_getElem?_getD, List.getElem?_append_right (by rw [← ha.1]; omega)]
theorem lex_cat : ∀ {a a' : List Int}, a.length = a'.length → ∀ {b b' : List Int}, Lex a a' → Lex b b' → Lex (a ++ b) (a' ++ b')
  | [], [], _, _, _, _, h => h
  | [], _ :: _, hl, _, _, _, _ => by simp at hl
  | _ :: _, [], hl, _, _, _, _ => by simp at hl
  | x :: a, y :: a', hl, b, b', h, k => by
    rcases h with h | ⟨h1, h2⟩
    · exact .inl h
    · exact .inr ⟨h1, lex_cat (by simpa using hl) h2 k⟩
theorem lex_at : ∀ {a b : List Int}, a.length = b.length → Lex a b → ∀ k, k < a.length → (∀ j, j < k → a.getD j 0 = b.getD j 0) → a.getD k 0 ≤ b.getD k 0
  | [], _, _, _, k, hk, _ => by simp at hk
  | _ :: _, [], hl, _, _, _, _ => by simp at hl
  | x :: a, y :: b, hl, h, 0, _, _ => by
    show x ≤ y
    rcases h with h | ⟨h, _⟩ <;> omega
  | x :: a, y :: b, hl, h, k + 1, hk, he => by
    rw [List.getD_cons_succ, List.getD_cons_succ]
    have h0 : x = y := he 0 (by omega)
    rcases h with h | ⟨_, h⟩
    · omega
    · exact lex_at (by simpa using hl) h k (by simpa using hk) fun j hj => by
        have := he (j + 1) (by omega)
        rwa [List.getD_cons_succ, List.getD_cons_succ] at this
def lst3 (r : tripT) : List Int := ([r.1.1, r.1.2.1, r.1.2.2] ++ r.2.1) ++ r.2.2
theorem le3xlex {r s : tripT} (h : Le3 r s) (h1 : r.2.1.length = s.2.1.length) : Lex (lst3 r) (lst3 s) := by
  unfold lst3
  simp only [List.cons_append, List.nil_append]
  rcases h with h | ⟨h, k⟩
  · exact .inl h
  · refine .inr ⟨h, ?_⟩
    rcases k with k | ⟨k, j⟩
    · exact .inl k
    · refine .inr ⟨k, ?_⟩
      rcases j with j | ⟨j, z1, z2⟩
      · exact .inl j
      · exact .inr ⟨j, lex_cat h1 z1 z2⟩
def row3 (V : truthT) : rowI := catSl (catSl (⟨3, fun i => List.getD [(V.1, ()), (V.2.1, ()), (V.2.2.1, ())] i (V.1, ())⟩ : rowI) V.2.2.2.1) V.2.2.2.2.1
theorem row3xis {V : truthT} {r : tripT} (h : IsTruth V r) : IsRow (row3 V) (lst3 r) := by
  obtain ⟨v1, v2, v3, v4, v5⟩ := h
  refine isRow_cat (isRow_cat ⟨rfl, fun i hi => ?_⟩ v4) v5
  have hi : i < 3 := hi
  show List.getD [(V.1, ()), (V.2.1, ()), (V.2.2.1, ())] i (V.1, ()) = _
  rw [v1, v2, v3]
  match i, hi with
  | 0, _ => rfl
  | 1, _ => rfl
  | 2, _ => rfl
theorem M61xe {V U : truthT} {r s : tripT} (hV : IsTruth V r) (hU : IsTruth U s) (h : Le3 s r) (h1 : s.2.1.length = r.2.1.length) (h2 : s.2.2.length = r.2.2.length) (h4 : r.2.1.length ≤ 1000) (h5 : r.2.2.length ≤ 1000) :
    M61 (no_index (V, (U, ()))) = some (false, ()) := by
  have rV := row3xis hV
  have rU := row3xis hU
  have hl := le3xlex h h1
  have e1 : (lst3 s).length = (lst3 r).length := by unfold lst3; simp only [List.length_append, h1, h2, List.length_cons, List.length_nil]
  have e2 : (lst3 r).length ≤ 3000 := by unfold lst3; simp only [List.length_append, List.length_cons, List.length_nil]; omega
  have nV := rV.1
  have nU := rU.1
  have v4 := hV.2.2.2.1.1
  have v5 := hV.2.2.2.2.1
  have u4 := hU.2.2.2.1.1
  have u5 := hU.2.2.2.2.1
  have L : (fun q : LQ wv61x0 => q = .exit 0 () ∨ q = .ret (false, ())) (L61x0 (no_index (row3 V, (row3 U, ()))) (no_index ((0 : Int), ()))) := by
    unfold L61x0
    refine iterQ_rel2 (ps := vs61x0) (wy := wv61x0) (P := fun j x => x = ((j : Int), ()) ∧ ∀ i, i < j → ((row3 V).g i).1 = ((row3 U).g i).1) (Q := fun q => q = .exit 0 () ∨ q = .ret (false, ())) (row3 V).n (big_lt (by omega)) ?_ ?_ _ ⟨rfl, fun i hi => by omega⟩
    · rintro j x hj ⟨rfl, he⟩
      have i1 : ((j : Int) < (((row3 V).n : Nat) : Int)) := by omega
      have i2 : ((j : Int) < (((row3 U).n : Nat) : Int)) := by omega
      have i3 : ((0 : Int) ≤ (j : Int)) ∧ ((j : Int) < (((row3 V).n : Nat) : Int)) := by omega
      have i4 : ((0 : Int) ≤ (j : Int)) ∧ ((j : Int) < (((row3 U).n : Nat) : Int)) := by omega
      have e3 : W ((j : Int) + 1) = ((j + 1 : Nat) : Int) := by rw [W_id ⟨by omega, by omega⟩]; rfl
      by_cases q : ((row3 V).g j).1 = ((row3 U).g j).1
      · refine .inl ⟨(((j + 1 : Nat) : Int), ()), ?_, rfl, fun i hi => ?_⟩
        · unfold S61x0 Z61x0
          simp only [i1, i2, i3, i4, q, e3, decide_true, cond_true, and_self, Int.toNat_natCast, Bool.not_true, cond_false]
        · by_cases z : i = j
          · subst z; exact q
          · exact he i (by omega)
      · have hle := lex_at e1 hl j (by omega) fun i hi => by
          have a := rU.2 i (by omega)
          have b := rV.2 i (by omega)
          have c := he i hi
          rw [a, b] at c
          exact c.symm
        have a := rU.2 j (by omega)
        have b := rV.2 j (by omega)
        have nlt : ¬ ((row3 V).g j).1 < ((row3 U).g j).1 := by rw [a, b]; show ¬ (lst3 r).getD j 0 < (lst3 s).getD j 0; omega
        refine .inr ⟨.ret (false, ()), ?_, .inr rfl⟩
        unfold S61x0 Z61x0
        simp only [i1, i2, i3, i4, q, nlt, decide_true, decide_false, cond_true, and_self, Int.toNat_natCast, Bool.not_false]
    · rintro x ⟨rfl, he⟩
      refine ⟨.exit 0 (), ?_, .inl rfl⟩
      unfold S61x0 Z61x0
      simp only [Int.lt_irrefl, decide_false, cond_false]
  have b1 : (3 + V.2.2.2.1.n) * 8 ≤ 140737488355328 := by omega
  have b3 : (3 + U.2.2.2.1.n) * 8 ≤ 140737488355328 := by omega
  have c1 : (catSl (⟨3, fun i => List.getD [(V.1, ()), (V.2.1, ()), (V.2.2.1, ())] i (V.1, ())⟩ : rowI) V.2.2.2.1).n = 3 + V.2.2.2.1.n := rfl
  have c2 : (catSl (⟨3, fun i => List.getD [(U.1, ()), (U.2.1, ()), (U.2.2.1, ())] i (U.1, ())⟩ : rowI) U.2.2.2.1).n = 3 + U.2.2.2.1.n := rfl
  have b2 : ((3 + V.2.2.2.1.n) + V.2.2.2.2.1.n) * 8 ≤ 140737488355328 := by omega
  have b4 : ((3 + U.2.2.2.1.n) + U.2.2.2.2.1.n) * 8 ≤ 140737488355328 := by omega
  unfold M61 Q61
  have st : M61 (V, (U, ())) = onExit (L61x0 (row3 V, (row3 U, ())) ((0 : Int), ())) 0 (fun _ => some (false, ())) (onRet (L61x0 (row3 V, (row3 U, ())) ((0 : Int), ())) (fun u1 => some u1) none) := by
    unfold M61 Q61
    simp only [b1, b2, b3, b4, c1, c2, decide_true, cond_true]
    rfl
  refine st.trans ?_
  rcases L with L | L
  · rw [L]; rfl
  · rw [L]; rfl

/-! ends of bounds -/
theorem end_ok {c : Int → Bool} {lo hi x : Int} (h1 : lo ≤ x) (h2 : x ≤ hi) (hc : c x = true) : (endN c lo hi false ≤ x ∧ x ≤ endN c lo hi true) ∧ ∀ high, c (endN c lo hi high) = true ∧ lo ≤ endN c lo hi high ∧ endN c lo hi high ≤ hi := by
  have key : ∀ high, ∃ k, fstN (fun j => c (atE lo hi high j)) (lens lo hi) = some k := fun high => by
    cases e : fstN (fun j => c (atE lo hi high j)) (lens lo hi) with
    | some k => exact ⟨k, rfl⟩
    | none =>
      exfalso
      cases high with
      | false =>
        have := fstN_none e (x - lo).toNat (by unfold lens; omega)
        have q : atE lo hi false (x - lo).toNat = x := by show lo + ((x - lo).toNat : Int) = x; omega
        rw [q, hc] at this; cases this
      | true =>
        have := fstN_none e (hi - x).toNat (by unfold lens; omega)
        have q : atE lo hi true (hi - x).toNat = x := by show hi - ((hi - x).toNat : Int) = x; omega
        rw [q, hc] at this; cases this
  have val : ∀ high, c (endN c lo hi high) = true ∧ lo ≤ endN c lo hi high ∧ endN c lo hi high ≤ hi := fun high => by
    obtain ⟨k, e⟩ := key high
    obtain ⟨k1, k2, _⟩ := fstN_some e
    unfold endN
    rw [e]
    refine ⟨k2, ?_⟩
    unfold lens at k1
    cases high
    · show lo ≤ lo + (k : Int) ∧ lo + (k : Int) ≤ hi; omega
    · show lo ≤ hi - (k : Int) ∧ hi - (k : Int) ≤ hi; omega
  refine ⟨⟨?_, ?_⟩, val⟩
  · obtain ⟨k, e⟩ := key false
    obtain ⟨k1, k2, k3⟩ := fstN_some e
    unfold endN
    rw [e]
    show lo + (k : Int) ≤ x
    by_cases z : lo + (k : Int) ≤ x
    · exact z
    · have := k3 (x - lo).toNat (by omega)
      have q : atE lo hi false (x - lo).toNat = x := by show lo + ((x - lo).toNat : Int) = x; omega
      rw [q, hc] at this; cases this
  · obtain ⟨k, e⟩ := key true
    obtain ⟨k1, k2, k3⟩ := fstN_some e
    unfold endN
    rw [e]
    show x ≤ hi - (k : Int)
    by_cases z : x ≤ hi - (k : Int)
    · exact z
    · have := k3 (hi - x).toNat (by omega)
      have q : atE lo hi true (hi - x).toNat = x := by show hi - ((hi - x).toNat : Int) = x; omega
      rw [q, hc] at this; cases this
/-- The wind of a layer in a truth. -/
def ofV (V : truthT) (L : Nat) (north : Bool) : Int := ((bif north then V.2.2.2.2.1 else V.2.2.2.1).g L).1
structure FitT (f : flightT) (V : truthT) : Prop where
  fine : fineB f V.1 V.2.1 V.2.2.1 V.2.2.2.1 V.2.2.2.2.1 = true
  fits : fitsB f V.1 V.2.1 V.2.2.1 V.2.2.2.1 V.2.2.2.2.1 = true
/-- A truth as a trip. -/
def tripOf (V : truthT) : tripT := ((V.1, (V.2.1, V.2.2.1)), (lstF V.2.2.2.1 V.2.2.2.1.n 0, lstF V.2.2.2.2.1 V.2.2.2.2.1.n 0))
theorem tripOf_is (V : truthT) : IsTruth V (tripOf V) := ⟨rfl, rfl, rfl, isRow_lst _, isRow_lst _⟩
theorem FitT.wind {f : flightT} {V : truthT} (h : FitT f V) (b : Bool) {j : Nat} (hj : j < f.1.n) : ((spR f b).g j).1 ≤ ofV V j b ∧ ofV V j b ≤ ((spR f b).g j).2.1 := by
  obtain ⟨_, h1, h2⟩ := fineB_s h.fine
  rw [spR_g f b hj]
  cases b
  · exact h1 j hj
  · exact h2 j hj
theorem FitT.val {f : flightT} (hf : flightB f = true) {V : truthT} (h : FitT f V) : ValT f (spR f false).g (spR f true).g (tripOf V) :=
  fine_val hf h.fine h.fits (fun j hj => (spR_ok hf false).1.2 j (by rw [spR_n]; exact hj)) (fun j hj => (spR_ok hf true).1.2 j (by rw [spR_n]; exact hj)) (fun j hj => h.wind false hj) (fun j hj => h.wind true hj)
theorem FitT.first {f : flightT} (hf : flightB f = true) {V : truthT} (h : FitT f V) : ∃ r, fst0 f = some r ∧ Le3 r (tripOf V) := fst_le (h.val hf)
theorem FitT.wish {f : flightT} (hf : flightB f = true) {V : truthT} (h : FitT f V) {L : Nat} (hL : L < f.1.n) (north : Bool) :
    ∃ r, fstT f (wishR f false (oneW (L : Int) north (ofV V L north))).g (wishR f true (oneW (L : Int) north (ofV V L north))).g = some r ∧ Le3 r (tripOf V) := by
  have hn4 := (flightB_t hf).2.1
  have hw0 := h.wind north hL
  have hs := (spR_ok hf north).1.2 L (by rw [spR_n]; exact hL)
  have hw : wishOK f (oneW (L : Int) north (ofV V L north)) := ⟨⟨by show (0 : Int) ≤ (L : Int); omega, by show (L : Int) < _; omega⟩, by show -100 ≤ ofV V L north; omega, by show ofV V L north ≤ 100; omega⟩
  have bd : ∀ b j, j < f.1.n → -100 ≤ ((wishR f b (oneW (L : Int) north (ofV V L north))).g j).1 ∧ ((wishR f b (oneW (L : Int) north (ofV V L north))).g j).2.1 ≤ 100 := fun b j hj => (wish_sp hf hw b).2 j (by rw [(wish_sp hf hw b).1]; exact hj)
  have key : ∀ b j, j < f.1.n → ((wishR f b (oneW (L : Int) north (ofV V L north))).g j).1 ≤ ofV V j b ∧ ofV V j b ≤ ((wishR f b (oneW (L : Int) north (ofV V L north))).g j).2.1 := fun b j hj => by
    unfold wishR oneW
    simp only [wayI_e]
    cases e : (b == north) with
    | false => exact h.wind b hj
    | true =>
      have : b = north := by simpa using e
      subst this
      rw [cond_true, setSl_g, Int.toNat_natCast]
      cases z : Nat.beq j L with
      | false => exact h.wind b hj
      | true =>
        obtain rfl := Nat.eq_of_beq_eq_true z
        exact ⟨Int.le_refl _, Int.le_refl _⟩
  exact fst_le (fine_val hf h.fine h.fits (bd false) (bd true) (key false) (key true))
theorem val_mono {sp sp' : Nat → spanI} {m : Nat → Int} {lo hi : Int} {n : Nat} (h : ∀ j, j < n → (sp' j).1 ≤ (sp j).1 ∧ (sp j).2.1 ≤ (sp' j).2.1) : ∀ {r k : Nat} {s : Int} {l : List Int}, k + r = n → Val sp m lo hi r k s l → Val sp' m lo hi r k s l
  | 0, _, _, _, _, v => v
  | r + 1, k, s, l, hk, v => by
    obtain ⟨w, l', rfl, h1, h2, h3⟩ := v
    have := h k (by omega)
    exact ⟨w, l', rfl, by omega, by omega, val_mono h (by omega) h3⟩
theorem isTruth_fit {f : flightT} (hf : flightB f = true) {r : tripT} (h : ValT f (spR f false).g (spR f true).g r) {V : truthT} (hV : IsTruth V r) : FitT f V := ⟨(val_fine hf h hV).1, (val_fine hf h hV).2⟩
/-- What shows an end of a wind. -/
theorem show_fit {f : flightT} (hf : flightB f = true) {L : Nat} (hL : L < f.1.n) {north : Bool} {x : Int} (hx : (layS f (L : Int) north).1 ≤ x ∧ x ≤ (layS f (L : Int) north).2.1) {r : tripT}
    (h : fstT f (wishR f false (oneW (L : Int) north x)).g (wishR f true (oneW (L : Int) north x)).g = some r) {V : truthT} (hV : IsTruth V r) : FitT f V ∧ ofV V L north = x ∧ ValT f (spR f false).g (spR f true).g r := by
  have hn4 := (flightB_t hf).2.1
  have v := fst_val h
  have hl : layS f (L : Int) north = (spR f north).g L := by unfold layS; rw [Int.toNat_natCast]
  rw [hl] at hx
  have sub : ∀ b j, j < f.1.n → ((spR f b).g j).1 ≤ ((wishR f b (oneW (L : Int) north x)).g j).1 ∧ ((wishR f b (oneW (L : Int) north x)).g j).2.1 ≤ ((spR f b).g j).2.1 := fun b j hj => by
    unfold wishR oneW
    simp only [wayI_e]
    cases e : (b == north) with
    | false => exact ⟨Int.le_refl _, Int.le_refl _⟩
    | true =>
      have : b = north := by simpa using e
      subst this
      rw [cond_true, setSl_g, Int.toNat_natCast]
      cases z : Nat.beq j L with
      | false => exact ⟨Int.le_refl _, Int.le_refl _⟩
      | true =>
        obtain rfl := Nat.eq_of_beq_eq_true z
        exact hx
  have v' : ValT f (spR f false).g (spR f true).g r := ⟨v.mem, v.min, val_mono (sub false) (Nat.zero_add _) v.east, val_mono (sub true) (Nat.zero_add _) v.north⟩
  refine ⟨isTruth_fit hf v' hV, ?_, v'⟩
  have hs := (spR_ok hf north).1.2 L (by rw [spR_n]; exact hL)
  have hw : wishOK f (oneW (L : Int) north x) := ⟨⟨by show (0 : Int) ≤ (L : Int); omega, by show (L : Int) < _; omega⟩, by show -100 ≤ x; omega, by show x ≤ 100; omega⟩
  have bd : ∀ b j, j < f.1.n → -100 ≤ ((wishR f b (oneW (L : Int) north x)).g j).1 ∧ ((wishR f b (oneW (L : Int) north x)).g j).2.1 ≤ 100 := fun b j hj => (wish_sp hf hw b).2 j (by rw [(wish_sp hf hw b).1]; exact hj)
  have hr := trip_bd hf v.mem
  have hm : ∀ j, j < f.1.n → 0 ≤ mins f.1 r.1.1 r.1.2.1 r.1.2.2 j ∧ mins f.1 r.1.1 r.1.2.1 r.1.2.2 j ≤ 200 := fun j hj => mins_bd hf hr.1 hr.2 hj
  obtain ⟨v1, v2, v3, v4, v5⟩ := hV
  have l4 : V.2.2.2.1.n = f.1.n := by rw [v4.1]; exact val_len v.east
  have l5 : V.2.2.2.2.1.n = f.1.n := by rw [v5.1]; exact val_len v.north
  have a := (val_to (V := V.2.2.2.1) (by omega) (bd false) hm v.east (Nat.zero_add _) (fun i hi => by rw [Nat.zero_add]; exact v4.2 i (by omega)) rfl ⟨by simp, by simp⟩).1 L (Nat.zero_le _) hL
  have b := (val_to (V := V.2.2.2.2.1) (by omega) (bd true) hm v.north (Nat.zero_add _) (fun i hi => by rw [Nat.zero_add]; exact v5.2 i (by omega)) rfl ⟨by simp, by simp⟩).1 L (Nat.zero_le _) hL
  unfold ofV
  cases north with
  | false =>
    have e : (wishR f false (oneW (L : Int) false x)).g L = (x, (x, ())) := by
      unfold wishR oneW
      simp only [wayI_e]
      show (setSl (spR f false) (Int.toNat (L : Int)) (x, (x, ()))).g L = _
      rw [Int.toNat_natCast, setSl_at]
    rw [e] at a
    exact Int.le_antisymm a.2 a.1
  | true =>
    have e : (wishR f true (oneW (L : Int) true x)).g L = (x, (x, ())) := by
      unfold wishR oneW
      simp only [wayI_e]
      show (setSl (spR f true) (Int.toNat (L : Int)) (x, (x, ()))).g L = _
      rw [Int.toNat_natCast, setSl_at]
    rw [e] at b
    exact Int.le_antisymm b.2 b.1
end Go.Dm


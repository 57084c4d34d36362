/- Bounds of winds, by the rule and by the reference. -/
import Derived.Test.YtlfgdpjompacjaaL5NP19
set_option linter.unusedVariables false
set_option linter.unusedSimpArgs false
namespace Go.Dm
set_option maxRecDepth 100000

/-! the first for which something holds -/
def fstN (c : Nat → Bool) : Nat → Option Nat
  | 0 => none
  | n + 1 => match fstN c n with
    | some k => some k
    | none => bif c n then some n else none
theorem fstN_none {c : Nat → Bool} : ∀ {n : Nat}, fstN c n = none → ∀ j, j < n → c j = false
  | n + 1, h, j, hj => by
    simp only [fstN] at h
    cases h' : fstN c n with
    | some k => rw [h'] at h; cases h
    | none =>
      rw [h'] at h
      by_cases e : j = n
      · subst e
        cases hc : c j with
        | false => rfl
        | true => rw [hc] at h; cases h
      · exact fstN_none h' j (by omega)
theorem fstN_some {c : Nat → Bool} : ∀ {n k : Nat}, fstN c n = some k → k < n ∧ c k = true ∧ ∀ j, j < k → c j = false
  | n + 1, k, h => by
    simp only [fstN] at h
    cases h' : fstN c n with
    | some k' =>
      rw [h'] at h
      cases h
      obtain ⟨h1, h2, h3⟩ := fstN_some h'
      exact ⟨by omega, h2, h3⟩
    | none =>
      rw [h'] at h
      cases hc : c n with
      | false => rw [hc] at h; cases h
      | true => rw [hc] at h; cases h; exact ⟨by omega, hc, fstN_none h'⟩
theorem iterQ_find {ps : List Pat} {wy : Ways} {step : (patsTy ps).den → RQ ps wy} {N n : Nat} {f : Nat → (patsTy ps).den} {c : Nat → Bool} {qe : LQ wy} {qr : Nat → LQ wy} (hn : n < N)
    (h1 : ∀ j, j < n → (∀ i, i < j → c i = false) → step (f j) = bif c j then .out (qr j) else .next (f (j + 1))) (h2 : (∀ i, i < n → c i = false) → step (f n) = .out qe) : iterQ step N (f 0) = match fstN c n with | some k => qr k | none => qe := by
  cases h : fstN c n with
  | none =>
    have hc := fstN_none h
    exact iterQ_steps n N f hn (fun j hj => by rw [h1 j hj fun i hi => hc i (by omega), hc j hj]; rfl) (h2 hc)
  | some k =>
    obtain ⟨k1, k2, k3⟩ := fstN_some h
    exact iterQ_steps k N f (by omega) (fun j hj => by rw [h1 j (by omega) fun i hi => k3 i (by omega), k3 j hj]; rfl) (by rw [h1 k k1 k3, k2]; rfl)

/-- A number of a span, counted from one of its ends. -/
def atE (lo hi : Int) (high : Bool) (j : Nat) : Int := bif high then hi - (j : Int) else lo + (j : Int)
/-- The least number of a span, or the greatest one, for which something holds; zero, if there is none. -/
def endN (c : Int → Bool) (lo hi : Int) (high : Bool) : Int := match fstN (fun j => c (atE lo hi high j)) (lens lo hi) with
  | some k => atE lo hi high k
  | none => 0
theorem M87xe {lo hi : Int} (h : -1000000 ≤ lo ∧ lo ≤ hi ∧ hi ≤ 1000000) {F : Int × Unit → Bool × (Bool × Unit)} {c : Int → Bool} (hF : ∀ x, lo ≤ x → x ≤ hi → F (x, ()) = (true, (c x, ()))) (high : Bool) :
    ∃ b, M87 (no_index ((lo, (hi, ())), (high, (F, ())))) = some (endN c lo hi high, (b, ())) := by
  have hc : W (W (hi - lo) + 1) = ((lens lo hi : Nat) : Int) := by
    unfold lens
    rw [W_id (n := hi - lo) ⟨by omega, by omega⟩, W_id ⟨by omega, by omega⟩]; omega
  have : L87x0 (no_index (high, (F, ((), (((lens lo hi : Nat) : Int), ((lo, (hi, ())), ())))))) (no_index ((0 : Int), ())) = match fstN (fun j => c (atE lo hi high j)) (lens lo hi) with | some k => .ret (atE lo hi high k, (true, ())) | none => .exit 0 () := by
    unfold L87x0
    refine iterQ_find (ps := vs87x0) (f := fun j => ((j : Int), ())) (big_lt (n := lens lo hi) (by unfold lens; omega)) (fun j hj _ => ?_) fun _ => ?_
    · have e1 : ((j : Int) < ((lens lo hi : Nat) : Int)) := by omega
      have hl : (lens lo hi : Nat) ≤ 2000001 := by unfold lens; omega
      have e3 : W ((j : Int) + 1) = ((j + 1 : Nat) : Int) := by rw [W_id ⟨by omega, by omega⟩]; rfl
      have a0 : W (lo + (j : Int)) = atE lo hi false j := W_id ⟨by omega, by omega⟩
      have a1 : W (hi - (j : Int)) = atE lo hi true j := W_id ⟨by omega, by omega⟩
      have hj' : (j : Int) ≤ hi - lo := by unfold lens at hj; omega
      have f0 := hF (atE lo hi false j) (by show lo ≤ lo + (j : Int); omega) (by show lo + (j : Int) ≤ hi; omega)
      have f1 := hF (atE lo hi true j) (by show lo ≤ hi - (j : Int); omega) (by show hi - (j : Int) ≤ hi; omega)
      unfold S87x0 Z87x0
      cases high
      · simp only [e1, a0, f0, e3, decide_true, cond_true, cond_false]
      · simp only [e1, a1, f1, e3, decide_true, cond_true, cond_false]
    · unfold S87x0 Z87x0
      simp only [Int.lt_irrefl, decide_false, cond_false]
  unfold M87 Q87
  simp only [hc, this]
  unfold endN
  cases fstN (fun j => c (atE lo hi high j)) (lens lo hi) with
  | none => exact ⟨false, rfl⟩
  | some k => exact ⟨true, rfl⟩
def endS (c : Int → Bool) (lo hi : Int) : spanI := (endN c lo hi false, (endN c lo hi true, ()))
theorem M77xe {lo hi : Int} (h : -1000000 ≤ lo ∧ lo ≤ hi ∧ hi ≤ 1000000) {F : Int × Unit → Bool × (Bool × Unit)} {c : Int → Bool} (hF : ∀ x, lo ≤ x → x ≤ hi → F (x, ()) = (true, (c x, ()))) :
    M77 (no_index ((lo, (hi, ())), (F, ()))) = some (endS c lo hi, ()) := by
  have e107 : ∀ high : Bool, M107 (no_index (high, ((lo, (hi, ())), ((F, ()), ())))) = some (endN c lo hi high, ()) := fun high => by
    obtain ⟨b, e⟩ := M87xe h hF high
    unfold M107 Q107
    simp only [e, cl_some]
  have f : ∀ high : Bool, (p107 (high, ((lo, (hi, ())), ((F, ()), ()))), v107 (high, ((lo, (hi, ())), ((F, ()), ())))) = (true, (endN c lo hi high, ())) := fun high => by
    unfold p107 v107
    rw [e107 high]; rfl
  have f0 := f false
  have f1 := f true
  have a0 : p107 (false, ((lo, (hi, ())), ((F, ()), ()))) = true := congrArg Prod.fst f0
  have a1 : p107 (true, ((lo, (hi, ())), ((F, ()), ()))) = true := congrArg Prod.fst f1
  have b0 : v107 (false, ((lo, (hi, ())), ((F, ()), ()))) = (endN c lo hi false, ()) := congrArg Prod.snd f0
  have b1 : v107 (true, ((lo, (hi, ())), ((F, ()), ()))) = (endN c lo hi true, ()) := congrArg Prod.snd f1
  unfold M77 Q77 M106 Q106
  have st : (bif p107 (false, ((lo, (hi, ())), ((F, ()), ()))) then bif p107 (true, ((lo, (hi, ())), ((F, ()), ()))) then (some ((((v107 (false, ((lo, (hi, ())), ((F, ()), ()))))).1, (v107 (true, ((lo, (hi, ())), ((F, ()), ()))))), ()) : Option (spanI × Unit)) else none else none) = some (endS c lo hi, ()) := by
    rw [a0, a1, b0, b1]; rfl
  refine (congrArg (fun o : Option (spanI × Unit) => cl (r106).dflt o (fun u0 => (some (u0.1, ()) : Option (r77).den)) none) st).trans ?_
  rfl

/-! widening, one number after the other -/
def widS (c : Int → Bool) (lo : Int) : Nat → Bool × Int × Int
  | 0 => (true, 0, 0)
  | j + 1 => bif c (lo + (j : Int)) then (false, (bif (widS c lo j).1 then (lo + (j : Int), lo + (j : Int)) else (mn (widS c lo j).2.1 (lo + (j : Int)), mx (widS c lo j).2.2 (lo + (j : Int))))) else widS c lo j
theorem widS_e (c : Int → Bool) (lo : Int) : ∀ j, ((widS c lo j).1 = true ∧ (widS c lo j).2 = (0, 0) ∧ ∀ i : Nat, i < j → c (lo + (i : Int)) = false) ∨
    ((widS c lo j).1 = false ∧ (∃ i : Nat, i < j ∧ (widS c lo j).2.1 = lo + (i : Int) ∧ c (lo + (i : Int)) = true ∧ ∀ i', i' < i → c (lo + (i' : Int)) = false) ∧ ∃ i : Nat, i < j ∧ (widS c lo j).2.2 = lo + (i : Int) ∧ c (lo + (i : Int)) = true ∧ ∀ i' : Nat, i < i' → i' < j → c (lo + (i' : Int)) = false)
  | 0 => .inl ⟨rfl, rfl, fun i hi => by omega⟩
  | j + 1 => by
    have ih := widS_e c lo j
    unfold widS
    cases hc : c (lo + (j : Int)) with
    | false =>
      rw [cond_false]
      rcases ih with ⟨h1, h2, h3⟩ | ⟨h1, ⟨i, i1, i2, i3, i4⟩, k, k1, k2, k3, k4⟩
      · refine .inl ⟨h1, h2, fun i hi => ?_⟩
        by_cases q : i = j
        · subst q; exact hc
        · exact h3 i (by omega)
      · refine .inr ⟨h1, ⟨i, by omega, i2, i3, i4⟩, k, by omega, k2, k3, fun i' h1 h2 => ?_⟩
        by_cases q : i' = j
        · subst q; exact hc
        · exact k4 i' h1 (by omega)
    | true =>
      rw [cond_true]
      refine .inr ⟨rfl, ?_⟩
      rcases ih with ⟨h1, h2, h3⟩ | ⟨h1, ⟨i, i1, i2, i3, i4⟩, k, k1, k2, k3, k4⟩
      · rw [h1, cond_true]
        exact ⟨⟨j, by omega, rfl, hc, h3⟩, j, by omega, rfl, hc, fun i' h1 h2 => by omega⟩
      · rw [h1, cond_false, mn_e, mx_e]
        exact ⟨⟨i, by omega, by show min _ _ = _; omega, i3, i4⟩, j, by omega, by show max _ _ = _; omega, hc, fun i' h1 h2 => by omega⟩
theorem widS_end (c : Int → Bool) {lo hi : Int} : (widS c lo (lens lo hi)).2 = (endN c lo hi false, endN c lo hi true) := by
  unfold endN
  rcases widS_e c lo (lens lo hi) with ⟨_, h2, h3⟩ | ⟨_, ⟨i, i1, i2, i3, i4⟩, k, k1, k2, k3, k4⟩
  · have n0 : ∀ high, fstN (fun j => c (atE lo hi high j)) (lens lo hi) = none := fun high => by
      cases e : fstN (fun j => c (atE lo hi high j)) (lens lo hi) with
      | none => rfl
      | some k =>
        obtain ⟨a1, a2, _⟩ := fstN_some e
        exfalso
        cases high with
        | false => have := h3 k a1; rw [show c (lo + (k : Int)) = true from a2] at this; cases this
        | true =>
          have := h3 (lens lo hi - 1 - k) (by omega)
          have q : lo + ((lens lo hi - 1 - k : Nat) : Int) = hi - (k : Int) := by unfold lens at a1 ⊢; omega
          rw [q] at this
          rw [show c (hi - (k : Int)) = true from a2] at this; cases this
    rw [n0 false, n0 true]; exact h2
  · have e0 : fstN (fun j => c (atE lo hi false j)) (lens lo hi) = some i := by
      cases e : fstN (fun j => c (atE lo hi false j)) (lens lo hi) with
      | none => have := fstN_none e i i1; rw [show c (atE lo hi false i) = true from i3] at this; cases this
      | some k' =>
        obtain ⟨a1, a2, a3⟩ := fstN_some e
        have l1 : ¬ k' < i := fun q => by have := i4 k' q; rw [show c (lo + (k' : Int)) = true from a2] at this; cases this
        have l2 : ¬ i < k' := fun q => by have := a3 i q; rw [show c (atE lo hi false i) = true from i3] at this; cases this
        congr 1; omega
    have q : ∀ k : Nat, k < lens lo hi → atE lo hi true (lens lo hi - 1 - k) = lo + (k : Int) := fun k hk => by
      show hi - ((lens lo hi - 1 - k : Nat) : Int) = _
      unfold lens at hk ⊢; omega
    have e1 : fstN (fun j => c (atE lo hi true j)) (lens lo hi) = some (lens lo hi - 1 - k) := by
      cases e : fstN (fun j => c (atE lo hi true j)) (lens lo hi) with
      | none => have := fstN_none e (lens lo hi - 1 - k) (by omega); rw [q k k1, k3] at this; cases this
      | some k' =>
        obtain ⟨a1, a2, a3⟩ := fstN_some e
        have l1 : ¬ k' < lens lo hi - 1 - k := fun z => by
          have := k4 (lens lo hi - 1 - k') (by omega) (by omega)
          rw [← q (lens lo hi - 1 - k') (by omega)] at this
          have r : lens lo hi - 1 - (lens lo hi - 1 - k') = k' := by omega
          rw [r, a2] at this; cases this
        have l2 : ¬ lens lo hi - 1 - k < k' := fun z => by have := a3 _ z; rw [q k k1, k3] at this; cases this
        congr 1; omega
    rw [e0, e1]
    show (widS c lo (lens lo hi)).2 = (atE lo hi false i, atE lo hi true (lens lo hi - 1 - k))
    rw [q k k1, ← k2]
    show (widS c lo (lens lo hi)).2 = (lo + (i : Int), _)
    rw [← i2]
theorem M83xe (a b x : Int) (first : Bool) : M83 (no_index ((a, (b, ())), (x, (first, ())))) = some ((bif first then (x, (x, ())) else (mn a x, (mx b x, ()))), ()) := by
  cases first <;> rfl
/-- Whether the wind of a layer can be a number. -/
def okN (f : flightT) (layer : Int) (north : Bool) (n : Int) : Bool := (fstT f (wishR f false (oneW layer north n)).g (wishR f true (oneW layer north n)).g).isSome
theorem FstOK.is {g : Option tripT} {o : Option (truthT × Bool × Unit)} (h : FstOK g o) : ∃ V, o = some (V, (g.isSome, ())) := by
  rcases h with ⟨a, b⟩ | ⟨V, r, a, _, b⟩
  · exact ⟨_, by rw [b, a]; rfl⟩
  · exact ⟨_, by rw [b, a]; rfl⟩
def layS (f : flightT) (layer : Int) (north : Bool) : spanI := (spR f north).g (Int.toNat layer)
theorem layS_bd {f : flightT} (hf : flightB f = true) {layer : Int} (hl : 0 ≤ layer ∧ layer < (f.1.n : Int)) (north : Bool) : -100 ≤ (layS f layer north).1 ∧ (layS f layer north).1 ≤ (layS f layer north).2.1 ∧ (layS f layer north).2.1 ≤ 100 := by
  have hi : Int.toNat layer < (spR f north).n := by rw [spR_n]; omega
  have h1 := (spR_ok hf north).1.2 _ hi
  have h2 := (spR_ok hf north).2 _ hi
  exact ⟨h1.1, h2, h1.2⟩
theorem M84xe {f : flightT} (hf : flightB f = true) {layer : Int} (hl : 0 ≤ layer ∧ layer < (f.1.n : Int)) (north : Bool) :
    M84 (no_index (f, (layer, (north, ())))) = some (endS (okN f layer north) (layS f layer north).1 (layS f layer north).2.1, ()) := by
  have hn4 := (flightB_t hf).2.1
  have hb := layS_bd hf hl north
  have b2 : ((0 : Int) ≤ layer) ∧ layer < (((spR f north).n : Nat) : Int) := by rw [spR_n]; exact hl
  have hln : lens (layS f layer north).1 (layS f layer north).2.1 ≤ 201 := by unfold lens; omega
  have : L84x0 (no_index (layer, (north, ((), ((), ((), ((), (f, (((0 : Int), ((0 : Int), ())), (layS f layer north, ())))))))))) (no_index (true, ((layS f layer north).1, (((0 : Int), ((0 : Int), ())), ())))) =
      .exit 0 (((widS (okN f layer north) (layS f layer north).1 (lens (layS f layer north).1 (layS f layer north).2.1)).2.1, ((widS (okN f layer north) (layS f layer north).1 (lens (layS f layer north).1 (layS f layer north).2.1)).2.2, ())), ()) := by
    unfold L84x0
    have z : (true, ((layS f layer north).1, (((0 : Int), ((0 : Int), ())), ()))) = (fun j : Nat => ((widS (okN f layer north) (layS f layer north).1 j).1, ((layS f layer north).1 + (j : Int), (((widS (okN f layer north) (layS f layer north).1 j).2.1, ((widS (okN f layer north) (layS f layer north).1 j).2.2, ())), ())))) 0 := by
      simp [widS]
    rw [z]
    refine iterQ_steps (ps := vs84x0) (lens (layS f layer north).1 (layS f layer north).2.1) big (fun j : Nat => ((widS (okN f layer north) (layS f layer north).1 j).1, ((layS f layer north).1 + (j : Int), (((widS (okN f layer north) (layS f layer north).1 j).2.1, ((widS (okN f layer north) (layS f layer north).1 j).2.2, ())), ())))) (big_lt (n := lens (layS f layer north).1 (layS f layer north).2.1) (by omega)) (fun j hj => ?_) ?_
    · have hle : (layS f layer north).1 + (j : Int) ≤ (layS f layer north).2.1 := by unfold lens at hj; omega
      have q4 : W ((layS f layer north).1 + (j : Int) + 1) = (layS f layer north).1 + ((j + 1 : Nat) : Int) := by rw [W_id ⟨by omega, by omega⟩]; omega
      obtain ⟨V, e⟩ := (M88xe hf hl north (n := (layS f layer north).1 + (j : Int)) ⟨by omega, by omega⟩).is
      have e : M88 (no_index (f, (layer, (north, ((layS f layer north).1 + (j : Int), ()))))) = some (V, (okN f layer north ((layS f layer north).1 + (j : Int)), ())) := e
      unfold S84x0 Z84x0
      simp only [hle, decide_true, cond_true, e, cl_some, q4]
      have ws : widS (okN f layer north) (layS f layer north).1 (j + 1) = bif okN f layer north ((layS f layer north).1 + (j : Int)) then (false, (bif (widS (okN f layer north) (layS f layer north).1 j).1 then ((layS f layer north).1 + (j : Int), (layS f layer north).1 + (j : Int)) else (mn (widS (okN f layer north) (layS f layer north).1 j).2.1 ((layS f layer north).1 + (j : Int)), mx (widS (okN f layer north) (layS f layer north).1 j).2.2 ((layS f layer north).1 + (j : Int))))) else widS (okN f layer north) (layS f layer north).1 j := rfl
      rw [ws]
      generalize widS (okN f layer north) (layS f layer north).1 j = wv
      cases okN f layer north ((layS f layer north).1 + (j : Int)) with
      | false => rfl
      | true =>
        simp only [cond_true, M83xe, cl_some]
        cases wv.1 <;> rfl
    · have hle : ¬ (layS f layer north).1 + ((lens (layS f layer north).1 (layS f layer north).2.1 : Nat) : Int) ≤ (layS f layer north).2.1 := by unfold lens; omega
      unfold S84x0 Z84x0
      simp only [hle, decide_false, cond_false]
  unfold M84 Q84
  simp only [M86xe (f := f) (show f.1.n ≤ 8 by omega), cl_some, b2, and_self, decide_true, cond_true]
  refine (congrArg (fun o => onExit o 0 _ _) this).trans ?_
  refine (xe84x0e0 _ _ _).trans ?_
  rw [widS_end]
  rfl
end Go.Dm


/- Bounds of winds, by the rule and by the reference. -/
import Derived.Test.YtlfgdpjompacjaaL15NP19
set_option linter.unusedVariables false
set_option linter.unusedSimpArgs false
namespace Go.Dm
set_option maxRecDepth 100000

/-! the first for which something holds -/
def fstN (c : Nat → Bool) : Nat → Option Nat
  | 0 => none
  | n + 1 => match fstN c n with
    | some k => some k
    | none => bif c n then some n else none
theorem fstN_none {c : Nat → Bool} : ∀ {n : Nat}, fstN c n = none → ∀ j, j < n → c j = false
  | n + 1, h, j, hj => by
    simp only [fstN] at h
    cases h' : fstN c n with
    | some k => rw [h'] at h; cases h
    | none =>
      rw [h'] at h
      by_cases e : j = n
      · subst e
        cases hc : c j with
        | false => rfl
        | true => rw [hc] at h; cases h
      · exact fstN_none h' j (by omega)
theorem fstN_some {c : Nat → Bool} : ∀ {n k : Nat}, fstN c n = some k → k < n ∧ c k = true ∧ ∀ j, j < k → c j = false
  | n + 1, k, h => by
    simp only [fstN] at h
    cases h' : fstN c n with
    | some k' =>
      rw [h'] at h
      cases h
      obtain ⟨h1, h2, h3⟩ := fstN_some h'
      exact ⟨by omega, h2, h3⟩
    | none =>
      rw [h'] at h
      cases hc : c n with
      | false => rw [hc] at h; cases h
      | true => rw [hc] at h; cases h; exact ⟨by omega, hc, fstN_none h'⟩
theorem iterQ_find {ps : List Pat} {wy : Ways} {step : (patsTy ps).den → RQ ps wy} {N n : Nat} {f : Nat → (patsTy ps).den} {c : Nat → Bool} {qe : LQ wy} {qr : Nat → LQ wy} (hn : n < N)
    (h1 : ∀ j, j < n → (∀ i, i < j → c i = false) → step (f j) = bif c j then .out (qr j) else .next (f (j + 1))) (h2 : (∀ i, i < n → c i = false) → step (f n) = .out qe) : iterQ step N (f 0) = match fstN c n with | some k => qr k | none => qe := by
  cases h : fstN c n with
  | none =>
    have hc := fstN_none h
    exact iterQ_steps n N f hn (fun j hj => by rw [h1 j hj fun i hi => hc i (by omega), hc j hj]; rfl) (h2 hc)
  | some k =>
    obtain ⟨k1, k2, k3⟩ := fstN_some h
    exact iterQ_steps k N f (by omega) (fun j hj => by rw [h1 j (by omega) fun i hi => k3 i (by omega), k3 j hj]; rfl) (by rw [h1 k k1 k3, k2]; rfl)

/-- A number of a span, counted from one of its ends. -/
def atE (lo hi : Int) (high : Bool) (j : Nat) : Int := bif high then hi - (j : Int) else lo + (j : Int)
/-- The least number of a span, or the greatest one, for which something holds; zero, if there is none. -/
def endN (c : Int → Bool) (lo hi : Int) (high : Bool) : Int := match fstN (fun j => c (atE lo hi high j)) (lens lo hi) with
  | some k => atE lo hi high k
  | none => 0
theorem M87xe {lo hi : Int} (h : -1000000 ≤ lo ∧ lo ≤ hi ∧ hi ≤ 1000000) {F : Int × Unit → Bool × (Bool × Unit)} {c : Int → Bool} (hF : ∀ x, lo ≤ x → x ≤ hi → F (x, ()) = (true, (c x, ()))) (high : Bool) :
    ∃ b, M87 (no_index ((lo, (hi, ())), (high, (F, ())))) = some (endN c lo hi high, (b, ())) := by
  have hc : W (W (hi - lo) + 1) = ((lens lo hi : Nat) : Int) := by
    unfold lens
    rw [W_id (n := hi - lo) ⟨by omega, by omega⟩, W_id ⟨by omega, by omega⟩]; omega
  have : L87x0 (no_index (high, (F, ((), (((lens lo hi : Nat) : Int), ((lo, (hi, ())), ())))))) (no_index ((0 : Int), ())) = match fstN (fun j => c (atE lo hi high j)) (lens lo hi) with | some k => .ret (atE lo hi high k, (true, ())) | none => .exit 0 () := by
    unfold L87x0
    refine iterQ_find (ps := vs87x0) (f := fun j => ((j : Int), ())) (big_lt (n := lens lo hi) (by unfold lens; omega)) (fun j hj _ => ?_) fun _ => ?_
    · have e1 : ((j : Int) < ((lens lo hi : Nat) : Int)) := by omega
      have hl : (lens lo hi : Nat) ≤ 2000001 := by unfold lens; omega
      have e3 : W ((j : Int) + 1) = ((j + 1 : Nat) : Int) := by rw [W_id ⟨by omega, by omega⟩]; rfl
      have a0 : W (lo + (j : Int)) = atE lo hi false j := W_id ⟨by omega, by omega⟩
      have a1 : W (hi - (j : Int)) = atE lo hi true j := W_id ⟨by omega, by omega⟩
      have hj' : (j : Int) ≤ hi - lo := by unfold lens at hj; omega
      have f0 := hF (atE lo hi false j) (by show lo ≤ lo + (j : Int); omega) (by show lo + (j : Int) ≤ hi; omega)
      have f1 := hF (atE lo hi true j) (by show lo ≤ hi - (j : Int); omega) (by show hi - (j : Int) ≤ hi; omega)
      unfold S87x0 Z87x0
      cases high
      · simp only [e1, a0, f0, e3, decide_true, cond_true, cond_false]
      · simp only [e1, a1, f1, e3, decide_true, cond_true, cond_false]
    · unfold S87x0 Z87x0
      simp only [Int.lt_irrefl, decide_false, cond_false]
  unfold M87 Q87
  simp only [hc, this]
  unfold endN
  cases fstN (fun j => c (atE lo hi high j)) (lens lo hi) with
  | none => exact ⟨false, rfl⟩
  | some k => exact ⟨true, rfl⟩
def endS (c : Int → Bool) (lo hi : Int) : spanI := (endN c lo hi false, (endN c lo hi true, ()))
theorem M77xe {lo hi : Int} (h : -1000000 ≤ lo ∧ lo ≤ hi ∧ hi ≤ 1000000) {F : Int × Unit → Bool × (Bool × Unit)} {c : Int → Bool} (hF : ∀ x, lo ≤ x → x ≤ hi → F (x, ()) = (true, (c x, ()))) :
    M77 (no_index ((lo, (hi, ())), (F, ()))) = some (endS c lo hi, ()) := by
  have e107 : ∀ high : Bool, M107 (no_index (high, ((lo, (hi, ())), ((F, ()), ())))) = some (endN c lo hi high, ()) := fun high => by
    obtain ⟨b, e⟩ := M87xe h hF high
    unfold M107 Q107
    simp only [e, cl_some]
  have f : ∀ high : Bool, (p107 (high, ((lo, (hi, ())), ((F, ()), ()))), v107 (high, ((lo, (hi, ())), ((F, ()), ())))) = (true, (endN c lo hi high, ())) := fun high => by
    unfold p107 v107
    rw [e107 high]; rfl
  have f0 := f false
  have f1 := f true
  have a0 : p107 (false, ((lo, (hi, ())), ((F, ()), ()))) = true := congrArg Prod.fst f0
  have a1 : p107 (true, ((lo, (hi, ())), ((F, ()), ()))) = true := congrArg Prod.fst f1
  have b0 : v107 (false, ((lo, (hi, ())), ((F, ()), ()))) = (endN c lo hi false, ()) := congrArg Prod.snd f0
  have b1 : v107 (true, ((lo, (hi, ())), ((F, ()), ()))) = (endN c lo hi true, ()) := congrArg Prod.snd f1
  unfold M77 Q77 M106 Q106
  have st : (bif p107 (false, ((lo, (hi, ())), ((F, ()), ()))) then bif p107 (true, ((lo, (hi, ())), ((F, ()), ()))) then (some ((((v107 (false, ((lo, (hi, ())), ((F, ()), ()))))).1, (v107 (true, ((lo, (hi, ())), ((F, ()), ()))))), ()) : Option (spanI × Unit)) else none else none) = some (endS c lo hi, ()) := by
    rw [a0, a1, b0, b1]; rfl
  refine (congrArg (fun o : Option (spanI × Unit) => cl (r106).dflt o (fun u0 => (some (u0.1, ()) : Option (r77).den)) none) st).trans ?_
  rfl

/-! widening, one number after the other -/
/-- Whether the wind of a layer can be a number. -/
def okN (f : flightT) (layer : Int) (north : Bool) (n : Int) : Bool := (fstT f (wishR f false (oneW layer north n)).g (wishR f true (oneW layer north n)).g).isSome
theorem FstOK.is {g : Option tripT} {o : Option (truthT × Bool × Unit)} (h : FstOK g o) : ∃ V, o = some (V, (g.isSome, ())) := by
  rcases h with ⟨a, b⟩ | ⟨V, r, a, _, b⟩
  · exact ⟨_, by rw [b, a]; rfl⟩
  · exact ⟨_, by rw [b, a]; rfl⟩
def layS (f : flightT) (layer : Int) (north : Bool) : spanI := (spR f north).g (Int.toNat layer)
theorem layS_bd {f : flightT} (hf : flightB f = true) {layer : Int} (hl : 0 ≤ layer ∧ layer < (f.1.n : Int)) (north : Bool) : -100 ≤ (layS f layer north).1 ∧ (layS f layer north).1 ≤ (layS f layer north).2.1 ∧ (layS f layer north).2.1 ≤ 100 := by
  have hi : Int.toNat layer < (spR f north).n := by rw [spR_n]; omega
  have h1 := (spR_ok hf north).1.2 _ hi
  have h2 := (spR_ok hf north).2 _ hi
  exact ⟨h1.1, h2, h1.2⟩
end Go.Dm


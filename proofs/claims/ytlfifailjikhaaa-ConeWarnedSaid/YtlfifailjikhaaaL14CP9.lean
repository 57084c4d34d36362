/- Whether a boat is warned, as far as is known. -/
import Derived.Test.YtlfifailjikhaaaL14CP8
set_option linter.unusedVariables false
set_option linter.unusedSimpArgs false
namespace Go.Dm
set_option maxRecDepth 100000

abbrev boT : Type := Int × Int × Int × Int × Unit
def boatB (b : boT) : Bool := spB b.1 b.2.1 20000 && (decide (W (b.2.1 - b.1) ≤ 300) && spB b.2.2.1 b.2.2.2.1 50000)
theorem M31xe (b : boT) : M31 (no_index (b, ())) = some (boatB b, ()) := by
  unfold M31 Q31 boatB
  simp only [M61xe, cl_some]
  cases spB b.1 b.2.1 20000 with
  | false => rfl
  | true =>
    cases decide (W (b.2.1 - b.1) ≤ 300) with
    | false => rfl
    | true => rfl
theorem boat_in {b : boT} (h : boatB b = true) : 0 ≤ b.1 ∧ b.1 ≤ b.2.1 ∧ b.2.1 ≤ 20000 ∧ b.2.1 - b.1 ≤ 300 := by
  simp only [boatB, Bool.and_eq_true] at h
  have h1 : 0 ≤ b.1 ∧ b.1 ≤ b.2.1 ∧ b.2.1 ≤ 20000 := of_decide_eq_true h.1
  have h2 := of_decide_eq_true h.2.1
  rw [W_id ⟨by omega, by omega⟩] at h2
  omega
def canJ (w : wT) (p : Int) (b : boT) (j : Nat) : Bool := someB w p (b.1 + (j : Int)) && decide (b.2.2.1 ≤ sightI w p (b.1 + (j : Int)))
def mustJ (w : wT) (p : Int) (b : boT) (j : Nat) : Bool := (someB w p (b.1 + (j : Int)) && allB w p (b.1 + (j : Int))) && decide (b.2.2.2.1 ≤ sightI w p (b.1 + (j : Int)))
def anyC (w : wT) (p : Int) (b : boT) (n : Nat) : Bool := (List.range n).any (canJ w p b)
def allM (w : wT) (p : Int) (b : boT) (n : Nat) : Bool := (List.range n).all (mustJ w p b)
theorem anyC_s (w : wT) (p : Int) (b : boT) (n : Nat) : anyC w p b (n + 1) = (anyC w p b n || canJ w p b n) := by
  unfold anyC; simp [List.range_succ]
theorem allM_s (w : wT) (p : Int) (b : boT) (n : Nat) : allM w p b (n + 1) = (allM w p b n && mustJ w p b n) := by
  unfold allM; simp [List.range_succ]
def numB (b : boT) : Nat := (b.2.1 - b.1 + 1).toNat
theorem anyC_le {w : wT} {p : Int} {b : boT} {k n : Nat} (h : k ≤ n) (hk : anyC w p b k = true) : anyC w p b n = true := by
  obtain ⟨i, h1, h2⟩ := List.any_eq_true.1 hk
  exact List.any_eq_true.2 ⟨i, by have : i < k := by simpa using h1
                                  simpa using (show i < n by omega), h2⟩
theorem allM_le {w : wT} {p : Int} {b : boT} {k n : Nat} (h : k ≤ n) (hk : allM w p b k = false) : allM w p b n = false := by
  cases ha : allM w p b n with
  | false => rfl
  | true =>
    have : allM w p b k = true := all_i fun j hj => all_t ha (show j < n by omega)
    rw [this] at hk; cases hk
def stopJ (w : wT) (p : Int) (b : boT) (j : Nat) : Bool := anyC w p b (j + 1) && !allM w p b (j + 1)
theorem L30xe {w : wT} (hw : watchB w = true) {p : Int} (hp : 0 ≤ p ∧ p < (w.2.2.2.1.n : Int)) {b : boT} (hb : boatB b = true) :
    L30x0 (no_index (p, ((), ((), (((numB b : Nat) : Int), (b, (lookK w, ()))))))) (no_index (false, (true, ((0 : Int), ())))) = match fstN (stopJ w p b) (numB b) with | some _ => LQ.exit (wy := wv30x0) 0 (true, (false, ())) | none => LQ.exit (wy := wv30x0) 0 (anyC w p b (numB b), (allM w p b (numB b), ())) := by
  obtain ⟨b1, b2, b3, b4⟩ := boat_in hb
  have hn : numB b ≤ 1000 := by unfold numB; omega
  unfold L30x0
  refine iterQ_find (ps := vs30x0) (f := fun j => (anyC w p b j, (allM w p b j, ((j : Int), ())))) (c := stopJ w p b) (qr := fun _ => LQ.exit (wy := wv30x0) 0 (true, (false, ()))) (big_lt (show numB b ≤ _ by omega)) (fun j hj _ => ?_) fun _ => ?_
  · have hW : W (b.1 + (j : Int)) = b.1 + (j : Int) := W_id ⟨by omega, by omega⟩
    unfold S30x0 Z30x0 stopJ
    simp only [lt_ok hj, W_nat hj (show numB b ≤ _ by omega), hW, M65xe hw hp, M68xe hw hp, cl_some, decide_true, cond_true, anyC_s, allM_s]
    unfold canJ mustJ
    by_cases hx : b.2.2.1 ≤ sightI w p (b.1 + (j : Int)) <;> by_cases hy : b.2.2.2.1 ≤ sightI w p (b.1 + (j : Int)) <;> simp only [hx, hy, decide_true, decide_false] <;>
      cases anyC w p b j <;> cases allM w p b j <;> cases someB w p (b.1 + (j : Int)) <;> cases allB w p (b.1 + (j : Int)) <;> rfl
  · unfold S30x0 Z30x0
    simp only [Int.lt_irrefl, decide_false, cond_false]
theorem M28xw {w : wT} (hw : watchB w = true) {p : Int} (hp : 0 ≤ p ∧ p < (w.2.2.2.1.n : Int)) (m : Int) : M28 (no_index (w, (p, (m, ())))) = some (wordI (someB w p m) (someB w p m && allB w p m), ()) := by
  rw [M28xe hw hp]
  have : wordI (someB w p m) (someB w p m && allB w p m) = wordI (someB w p m) (allB w p m) := by
    cases ha : allB w p m with
    | true => rw [all_some hw hp ha]; rfl
    | false => cases someB w p m <;> rfl
  rw [this]
theorem L32xe {w : wT} (hw : watchB w = true) {p : Int} (hp : 0 ≤ p ∧ p < (w.2.2.2.1.n : Int)) {b : boT} (hb : boatB b = true) :
    L32x0 (no_index (p, ((), ((), (w, (b, ())))))) (no_index (true, (false, (b.1, ())))) = .exit 0 (allM w p b (numB b), (anyC w p b (numB b), ())) := by
  obtain ⟨b1, b2, b3, b4⟩ := boat_in hb
  have hn : numB b ≤ 1000 := by unfold numB; omega
  have hN : ((numB b : Nat) : Int) = b.2.1 - b.1 + 1 := by unfold numB; omega
  unfold L32x0
  refine (congrArg (iterQ (ps := vs32x0) _ big) ?_).trans (iterQ_steps (ps := vs32x0) (numB b) big (fun j => (allM w p b j, (anyC w p b j, (b.1 + (j : Int), ())))) (big_lt (show numB b ≤ _ by omega)) (fun j hj => ?_) ?_)
  · show (true, (false, (b.1, ()))) = (true, (false, (b.1 + ((0 : Nat) : Int), ())))
    simp
  · have a1 : b.1 + (j : Int) ≤ b.2.1 := by omega
    have a2 : W (b.1 + (j : Int) + 1) = b.1 + ((j + 1 : Nat) : Int) := by rw [W_id ⟨by omega, by omega⟩]; omega
    unfold S32x0 Z32x0
    simp only [a1, a2, M28xw hw hp, M43xe hp, cl_some, decide_true, cond_true, anyC_s, allM_s]
    unfold canJ mustJ
    by_cases hx : b.2.2.1 ≤ sightI w p (b.1 + (j : Int)) <;> by_cases hy : b.2.2.2.1 ≤ sightI w p (b.1 + (j : Int)) <;> simp only [hx, hy, decide_true, decide_false] <;>
      cases anyC w p b j <;> cases allM w p b j <;> cases someB w p (b.1 + (j : Int)) <;> cases allB w p (b.1 + (j : Int)) <;> rfl
  · have a1 : ¬ b.1 + ((numB b : Nat) : Int) ≤ b.2.1 := by omega
    unfold S32x0 Z32x0
    simp only [a1, decide_false, cond_false]
def warnI (w : wT) (p : Int) (b : boT) : Int := wordI (anyC w p b (numB b)) (allM w p b (numB b))
theorem M32xe {w : wT} (hw : watchB w = true) {p : Int} (hp : 0 ≤ p ∧ p < (w.2.2.2.1.n : Int)) {b : boT} (hb : boatB b = true) : M32 (no_index (w, (p, (b, ())))) = some (warnI w p b, ()) := by
  unfold M32 Q32
  refine (congrArg (fun o => onExit o 0 _ _) (L32xe hw hp hb)).trans ?_
  simp only [xe32x0e0, M66xe, cl_some]
  rfl
theorem M30xe {w : wT} (hs : shortB w = true) (p : Int) (b : boT) : M30 (no_index (w, (p, (b, ())))) = some (bif watchB w && (portI w p && boatB b) then (warnI w p b, ((0 : Int), ())) else ((0 : Int), ((2 : Int), ()))) := by
  obtain ⟨s1, s2, s3⟩ := shortB_t hs
  unfold M30 Q30
  simp only [M55xe, M63xe, M67xe, cl_some, lt300]
  cases hw : watchB w with
  | false => rfl
  | true =>
  show (bif !portI w p then _ else _) = _
  cases hp : portI w p with
  | false => rfl
  | true =>
  have hx := port_ix (show w.2.2.2.1.n ≤ _ by omega) hp
  cases hb : boatB b with
  | false =>
    unfold boatB at hb
    simp only [Bool.not_true, cond_false, Bool.and_false]
    cases h1 : spB b.1 b.2.1 20000 with
    | false => rfl
    | true =>
      cases h2 : decide (W (b.2.1 - b.1) ≤ 300) with
      | false => rfl
      | true =>
        rw [h1, h2] at hb
        have h3 : spB b.2.2.1 b.2.2.2.1 50000 = false := hb
        simp only [Bool.not_true, cond_false]
        show (bif !(spB b.2.2.1 b.2.2.2.1 50000) then _ else _) = _
        rw [h3]
        rfl
  | true =>
    have hb' := hb
    simp only [boatB, Bool.and_eq_true] at hb'
    obtain ⟨h1, h2, h3⟩ := hb'
    obtain ⟨b1, b2, b3, b4⟩ := boat_in hb
    have hN : W (W (b.2.1 - b.1) + 1) = ((numB b : Nat) : Int) := by
      rw [W_id (n := b.2.1 - b.1) ⟨by omega, by omega⟩, W_id ⟨by omega, by omega⟩]
      unfold numB; omega
    simp only [h1, h2, Bool.not_true, cond_false]
    show (bif !(spB b.2.2.1 b.2.2.2.1 50000) then _ else _) = _
    rw [h3]
    simp only [cl_some, Bool.not_true, cond_false, cond_true, Bool.and_self, M57xe (show w.2.2.1.n ≤ _ by omega) (show w.2.1.n ≤ _ by omega), hN]
    refine (congrArg (fun o => onExit o 0 _ _) (L30xe hw hx hb)).trans ?_
    cases hf : fstN (stopJ w p b) (numB b) with
    | none => simp only [xe30x0e0, M64xe, cl_some]; rfl
    | some k =>
      obtain ⟨k1, k2, _⟩ := fstN_some hf
      simp only [stopJ, Bool.and_eq_true, Bool.not_eq_true'] at k2
      have e1 := anyC_le (show k + 1 ≤ numB b by omega) k2.1
      have e2 := allM_le (show k + 1 ≤ numB b by omega) k2.2
      simp only [xe30x0e0, M64xe, cl_some, warnI, e1, e2]
theorem M29xe {w : wT} (hs : shortB w = true) (p : Int) (b : boT) : ∃ x : Bool, M29 (no_index (w, (p, (b, ())))) = some (x, ()) := by
  obtain ⟨s1, s2, s3⟩ := shortB_t hs
  unfold M29 Q29
  simp only [M20xe hs, M26xe, M31xe, cl_some]
  cases hw : watchB w with
  | false => exact ⟨_, rfl⟩
  | true =>
  cases hp : portI w p with
  | false => exact ⟨_, rfl⟩
  | true =>
  cases boatB b with
  | false => exact ⟨_, rfl⟩
  | true =>
  have hx := port_ix (show w.2.2.2.1.n ≤ _ by omega) hp
  simp only [hx, and_self, decide_true, cond_true, Bool.not_true, cond_false]
  exact ⟨_, rfl⟩
theorem M8xe (w : wT) (p : Int) (b : boT) (z : Unit) : M8 (no_index (w, (p, (b, z)))) = some (true, ()) := by
  unfold M8 Q8
  simp only [M17xe, cl_some, known_M]
  cases hs : shortB w with
  | false => rfl
  | true =>
  obtain ⟨s1, s2, s3⟩ := shortB_t hs
  obtain ⟨x, hx⟩ := M29xe hs p b
  simp only [hx, M30xe hs, M20xe hs, M26xe, M31xe, cl_some, Bool.not_true, cond_false]
  cases x with
  | false => rfl
  | true =>
  cases hw : watchB w with
  | false => rfl
  | true =>
  cases hp : portI w p with
  | false => rfl
  | true =>
  cases hb : boatB b with
  | false => rfl
  | true =>
  have hq := port_ix (show w.2.2.2.1.n ≤ _ by omega) hp
  simp only [M32xe hw hq hb, cl_some, Bool.and_true, cond_true, Bool.not_true, cond_false]
  simp
theorem law8 (x : (a8).den) : M8 x = some (true, ()) := by
  obtain ⟨w, p, b, z⟩ := x
  exact M8xe w p b z
end Go.Dm

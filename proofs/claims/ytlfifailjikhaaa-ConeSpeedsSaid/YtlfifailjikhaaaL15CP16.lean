/- Whether urgent reports suffice. -/
import Derived.Test.YtlfifailjikhaaaL15CP15
set_option linter.unusedVariables false
set_option linter.unusedSimpArgs false
namespace Go.Dm
set_option maxRecDepth 100000

theorem mn_or' (a b : Int) : (mn a b = a ∨ mn a b = b) ∧ mn a b ≤ a ∧ mn a b ≤ b := by
  unfold mn
  by_cases h : b < a
  · rw [if_pos h]; omega
  · rw [if_neg h]; omega
theorem repC_up {n : Int} {r : repT} (h : repC n r = true) : repC n (upU r) = true := by
  simp only [repC, Bool.and_eq_true] at h ⊢
  obtain ⟨a1, a2, a3, a4, a5, a6⟩ := h
  have b : 0 ≤ r.2.2.2.1 ∧ r.2.2.2.1 ≤ r.2.2.2.2.1 ∧ r.2.2.2.2.1 ≤ 2880 := of_decide_eq_true a4
  have c := inB_t a5
  have m1 := mn_or' r.2.2.2.1 r.2.2.2.2.2.1
  have m2 := mn_or' r.2.2.2.2.1 r.2.2.2.2.2.1
  refine ⟨a1, a2, a3, ?_, a5, a6⟩
  exact decide_eq_true (show 0 ≤ mn r.2.2.2.1 r.2.2.2.2.2.1 ∧ mn r.2.2.2.1 r.2.2.2.2.2.1 ≤ mn r.2.2.2.2.1 r.2.2.2.2.2.1 ∧ mn r.2.2.2.2.1 r.2.2.2.2.2.1 ≤ 2880 by omega)
theorem spL_rep {w : wT} (hw : watchB w = true) {u : rowI} (hu : inU w u) : ∀ k, k ≤ u.n → ∀ i, i < w.2.1.n → repC w.1 ((spL w.2.1 u k).g i) = true
  | 0, _, i, hi => by
    simp only [watchB, Bool.and_eq_true] at hw
    exact all_t hw.2.1 hi
  | k + 1, hk, i, hi => by
    show repC w.1 (bif Nat.beq i (u.g k).1.toNat then upU ((spL w.2.1 u k).g (u.g k).1.toNat) else (spL w.2.1 u k).g i) = true
    cases h : Nat.beq i (u.g k).1.toNat with
    | false => exact spL_rep hw hu k (by omega) i hi
    | true =>
      have hx := hu k (by omega)
      exact repC_up (spL_rep hw hu k (by omega) _ (by omega))
theorem watch_sp {w : wT} (hw : watchB w = true) {u : rowI} (hu : inU w u) : watchB (spW w u) = true := by
  have h1 : (List.range (spL w.2.1 u u.n).n).all (fun j => repC w.1 ((spL w.2.1 u u.n).g j)) = true := by
    rw [spL_n]
    exact all_i fun j hj => spL_rep hw hu u.n (Nat.le_refl _) j hj
  have h2 : decide ((spL w.2.1 u u.n).n ≤ 9) = true := by rw [spL_n]; exact decide_eq_true (small hw).1
  simp only [watchB, numC, Bool.and_eq_true] at hw ⊢
  exact ⟨⟨hw.1.1, h2, hw.1.2.2⟩, h1, hw.2.2⟩
/-- By when a storm surely is seen, with these urgent reports. -/
def sufI (w : wT) (u : rowI) : Int := fstR (spW w u) (endS (spW w u) true)
def sufB (w : wT) (u : rowI) (m : Int) : Bool := decide (0 ≤ sufI w u) && decide (sufI w u ≤ m)
theorem M47xe {w : wT} (hw : watchB w = true) {u : rowI} (hu : inU w u) (hn : u.n ≤ 1000) (m : Int) : M47 (no_index (w, (u, (m, ())))) = some (sufB w u m, ()) := by
  obtain ⟨h1, h2, h3⟩ := small hw
  have hs := watch_sp hw hu
  unfold M47 Q47
  simp only [M51xe (show w.2.1.n ≤ 1000 by omega) hu hn, cl_some, M24xe (w := spW w u) (Nat.le_trans (small hs).1 (by omega)), M22xe hs (endS_n _ _), fst_eq hs (endS_del hs true)]
  unfold sufB sufI
  cases decide (0 ≤ fstR (spW w u) (endS (spW w u) true)) <;> rfl
theorem M73xe {w : wT} (hw : watchB w = true) (h0 : 0 < w.2.1.n) {u : rowI} (hu : inU w u) (hn : u.n ≤ 1000) (m : Int) : M73 (no_index (lookK w, (u, (m, ())))) = some (sufB w u m, ()) := by
  obtain ⟨h1, h2, h3⟩ := small hw
  have hs := watch_sp hw hu
  have hk := (small hs).1
  unfold M73 Q73
  refine (congrArg (fun o => cl (r103).dflt o _ _) (M103xe h0 (show w.2.1.n ≤ 1000 by omega) hu hn)).trans ?_
  simp only [cl_some]
  have e1 : M62 (no_index (kW (spW w u) (mapAt w w.2.1.n (w.2.1.n + 1)), ())) = some ((endS (spW w u) false, (endS (spW w u) true, ())), ()) := by
    rw [look_sp]; exact M62xe (by omega)
  have e2 : M58 (no_index (kW (spW w u) (mapAt w w.2.1.n (w.2.1.n + 1)), (endS (spW w u) true, ()))) = some (bif decide (sufI w u < 0) then ((0 : Int), (false, ())) else (sufI w u, (true, ()))) := by
    rw [look_sp]; exact M58xe (by omega) (endS_n _ _)
  refine (congrArg (fun o => cl (r62).dflt o _ _) e1).trans ?_
  simp only [cl_some]
  refine (congrArg (fun o => cl (r58).dflt o _ _) e2).trans ?_
  simp only [cl_some]
  unfold sufB
  by_cases h : sufI w u < 0
  · have h' : ¬ 0 ≤ sufI w u := by omega
    simp [h, h']
  · have h' : 0 ≤ sufI w u := by omega
    simp [h, h']
end Go.Dm

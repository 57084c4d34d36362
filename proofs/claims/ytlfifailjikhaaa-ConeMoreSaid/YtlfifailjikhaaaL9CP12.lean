/- What comes sooner is seen no later. -/
import Derived.Test.YtlfifailjikhaaaL9CP6
set_option linter.unusedVariables false
set_option linter.unusedSimpArgs false
namespace Go.Dm
set_option maxRecDepth 100000

theorem fst_gen {w w' : wT} (hw : watchB w = true) (hw' : watchB w' = true) {d d' : rowI} (hd : delB w d = true) (hd' : delB w' d' = true)
    (h : ∀ i j, i < w.2.1.n → j < w.2.1.n → isP w i j = true → i < w'.2.1.n ∧ j < w'.2.1.n ∧ isP w' i j = true ∧ loI w' d' (prN i j) ≤ loI w d (prN i j) ∧ hiI w (prN i j) ≤ hiI w' (prN i j)) (h0 : 0 ≤ fstR w d) :
    0 ≤ fstR w' d' ∧ fstR w' d' ≤ fstR w d := by
  rcases fstR_min hw hd with ⟨e, _⟩ | ⟨_, ⟨i, j, h1, h2, h3, h4, h5⟩, _⟩
  · omega
  obtain ⟨g1, g2, g3, g4, g5⟩ := h i j h1 h2 h3
  have hs : SeenP w' d' (loI w' d' (prN i j)) := ⟨i, j, g1, g2, g3, by omega, rfl⟩
  rcases fstR_min hw' hd' with ⟨_, n⟩ | ⟨p1, _, p3⟩
  · exact absurd hs (n _)
  · have := p3 _ hs
    exact ⟨p1, by omega⟩
def playV (w : wT) (d : rowI) : Int × Int × Unit := bif decide (fstR w d < 0) then ((0 : Int), ((5 : Int), ())) else (fstR w d, ((0 : Int), ()))
theorem M19xp {w : wT} (hw : watchB w = true) {d : rowI} (hd : delB w d = true) : M19 (no_index (w, (d, ()))) = some (playV w d) := by
  obtain ⟨h1, h2, h3⟩ := small hw
  rw [M19xe (show w.2.1.n ≤ _ by omega) (show w.2.2.1.n ≤ _ by omega), hw, hd]
  rfl
theorem M33xp {w w' : wT} (hw : watchB w = true) (hw' : watchB w' = true) {d d' : rowI} (hd : delB w d = true) (hd' : delB w' d' = true) (h : 0 ≤ fstR w d → 0 ≤ fstR w' d' ∧ fstR w' d' ≤ fstR w d) :
    M33 (no_index ((playV w' d').1, ((playV w' d').2.1, playV w d))) = some (true, ()) := by
  unfold M33 Q33 playV
  rcases fst_lt hw hd with e | e
  · have n1 : fstR w d < 0 := by omega
    rcases fst_lt hw' hd' with f | f
    · have n2 : fstR w' d' < 0 := by omega
      simp [n1, n2]
    · have n2 : ¬ fstR w' d' < 0 := by omega
      simp [n1, n2]
  · obtain ⟨f1, f2⟩ := h e
    have n1 : ¬ fstR w d < 0 := by omega
    have n2 : ¬ fstR w' d' < 0 := by omega
    simp [n1, n2, f2]

/-! a longer Hold -/
theorem mn_or (a b : Int) : (mn a b = a ∨ mn a b = b) ∧ mn a b ≤ a ∧ mn a b ≤ b := by
  unfold mn
  by_cases h : b < a
  · rw [if_pos h]; omega
  · rw [if_neg h]; omega
def yW (w : wT) (l : Int) : wT := (w.1, (w.2.1, (w.2.2.1, (w.2.2.2.1, (w.2.2.2.2.1, (w.2.2.2.2.2.1, (mn 2880 (W (w.2.2.2.2.2.2.1 + l)), w.2.2.2.2.2.2.2)))))))
theorem hold_y {w : wT} (hw : watchB w = true) {l : Int} (hl : 0 ≤ l ∧ l ≤ 2880) : w.2.2.2.2.2.2.1 ≤ mn 2880 (W (w.2.2.2.2.2.2.1 + l)) ∧ mn 2880 (W (w.2.2.2.2.2.2.1 + l)) ≤ 2880 := by
  have h := hold_in hw
  rw [W_id ⟨by omega, by omega⟩]
  have := mn_or 2880 (w.2.2.2.2.2.2.1 + l)
  omega
theorem watch_y {w : wT} (hw : watchB w = true) {l : Int} (hl : 0 ≤ l ∧ l ≤ 2880) : watchB (yW w l) = true := by
  have h1 := hold_in hw
  have h2 := hold_y hw hl
  have h3 : inB (mn 2880 (W (w.2.2.2.2.2.2.1 + l))) 1 2880 = true := decide_eq_true (by omega)
  simp only [watchB, numC, Bool.and_eq_true] at hw ⊢
  exact ⟨⟨hw.1.1, hw.1.2.1, hw.1.2.2.1, hw.1.2.2.2.1, hw.1.2.2.2.2.1, hw.1.2.2.2.2.2.1, h3, hw.1.2.2.2.2.2.2.2⟩, hw.2⟩
theorem fst_y {w : wT} (hw : watchB w = true) {l : Int} (hl : 0 ≤ l ∧ l ≤ 2880) {d : rowI} (hd : delB w d = true) : 0 ≤ fstR w d → 0 ≤ fstR (yW w l) d ∧ fstR (yW w l) d ≤ fstR w d :=
  fst_gen hw (watch_y hw hl) hd (show delB (yW w l) d = true from hd) fun i j h1 h2 h3 => by
    refine ⟨h1, h2, h3, Int.le_refl _, ?_⟩
    have a1 := hold_in hw
    have a2 := hold_y hw hl
    have a3 := rep_in hw h1
    have a4 := rep_in hw h2
    have a5 := mx_or (w.2.1.g i).2.1 (w.2.1.g j).2.1
    show W (mx (w.2.1.g i).2.1 (w.2.1.g j).2.1 + w.2.2.2.2.2.2.1) ≤ W (mx (w.2.1.g i).2.1 (w.2.1.g j).2.1 + mn 2880 (W (w.2.2.2.2.2.2.1 + l)))
    rw [W_id (n := mx (w.2.1.g i).2.1 (w.2.1.g j).2.1 + w.2.2.2.2.2.2.1) ⟨by omega, by omega⟩, W_id ⟨by omega, by omega⟩]
    omega

/-! a report more -/
def xW (w : wT) (r : repT) : wT := (w.1, (snoc w.2.1 r, w.2.2))
theorem alM_x {w : wT} {r : repT} {i j : Nat} (hi : i < w.2.1.n) (hj : j < w.2.1.n) : alM (xW w r) i j = alM w i j := by
  show alB (xW w r) ((snoc w.2.1 r).g i) ((snoc w.2.1 r).g j) = _
  rw [snoc_lt hi, snoc_lt hj]
  rfl
theorem fst_x {w : wT} (hw : watchB w = true) {r : repT} (hx : watchB (xW w r) = true) {d : rowI} (hd : delB w d = true) {e : Int} (hdx : delB (xW w r) (snoc d (e, ())) = true) : 0 ≤ fstR w d → 0 ≤ fstR (xW w r) (snoc d (e, ())) ∧ fstR (xW w r) (snoc d (e, ())) ≤ fstR w d :=
  fst_gen hw hx hd hdx fun i j h1 h2 h3 => by
    have hn := del_n hd
    have e1 : mI (xW w r) (snoc d (e, ())) i = mI w d i := by
      show W (((snoc w.2.1 r).g i).2.1 + ((snoc d (e, ())).g i).1) = _
      rw [snoc_lt h1, snoc_lt (show i < d.n by omega)]; rfl
    have e2 : mI (xW w r) (snoc d (e, ())) j = mI w d j := by
      show W (((snoc w.2.1 r).g j).2.1 + ((snoc d (e, ())).g j).1) = _
      rw [snoc_lt h2, snoc_lt (show j < d.n by omega)]; rfl
    refine ⟨Nat.lt_succ_of_lt h1, Nat.lt_succ_of_lt h2, ?_, ?_, ?_⟩
    · unfold isP at h3 ⊢
      rw [alM_x h1 h2]; exact h3
    · rw [lo_N, lo_N, e1, e2]; exact Int.le_refl _
    · show W (mx (w.2.1.g i).2.1 (w.2.1.g j).2.1 + w.2.2.2.2.2.2.1) ≤ W (mx ((snoc w.2.1 r).g i).2.1 ((snoc w.2.1 r).g j).2.1 + w.2.2.2.2.2.2.1)
      rw [snoc_lt h1, snoc_lt h2]; exact Int.le_refl _
end Go.Dm

/- Shorter delays, and greater limits. -/
import Derived.Test.YtlfifailjikhaaaL9CP12
set_option linter.unusedVariables false
set_option linter.unusedSimpArgs false
namespace Go.Dm
set_option maxRecDepth 100000

/-! delays that are less -/
theorem part {x p : Int} (hx : 0 ≤ x ∧ x ≤ 2880) (hp : 0 ≤ p ∧ p ≤ 100) : W (Int.tdiv (W (W x * p)) 100) = Int.tdiv (x * p) 100 ∧ 0 ≤ Int.tdiv (x * p) 100 ∧ Int.tdiv (x * p) 100 ≤ x := by
  have h1 : 0 ≤ x * p := Int.mul_nonneg hx.1 hp.1
  have h2 : x * p ≤ x * 100 := Int.mul_le_mul_of_nonneg_left hp.2 hx.1
  have h3 : Int.tdiv (x * p) 100 = x * p / 100 := Int.tdiv_eq_ediv_of_nonneg h1
  rw [W_id (n := x) ⟨by omega, by omega⟩, W_id (n := x * p) ⟨by omega, by omega⟩, h3]
  refine ⟨W_id ⟨by omega, by omega⟩, by omega, by omega⟩
def lessY (w : wT) (d : rowI) (p : Int) (j : Nat) : Int × Unit := (W ((w.2.1.g j).2.2.2.1 + W (Int.tdiv (W (W ((d.g j).1 - (w.2.1.g j).2.2.2.1) * p)) 100)), ())
def lessS (w : wT) (d : rowI) (p : Int) : rowI := tab row0 (lessY w d p) w.2.1.n
theorem lessY_in {w : wT} (hw : watchB w = true) {d : rowI} (hd : delB w d = true) {p : Int} (hp : 0 ≤ p ∧ p ≤ 100) {j : Nat} (hj : j < w.2.1.n) : (w.2.1.g j).2.2.2.1 ≤ (lessY w d p j).1 ∧ (lessY w d p j).1 ≤ (d.g j).1 := by
  have h1 := rep_in hw hj
  have h2 := del_in hw hd hj
  have h3 : (w.2.1.g j).2.2.2.1 ≤ (d.g j).1 ∧ (d.g j).1 ≤ (w.2.1.g j).2.2.2.2.1 := by
    simp only [delB, Bool.and_eq_true] at hd
    exact inB_t (all_t hd.2 hj)
  obtain ⟨q1, q2, q3⟩ := part (x := (d.g j).1 - (w.2.1.g j).2.2.2.1) (by omega) hp
  unfold lessY
  rw [q1, W_id ⟨by omega, by omega⟩]
  omega
theorem less_del {w : wT} (hw : watchB w = true) {d : rowI} (hd : delB w d = true) {p : Int} (hp : 0 ≤ p ∧ p ≤ 100) : delB w (lessS w d p) = true := by
  have hn : (lessS w d p).n = w.2.1.n := tab_n0 rfl
  have hd' := hd
  simp only [delB, Bool.and_eq_true] at hd'
  unfold delB
  rw [hn]
  simp only [decide_true, Bool.true_and]
  refine all_i fun j hj => ?_
  have hg : (lessS w d p).g j = lessY w d p j := tab_g0 rfl hj
  have h1 := lessY_in hw hd hp hj
  have h3 := inB_t (all_t hd'.2 hj)
  unfold delC
  rw [hg]
  exact decide_eq_true (by omega)
theorem fst_less {w : wT} (hw : watchB w = true) {d : rowI} (hd : delB w d = true) {p : Int} (hp : 0 ≤ p ∧ p ≤ 100) : 0 ≤ fstR w d → 0 ≤ fstR w (lessS w d p) ∧ fstR w (lessS w d p) ≤ fstR w d :=
  fst_mono hw (less_del hw hd hp) hd fun i hi => by
    have hg : (lessS w d p).g i = lessY w d p i := tab_g0 rfl hi
    rw [hg]
    exact (lessY_in hw hd hp hi).2
theorem L9a_e {w : wT} (hw : watchB w = true) {d : rowI} (hn : d.n = w.2.1.n) (p a b c : Int) (r : repT) :
    L9x0 (no_index (d, (p, (a, (b, (c, ((), ((), (w, (r, ())))))))))) (no_index (row0, ((0 : Int), ()))) = LQ.exit (wy := wv9x0) 0 (lessS w d p, ()) := by
  obtain ⟨h1, h2, h3⟩ := small hw
  unfold L9x0
  refine iterQ_steps (ps := vs9x0) w.2.1.n big (fun j => (tab row0 (lessY w d p) j, ((j : Int), ()))) (big_lt (by omega)) (fun j hj => ?_) ?_
  · have hb : ((tab row0 (lessY w d p) j).n + 1) * 8 ≤ 140737488355328 := by rw [tab_n0 rfl]; omega
    unfold S9x0 Z9x0
    simp only [hn, lt_ok hj, idx_ok hj, W_nat hj (show w.2.1.n ≤ _ by omega), decide_true, cond_true, and_self, Int.toNat_natCast, hb]
    rfl
  · unfold S9x0 Z9x0
    simp only [hn, Int.lt_irrefl, decide_false, cond_false]
    rfl

/-! a greater Fall, and greater Diffs -/
def upD (g : Int) (l : linkT) : linkT := (l.1, (l.2.1, (mn 99999 (W (l.2.2.1 + g)), ())))
def zL (s : Sl linkT) (g : Int) : Nat → Sl linkT
  | 0 => s
  | j + 1 => setSl (zL s g j) j (upD g ((zL s g j).g j))
theorem zL_n (s : Sl linkT) (g : Int) : ∀ k, (zL s g k).n = s.n
  | 0 => rfl
  | k + 1 => zL_n s g k
theorem zL_g (s : Sl linkT) (g : Int) : ∀ (k i : Nat), (zL s g k).g i = bif decide (i < k) then upD g (s.g i) else s.g i
  | 0, i => rfl
  | k + 1, i => by
    show (bif Nat.beq i k then upD g ((zL s g k).g k) else (zL s g k).g i) = _
    rw [zL_g s g k k, zL_g s g k i]
    by_cases e : i = k
    · subst e
      have : Nat.beq i i = true := by rw [Nat.beq_eq]
      simp [this]
    · have : Nat.beq i k = false := by
        cases h : Nat.beq i k with
        | false => rfl
        | true => exact absurd (Nat.eq_of_beq_eq_true h) e
      by_cases q : i < k
      · have q' : i < k + 1 := by omega
        simp [this, q, q']
      · have q' : ¬ i < k + 1 := by omega
        simp [this, q, q']
def zW (w : wT) (g : Int) : wT := (w.1, (w.2.1, (zL w.2.2.1 g w.2.2.1.n, (w.2.2.2.1, (mn 99999 (W (w.2.2.2.2.1 + g)), w.2.2.2.2.2)))))
theorem zW_g {w : wT} {g : Int} {i : Nat} (hi : i < w.2.2.1.n) : (zW w g).2.2.1.g i = upD g (w.2.2.1.g i) := by
  show (zL w.2.2.1 g w.2.2.1.n).g i = _
  rw [zL_g, decide_eq_true hi]
  rfl
theorem most {x g : Int} (hx : 1 ≤ x ∧ x ≤ 99999) (hg : 0 ≤ g ∧ g ≤ 99999) : x ≤ mn 99999 (W (x + g)) ∧ mn 99999 (W (x + g)) ≤ 99999 := by
  rw [W_id ⟨by omega, by omega⟩]
  have := mn_or 99999 (x + g)
  omega
theorem link_in {w : wT} (hw : watchB w = true) {j : Nat} (hj : j < w.2.2.1.n) : 1 ≤ (w.2.2.1.g j).2.2.1 ∧ (w.2.2.1.g j).2.2.1 ≤ 99999 := by
  simp only [watchB, Bool.and_eq_true] at hw
  have := all_t hw.2.2.1 hj
  simp only [linkC, Bool.and_eq_true] at this
  exact inB_t this.2.2.2
theorem fall_in {w : wT} (hw : watchB w = true) : 1 ≤ w.2.2.2.2.1 ∧ w.2.2.2.2.1 ≤ 99999 := by
  simp only [watchB, numC, Bool.and_eq_true] at hw
  exact inB_t hw.1.2.2.2.2.1
theorem watch_z {w : wT} (hw : watchB w = true) {g : Int} (hg : 0 ≤ g ∧ g ≤ 99999) : watchB (zW w g) = true := by
  have h1 := most (fall_in hw) hg
  have h1' := fall_in hw
  have h3 : inB (mn 99999 (W (w.2.2.2.2.1 + g))) 1 99999 = true := decide_eq_true (by omega)
  have h4 : (List.range (zL w.2.2.1 g w.2.2.1.n).n).all (fun j => linkC w.1 ((zL w.2.2.1 g w.2.2.1.n).g j)) = true := by
    rw [zL_n]
    refine all_i fun j hj => ?_
    rw [show (zL w.2.2.1 g w.2.2.1.n).g j = upD g (w.2.2.1.g j) from zW_g hj]
    have a := most (link_in hw hj) hg
    have a' := link_in hw hj
    have b : inB (mn 99999 (W ((w.2.2.1.g j).2.2.1 + g))) 1 99999 = true := decide_eq_true (by omega)
    have c := hw
    simp only [watchB, Bool.and_eq_true] at c
    have c2 := all_t c.2.2.1 hj
    simp only [linkC, Bool.and_eq_true] at c2
    simp only [linkC, Bool.and_eq_true]
    exact ⟨c2.1, c2.2.1, c2.2.2.1, b⟩
  have hl : decide ((zL w.2.2.1 g w.2.2.1.n).n ≤ 8) = true := by
    rw [zL_n]
    exact decide_eq_true (small hw).2.1
  simp only [watchB, numC, Bool.and_eq_true] at hw ⊢
  exact ⟨⟨hw.1.1, hw.1.2.1, hl, hw.1.2.2.2.1, h3, hw.1.2.2.2.2.2⟩, hw.2.1, h4, hw.2.2.2⟩
theorem alB_z {w : wT} (hw : watchB w = true) {g : Int} (hg : 0 ≤ g ∧ g ≤ 99999) {r s : repT} (h : alB (zW w g) r s = true) : alB w r s = true := by
  have h1 := most (fall_in hw) hg
  have ff : ∀ r s : repT, fallB (zW w g) r s = true → fallB w r s = true := fun r s e => by
    simp only [fallB, Bool.and_eq_true, decide_eq_true_eq] at e ⊢
    have e3 : mn 99999 (W (w.2.2.2.2.1 + g)) ≤ W (r.2.2.1 - s.2.2.1) := e.2.2
    exact ⟨e.1, e.2.1, by omega⟩
  have fl : linkA (zW w g) r s = true → linkA w r s = true := fun e => by
    obtain ⟨j, j1, j2⟩ := List.any_eq_true.1 e
    have j1' : j < w.2.2.1.n := by
      have : j < (zL w.2.2.1 g w.2.2.1.n).n := List.mem_range.1 j1
      rwa [zL_n] at this
    refine List.any_eq_true.2 ⟨j, by simpa using j1', ?_⟩
    rw [zW_g j1'] at j2
    have a := most (link_in hw j1') hg
    simp only [diffB, Bool.and_eq_true, decide_eq_true_eq] at j2 ⊢
    have b : mn 99999 (W ((w.2.2.1.g j).2.2.1 + g)) ≤ farI r.2.2.1 s.2.2.1 := j2.2
    exact ⟨j2.1, by omega⟩
  simp only [alB, Bool.and_eq_true, Bool.or_eq_true] at h ⊢
  refine ⟨h.1, ?_⟩
  rcases h.2 with e | e | e
  · exact .inl (ff _ _ e)
  · exact .inr (.inl (ff _ _ e))
  · exact .inr (.inr (fl e))
theorem fst_z {w : wT} (hw : watchB w = true) {g : Int} (hg : 0 ≤ g ∧ g ≤ 99999) {d : rowI} (hd : delB w d = true) : 0 ≤ fstR (zW w g) d → 0 ≤ fstR w d ∧ fstR w d ≤ fstR (zW w g) d :=
  fst_gen (watch_z hw hg) hw (show delB (zW w g) d = true from hd) hd fun i j h1 h2 h3 => by
    refine ⟨h1, h2, ?_, Int.le_refl _, Int.le_refl _⟩
    unfold isP at h3 ⊢
    rw [Bool.and_eq_true] at h3 ⊢
    exact ⟨h3.1, alB_z hw hg h3.2⟩
end Go.Dm

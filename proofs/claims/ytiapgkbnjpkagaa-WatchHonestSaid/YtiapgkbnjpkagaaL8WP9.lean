/- Chances are as many as there are lists at most, and never more for more. -/
import Derived.Test.YtiapgkbnjpkagaaL8WP8
set_option linter.unusedVariables false
set_option linter.unusedSimpArgs false
namespace Go.Dm
set_option maxRecDepth 100000

theorem tabBin : ((List.range 10).all fun f => (List.range 19).all fun d => decide (sumT (fun t => ch d t * pwr (f : Int) (d - t)) (d + 1) = pwr ((f + 1 : Nat) : Int) d)) = true := by kernel_rfl
theorem binom {f d : Nat} (hf : f ≤ 9) (hd : d ≤ 18) : sumT (fun t => ch d t * pwr (f : Int) (d - t)) (d + 1) = pwr ((f + 1 : Nat) : Int) d :=
  of_decide_eq_true (all_t (all_t tabBin (j := f) (by omega)) (j := d) (by omega))
theorem tabPow : ((List.range 11).all fun b => (List.range 19).all fun d => decide (pwr (b : Int) d ≤ 1000000000000000000)) = true := by kernel_rfl
theorem pwr_le {b d : Nat} (hb : b ≤ 10) (hd : d ≤ 18) : pwr (b : Int) d ≤ 1000000000000000000 := of_decide_eq_true (all_t (all_t tabPow (j := b) (by omega)) (j := d) (by omega))
theorem pwr_nn (b : Nat) : ∀ d, 0 ≤ pwr (b : Int) d
  | 0 => by simp [pwr]
  | d + 1 => Int.mul_nonneg (pwr_nn b d) (by omega)
theorem pwr_pos {b : Nat} (hb : 1 ≤ b) : ∀ d, 1 ≤ pwr (b : Int) d
  | 0 => by simp [pwr]
  | d + 1 => by
    have h := pwr_pos hb d
    have : 1 * 1 ≤ pwr (b : Int) d * (b : Int) := Int.mul_le_mul h (by omega) (by omega) (by omega)
    simpa [pwr] using this
theorem ch_nn (n k : Nat) : 0 ≤ ch n k := by unfold ch; omega
theorem sumT_nn {g : Nat → Int} : ∀ {n : Nat}, (∀ j, j < n → 0 ≤ g j) → 0 ≤ sumT g n
  | 0, _ => by simp [sumT]
  | n + 1, h => by
    have h1 := sumT_nn (g := g) (n := n) fun j hj => h j (by omega)
    have h2 := h n (by omega)
    rw [sumT]; omega
theorem sumT_le {g h : Nat → Int} : ∀ {n : Nat}, (∀ j, j < n → g j ≤ h j) → sumT g n ≤ sumT h n
  | 0, _ => by simp [sumT]
  | n + 1, k => by
    have h1 := sumT_le (g := g) (h := h) (n := n) fun j hj => k j (by omega)
    have h2 := k n (by omega)
    rw [sumT, sumT]; omega
theorem sumT_more {g : Nat → Int} (hg : ∀ j, 0 ≤ g j) {n : Nat} : ∀ {m : Nat}, n ≤ m → sumT g n ≤ sumT g m
  | 0, h => by rw [show n = 0 by omega]; exact Int.le_refl _
  | m + 1, h => by
    by_cases e : n = m + 1
    · rw [e]; exact Int.le_refl _
    · have h1 := sumT_more hg (n := n) (m := m) (by omega)
      have h2 := hg m
      rw [sumT]; omega
/-- How many lists agree in just so many places. -/
def agT (b d k : Nat) : Int := ch d k * pwr ((b : Int) - 1) (d - k)
theorem agT_nn {b : Nat} (hb : 1 ≤ b) (d k : Nat) : 0 ≤ agT b d k := by
  unfold agT
  rw [show (b : Int) - 1 = ((b - 1 : Nat) : Int) by omega]
  exact Int.mul_nonneg (ch_nn _ _) (pwr_nn _ _)
theorem cha_step {b d l : Nat} (hl : l ≤ d) : cha (b : Int) d l = agT b d l + cha (b : Int) d (l + 1) := by
  unfold cha
  rw [show d + 1 - l = (d + 1 - (l + 1)) + 1 by omega, sumT_head]
  congr 1
  refine sumT_congr fun j _ => ?_
  unfold chaT
  rw [show l + (j + 1) = l + 1 + j by omega]
theorem cha_end {b d l : Nat} (hl : d < l) : cha (b : Int) d l = 0 := by
  unfold cha
  rw [show d + 1 - l = 0 by omega]; rfl
theorem cha_nn {b : Nat} (hb : 1 ≤ b) (d l : Nat) : 0 ≤ cha (b : Int) d l := by
  unfold cha
  refine sumT_nn fun j _ => ?_
  exact agT_nn hb d (l + j)
theorem cha_mono {b : Nat} (hb : 1 ≤ b) (d : Nat) {l m : Nat} (h : l ≤ m) : cha (b : Int) d m ≤ cha (b : Int) d l := by
  induction m with
  | zero => rw [show l = 0 by omega]; exact Int.le_refl _
  | succ m ih =>
    by_cases e : l = m + 1
    · rw [e]; exact Int.le_refl _
    · have := ih (by omega)
      by_cases hm : m ≤ d
      · rw [cha_step hm] at this
        have := agT_nn hb d m
        omega
      · rw [cha_end (by omega)]; exact cha_nn hb d l
theorem cha_all {b d : Nat} (hb : 1 ≤ b ∧ b ≤ 10) (hd : d ≤ 18) : cha (b : Int) d 0 = pwr (b : Int) d := by
  have := binom (f := b - 1) (d := d) (by omega) hd
  rw [show b - 1 + 1 = b by omega] at this
  rw [← this]
  unfold cha
  refine sumT_congr fun j _ => ?_
  unfold chaT
  rw [show (b : Int) - 1 = ((b - 1 : Nat) : Int) by omega, Nat.zero_add]
theorem fw_bd (L : Nat) : ∀ {f d : Nat}, f ≤ 10 → d ≤ 18 → 0 ≤ fw L f d ∧ fw L f d ≤ pwr (f : Int) d
  | 0, d, _, _ => by
    unfold fw
    cases d with
    | zero => simp [pwr]
    | succ d => simp [pwr]
  | f + 1, d, hf, hd => by
    have ih := fun t => fw_bd L (f := f) (d := d - t) (by omega) (by omega)
    rw [fw]
    refine ⟨sumT_nn fun j _ => Int.mul_nonneg (ch_nn _ _) (ih j).1, ?_⟩
    rw [← binom (show f ≤ 9 by omega) hd]
    have h1 : sumT (fun t => ch d t * fw L f (d - t)) (min L (d + 1)) ≤ sumT (fun t => ch d t * pwr (f : Int) (d - t)) (min L (d + 1)) := sumT_le fun j _ => Int.mul_le_mul_of_nonneg_left (ih j).2 (ch_nn _ _)
    have h2 : sumT (fun t => ch d t * pwr (f : Int) (d - t)) (min L (d + 1)) ≤ sumT (fun t => ch d t * pwr (f : Int) (d - t)) (d + 1) := sumT_more (fun j => Int.mul_nonneg (ch_nn _ _) (pwr_nn _ _)) (by omega)
    omega
theorem fw_mono {L M : Nat} (h : L ≤ M) : ∀ {f d : Nat}, f ≤ 10 → d ≤ 18 → fw L f d ≤ fw M f d
  | 0, d, _, _ => Int.le_refl _
  | f + 1, d, hf, hd => by
    rw [fw, fw]
    have h1 : sumT (fun t => ch d t * fw L f (d - t)) (min L (d + 1)) ≤ sumT (fun t => ch d t * fw M f (d - t)) (min L (d + 1)) := sumT_le fun j _ => Int.mul_le_mul_of_nonneg_left (fw_mono h (by omega) (by omega)) (ch_nn _ _)
    have h2 : sumT (fun t => ch d t * fw M f (d - t)) (min L (d + 1)) ≤ sumT (fun t => ch d t * fw M f (d - t)) (min M (d + 1)) := sumT_more (fun j => Int.mul_nonneg (ch_nn _ _) (fw_bd M (by omega) (by omega)).1) (by omega)
    omega
theorem fw_none {f d : Nat} (hf : 1 ≤ f) : fw 0 f d = 0 := by
  cases f with
  | zero => omega
  | succ f => rw [fw, show min 0 (d + 1) = 0 by omega]; rfl

theorem chA_bd {b d : Nat} (hb : 2 ≤ b ∧ b ≤ 10) (hd : d ≤ 18) (l : Nat) : chA b d l = cha (b : Int) d l ∧ 0 ≤ cha (b : Int) d l ∧ cha (b : Int) d l ≤ pwr (b : Int) d := by
  have h1 := cha_nn (b := b) (by omega) d l
  have h2 := cha_mono (b := b) (by omega) d (show 0 ≤ l by omega)
  rw [cha_all (by omega) hd] at h2
  have h3 := pwr_le hb.2 hd
  exact ⟨W_id ⟨by omega, by omega⟩, h1, h2⟩
theorem chF_bd {b d : Nat} (hb : 2 ≤ b ∧ b ≤ 10) (hd : d ≤ 18) (l : Nat) : chF b d l = pwr (b : Int) d - fw l b d ∧ 0 ≤ chF b d l ∧ chF b d l ≤ pwr (b : Int) d := by
  have h1 := fw_bd l hb.2 hd
  have h3 := pwr_le hb.2 hd
  have e : chF b d l = pwr (b : Int) d - fw l b d := W_id ⟨by omega, by omega⟩
  exact ⟨e, by omega, by omega⟩
theorem chA_mono {b d : Nat} (hb : 2 ≤ b ∧ b ≤ 10) (hd : d ≤ 18) {l m : Nat} (h : l ≤ m) : chA b d m ≤ chA b d l := by
  rw [(chA_bd hb hd m).1, (chA_bd hb hd l).1]; exact cha_mono (by omega) d h
theorem chF_mono {b d : Nat} (hb : 2 ≤ b ∧ b ≤ 10) (hd : d ≤ 18) {l m : Nat} (h : l ≤ m) : chF b d m ≤ chF b d l := by
  rw [(chF_bd hb hd m).1, (chF_bd hb hd l).1]
  have := fw_mono h hb.2 hd
  omega
/-- All that are excluded. -/
def lim (b d : Nat) (o : Int) : Int := Int.tdiv (pwr (b : Int) d) (2 * o)
theorem exB_e {b d : Nat} (hb : 2 ≤ b ∧ b ≤ 10) (hd : d ≤ 18) {o : Int} (ho : 1 ≤ o ∧ o ≤ 1000000) (c : Int) : exB b d o c = decide (c ≤ lim b d o) := by
  have h1 := pwr_nn b d
  have h2 := pwr_le hb.2 hd
  have w1 : W (pwr (b : Int) d) = pwr (b : Int) d := W_id ⟨by omega, by omega⟩
  have w2 : W (2 * o) = 2 * o := W_id ⟨by omega, by omega⟩
  have h3 : 0 ≤ Int.tdiv (pwr (b : Int) d) (2 * o) := Int.tdiv_nonneg h1 (by omega)
  have h4 : Int.tdiv (pwr (b : Int) d) (2 * o) ≤ pwr (b : Int) d := by
    rw [Int.tdiv_eq_ediv_of_nonneg h1]
    exact Int.ediv_le_self _ h1
  unfold exB lim
  rw [w1, w2, W_id ⟨by omega, by omega⟩]
theorem lim_lt {b d : Nat} (hb : 2 ≤ b ∧ b ≤ 10) {o : Int} (ho : 1 ≤ o ∧ o ≤ 1000000) : lim b d o < pwr (b : Int) d := by
  have h1 := pwr_pos (b := b) (by omega) d
  unfold lim
  rw [Int.tdiv_eq_ediv_of_nonneg (by omega)]
  refine Int.ediv_lt_of_lt_mul (by omega) ?_
  have : pwr (b : Int) d * 2 ≤ pwr (b : Int) d * (2 * o) := Int.mul_le_mul_of_nonneg_left (by omega) (by omega)
  omega
theorem lim_mono {b d : Nat} {o o' : Int} (ho : 1 ≤ o) (h : o ≤ o') : lim b d o' ≤ lim b d o := by
  have h1 := pwr_nn b d
  unfold lim
  rw [Int.tdiv_eq_ediv_of_nonneg h1, Int.tdiv_eq_ediv_of_nonneg h1]
  have h2 : 0 ≤ pwr (b : Int) d / (2 * o') := Int.ediv_nonneg h1 (by omega)
  refine Int.le_ediv_of_mul_le (by omega) ?_
  have h3 : pwr (b : Int) d / (2 * o') * (2 * o) ≤ pwr (b : Int) d / (2 * o') * (2 * o') := Int.mul_le_mul_of_nonneg_left (by omega) h2
  have h4 := Int.ediv_mul_le (pwr (b : Int) d) (show (2 * o') ≠ 0 by omega)
  omega

/-- What is found first among what never stops to hold. -/
theorem fstD_up {c : Nat → Bool} {n : Nat} (hm : ∀ i j, i ≤ j → j < n → c i = true → c j = true) {s : Nat} (hs : s < n) : decide (fstD c n ≤ (s : Int)) = c s := by
  unfold fstD
  cases h : fstN c n with
  | none =>
    have := fstN_none h s hs
    rw [this]
    have h' : ¬ (((n : Nat) : Int) ≤ (s : Int)) := by omega
    simp [h']
  | some k =>
    obtain ⟨k1, k2, k3⟩ := fstN_some h
    by_cases hk : k ≤ s
    · have h' : ((k : Nat) : Int) ≤ (s : Int) := by omega
      simp [h', hm k s hk hs k2]
    · have h' : ¬ (((k : Nat) : Int) ≤ (s : Int)) := by omega
      simp [h', k3 s (by omega)]
theorem needA_up {b d s : Nat} (hb : 2 ≤ b ∧ b ≤ 10) (hd : d ≤ 18) {o : Int} (ho : 1 ≤ o ∧ o ≤ 1000000) (hs : s ≤ d) : decide (needA b d o ≤ (s : Int)) = exB b d o (chA b d s) := by
  unfold needA
  refine fstD_up (fun i j hij hj hi => ?_) (by omega)
  rw [exB_e hb hd ho] at hi ⊢
  have := of_decide_eq_true hi
  have := chA_mono hb hd hij
  exact decide_eq_true (by omega)
theorem needF_up {b d s : Nat} (hb : 2 ≤ b ∧ b ≤ 10) (hd : d ≤ 18) {o : Int} (ho : 1 ≤ o ∧ o ≤ 1000000) (hs : s ≤ d) : decide (needF b d o ≤ (s : Int)) = exB b d o (chF b d s) := by
  unfold needF
  refine fstD_up (fun i j hij hj hi => ?_) (by omega)
  rw [exB_e hb hd ho] at hi ⊢
  have := of_decide_eq_true hi
  have := chF_mono hb hd hij
  exact decide_eq_true (by omega)
end Go.Dm

/- WatchProved. -/
import Derived.Test.YtiapgkbnjpkagaaL9WP9
set_option linter.unusedVariables false
set_option linter.unusedSimpArgs false
namespace Go.Dm
set_option maxRecDepth 100000

theorem cnt_le {c e : Nat → Bool} (h : ∀ j, c j = true → e j = true) : ∀ {n : Nat}, n ≤ 18 → cntW c n ≤ cntW e n
  | 0, _ => Int.le_refl _
  | n + 1, hn => by
    have ih := cnt_le h (n := n) (by omega)
    obtain ⟨k, k1, k2⟩ := cnt_bd c (n := n) (by omega)
    obtain ⟨k', k3, k4⟩ := cnt_bd e (n := n) (by omega)
    rw [k1, k3] at ih
    rw [cntW, cntW, k1, k3, W_id (n := (k : Int) + 1) ⟨by omega, by omega⟩, W_id (n := (k' : Int) + 1) ⟨by omega, by omega⟩]
    cases hc : c n with
    | false => cases e n <;> simp <;> omega
    | true => rw [h n hc]; simp; omega
theorem fav_le {l : logT} (h : l.2.2.1.n ≤ 18) : ∀ f : Nat, favF l f ≤ cntW (bothF l) l.2.2.1.n
  | 0 => by obtain ⟨k, h1, _⟩ := cnt_bd (bothF l) h; rw [h1, favF]; omega
  | f + 1 => by
    have ih := fav_le h f
    have h2 := cnt_le (c := figF l f) (e := bothF l) (fun j hj => by
      simp only [figF, Bool.and_eq_true, decide_eq_true_eq] at hj
      simp only [bothF, Bool.and_eq_true, decide_eq_true_eq]
      omega) h
    rw [favF]
    unfold mx
    split <;> omega
theorem LogN.le {l : logT} (h : logB l = true) {b d s f : Nat} (hn : LogN l b d s f) : s ≤ d ∧ f ≤ d ∧ d ≤ l.2.2.1.n := by
  obtain ⟨_, _, _, _, h18, _⟩ := logB_t h
  have h1 := cnt_le (c := agrF l) (e := bothF l) (fun j hj => by
      simp only [agrF, Bool.and_eq_true, decide_eq_true_eq] at hj
      simp only [bothF, Bool.and_eq_true, decide_eq_true_eq]
      omega) h18
  have h2 := fav_le h18 l.1.toNat
  obtain ⟨k, h3, h4⟩ := cnt_bd (bothF l) h18
  rw [hn.ed, hn.es] at h1
  rw [hn.ed, hn.ef] at h2
  rw [hn.ed] at h3
  omega

/-! a day that is left out -/
theorem cnt_skip {c c' : Nat → Bool} {k : Nat} (hk : c k = false) (h1 : ∀ j, j < k → c' j = c j) (h2 : ∀ j, k ≤ j → c' j = c (j + 1)) : ∀ {m : Nat}, k ≤ m → cntW c' m = cntW c (m + 1)
  | 0, h => by
    have : k = 0 := by omega
    subst this
    rw [cntW, cntW, cntW, hk]; rfl
  | m + 1, h => by
    by_cases e : k = m + 1
    · subst e
      rw [cntW_congr h1]
      conv => rhs; rw [cntW, hk, cond_false]
    · rw [cntW, cnt_skip hk h1 h2 (m := m) (by omega), h2 m (by omega)]
      conv => rhs; rw [cntW]
def cutR (s : rowI) (k : Nat) : rowI := catSl ⟨k, fun i => s.g (i + 0)⟩ ⟨s.n - (k + 1), fun i => s.g (i + (k + 1))⟩
theorem cutR_n (s : rowI) {k : Nat} (h : k < s.n) : (cutR s k).n = s.n - 1 := by unfold cutR catSl; show k + (s.n - (k + 1)) = _; omega
theorem cutR_lt (s : rowI) {k j : Nat} (h : j < k) : (cutR s k).g j = s.g j := by
  have : Nat.blt j k = true := by rw [Nat.blt_eq]; exact h
  unfold cutR catSl
  simp [this]
theorem cutR_ge (s : rowI) {k j : Nat} (h : k ≤ j) : (cutR s k).g j = s.g (j + 1) := by
  have : Nat.blt j k = false := by
    cases hb : Nat.blt j k with
    | false => rfl
    | true => rw [Nat.blt_eq] at hb; omega
  unfold cutR catSl
  simp only [this, cond_false]
  rw [show j - k + (k + 1) = j + 1 by omega]
def cutL (l : logT) (k : Nat) : logT := (l.1, l.2.1, cutR l.2.2.1 k, cutR l.2.2.2.1 k, ())
theorem cutL_log {l : logT} (h : logB l = true) {k : Nat} (hk : k < l.2.2.1.n) : logB (cutL l k) = true := by
  obtain ⟨h1, h2, h3, h4, h5, h6⟩ := logB_t h
  have e1 : (cutL l k).2.2.1.n = l.2.2.1.n - 1 := cutR_n _ hk
  have e2 : (cutL l k).2.2.2.1.n = l.2.2.2.1.n - 1 := cutR_n _ (by omega)
  have hf : ∀ j, j < l.2.2.1.n - 1 → figC (cutL l k) j = true := fun j hj => by
    have key : ∀ j', j' < l.2.2.1.n → (inB (l.2.2.1.g j').1 (-1) (W (l.1 - 1)) && inB (l.2.2.2.1.g j').1 (-1) (W (l.1 - 1))) = true := fun j' hj' => by
      simp only [logB, Bool.and_eq_true] at h
      have := all_t h.2.2.2.2 hj'
      exact this
    unfold figC
    show (inB ((cutR l.2.2.1 k).g j).1 _ _ && inB ((cutR l.2.2.2.1 k).g j).1 _ _) = true
    by_cases hjk : j < k
    · rw [cutR_lt _ hjk, cutR_lt _ hjk]; exact key j (by omega)
    · rw [cutR_ge _ (by omega), cutR_ge _ (by omega)]; exact key (j + 1) (by omega)
  unfold logB
  rw [e1, e2]
  simp only [Bool.and_eq_true, decide_eq_true_eq]
  exact ⟨decide_eq_true ⟨h1, h2⟩, decide_eq_true h3, by omega, by omega, all_i hf⟩
theorem own_cut_lt (l : logT) {k j : Nat} (h : j < k) : ownF (cutL l k) j = ownF l j ∧ papF (cutL l k) j = papF l j := by
  constructor
  · show ((cutR l.2.2.1 k).g j).1 = _; rw [cutR_lt _ h]; rfl
  · show ((cutR l.2.2.2.1 k).g j).1 = _; rw [cutR_lt _ h]; rfl
theorem own_cut_ge (l : logT) {k j : Nat} (h : k ≤ j) : ownF (cutL l k) j = ownF l (j + 1) ∧ papF (cutL l k) j = papF l (j + 1) := by
  constructor
  · show ((cutR l.2.2.1 k).g j).1 = _; rw [cutR_ge _ h]; rfl
  · show ((cutR l.2.2.2.1 k).g j).1 = _; rw [cutR_ge _ h]; rfl
theorem cut_cnt {l : logT} {k : Nat} (hk : k < l.2.2.1.n) {p : Int → Int → Bool} (hp : p (ownF l k) (papF l k) = false) :
    cntW (fun j => p (ownF (cutL l k) j) (papF (cutL l k) j)) (cutL l k).2.2.1.n = cntW (fun j => p (ownF l j) (papF l j)) l.2.2.1.n := by
  have e1 : (cutL l k).2.2.1.n = l.2.2.1.n - 1 := cutR_n _ hk
  rw [e1]
  have := cnt_skip (c := fun j => p (ownF l j) (papF l j)) (c' := fun j => p (ownF (cutL l k) j) (papF (cutL l k) j)) (k := k) hp (fun j hj => by simp only [own_cut_lt l hj]) (fun j hj => by simp only [own_cut_ge l hj]) (m := l.2.2.1.n - 1) (by omega)
  rw [this, show l.2.2.1.n - 1 + 1 = l.2.2.1.n by omega]
theorem fav_cut {l : logT} {k : Nat} (hk : k < l.2.2.1.n) (hb : bothF l k = false) : ∀ f : Nat, favF (cutL l k) f = favF l f
  | 0 => rfl
  | f + 1 => by
    have : cntW (figF (cutL l k) f) (cutL l k).2.2.1.n = cntW (figF l f) l.2.2.1.n := cut_cnt hk (p := fun o q => decide (o = (f : Int)) && decide (0 ≤ q)) (by
      simp only [bothF, Bool.and_eq_false_iff, decide_eq_false_iff_not] at hb
      simp only [Bool.and_eq_false_iff, decide_eq_false_iff_not]
      omega)
    rw [favF, favF, this, fav_cut hk hb f]
theorem cut_N {l : logT} {b d s f : Nat} (hn : LogN l b d s f) {k : Nat} (hk : k < l.2.2.1.n) (hb : bothF l k = false) : LogN (cutL l k) b d s f := by
  have hb' := hb
  simp only [bothF, Bool.and_eq_false_iff, decide_eq_false_iff_not] at hb'
  refine ⟨hn.eb, ?_, ?_, ?_, hn.hb, hn.hd, hn.hs, hn.hf⟩
  · rw [← hn.ed]
    exact cut_cnt hk (p := fun o q => decide (0 ≤ o) && decide (0 ≤ q)) hb
  · rw [← hn.es]
    exact cut_cnt hk (p := fun o q => decide (0 ≤ o) && decide (o = q)) (by
      simp only [Bool.and_eq_false_iff, decide_eq_false_iff_not]
      omega)
  · rw [← hn.ef]
    exact fav_cut hk hb _

theorem verdict_3 (b d : Nat) (o : Int) (s f : Nat) : decide (verdict b d o s f = 3) = exB b d o (chA b d s) := by
  unfold verdict
  cases exB b d o (chA b d s) <;> cases exB b d o (chF b d f) <;> rfl
theorem verdict_2 (b d : Nat) (o : Int) (s f : Nat) (h : exB b d o (chA b d s) = false) : decide (verdict b d o s f = 2) = exB b d o (chF b d f) := by
  unfold verdict
  rw [h]
  cases exB b d o (chF b d f) <;> rfl
theorem verdict_not2 (b d : Nat) (o : Int) (s f : Nat) (h : exB b d o (chA b d s) = true) : decide (verdict b d o s f = 2) = false := by
  unfold verdict
  rw [h]; rfl
theorem verdict_bd (b d : Nat) (o : Int) (s f : Nat) : ¬ (verdict b d o s f < 1) ∧ ¬ (3 < verdict b d o s f) := by
  unfold verdict
  cases exB b d o (chA b d s) <;> cases exB b d o (chF b d f) <;> simp
theorem verdict_more {b d : Nat} (hb : 2 ≤ b ∧ b ≤ 10) (hd : d ≤ 18) {o o' : Int} (ho : 1 ≤ o ∧ o ≤ 1000000) (ho' : 1 ≤ o' ∧ o' ≤ 1000000) (h : o ≤ o') (s f : Nat) (hv : verdict b d o s f = 1) : verdict b d o' s f = 1 := by
  have up : ∀ c, exB b d o' c = true → exB b d o c = true := fun c hc => by
    rw [exB_e hb hd ho'] at hc
    rw [exB_e hb hd ho]
    have := of_decide_eq_true hc
    have := lim_mono (b := b) (d := d) ho.1 h
    exact decide_eq_true (by omega)
  unfold verdict at hv ⊢
  cases h1 : exB b d o (chA b d s) with
  | true => rw [h1] at hv; simp at hv
  | false =>
    cases h2 : exB b d o (chF b d f) with
    | true => rw [h1, h2] at hv; simp at hv
    | false =>
      have a1 : exB b d o' (chA b d s) = false := by
        cases e : exB b d o' (chA b d s) with
        | false => rfl
        | true => rw [up _ e] at h1; cases h1
      have a2 : exB b d o' (chF b d f) = false := by
        cases e : exB b d o' (chF b d f) with
        | false => rfl
        | true => rw [up _ e] at h2; cases h2
      rw [a1, a2]; rfl
theorem fav_odds (l : logT) (o : Int) : ∀ f : Nat, favF (l.1, (o, l.2.2)) f = favF l f
  | 0 => rfl
  | f + 1 => by rw [favF, favF, fav_odds l o f]; rfl
theorem law9' (l : logT) (g out : Int) : M9 (no_index (l, (g, (out, ())))) = some (true, ()) := by
  unfold M9 Q9
  simp only [M33xe, cl_some, known_M]
  by_cases h : l.2.2.1.n ≤ 24
  case neg => simp [h]
  by_cases h2 : l.2.2.2.1.n ≤ 24
  case neg => simp [h2]
  have hs : l.2.2.1.n ≤ 140737488355328 := by omega
  simp only [h, h2, decide_true, Bool.and_self, Bool.not_true, cond_false, M35xe l hs, cl_some]
  cases hb : logB l with
  | false => rfl
  | true =>
  by_cases hg1 : g < 0
  case pos => simp [hg1]
  by_cases hg2 : 1000000 < g
  case pos => simp [hg1, hg2]
  obtain ⟨q1, q2, ho, q4, q5, _⟩ := logB_t hb
  obtain ⟨b, d, s, f, hn⟩ := logN hb
  obtain ⟨hsd, hfd, hdn⟩ := hn.le hb
  have h34 := M34xe l hb hn
  have h37 : M37 (no_index (l, ())) = some ((d : Int), ((s : Int), ((f : Int), ((0 : Int), ())))) := by
    rw [M37xe l hs, hb, cond_true, hn.ed, hn.es, hn.ef]
  have hmn : mn (1000000 : Int) (W (l.2.1 + g)) = min 1000000 (l.2.1 + g) := by
    rw [W_id ⟨by omega, by omega⟩]
    unfold mn; split <;> omega
  have hb' : logB (l.1, (min 1000000 (l.2.1 + g), l.2.2)) = true := by
    unfold logB at hb ⊢
    simp only [Bool.and_eq_true] at hb ⊢
    exact ⟨hb.1, decide_eq_true (by omega), hb.2.2⟩
  have hn' : LogN (l.1, (min 1000000 (l.2.1 + g), l.2.2)) b d s f := ⟨hn.eb, hn.ed, hn.es, (fav_odds l _ _).trans hn.ef, hn.hb, hn.hd, hn.hs, hn.hf⟩
  have h34' := M34xe _ hb' hn'
  have z1 : ¬ ((d : Int) < 0) := by omega
  have z2 : ¬ (((l.2.2.1.n : Nat) : Int) < (d : Int)) := by omega
  have h30 : M30 (no_index (l.1, ((d : Int), (l.2.1, ())))) = some (needA b d l.2.1, (needF b d l.2.1, ((0 : Int), ()))) := by
    rw [hn.eb]; exact M30xe hn.hb hn.hd ho
  have hx := needA_up hn.hb hn.hd ho hsd
  have hy := needF_up hn.hb hn.hd ho hfd
  have hv1 := verdict_bd b d l.2.1 s f
  have hlt : decide ((s : Int) < needA b d l.2.1) = !exB b d l.2.1 (chA b d s) := by
    rw [← hx]
    by_cases e : needA b d l.2.1 ≤ (s : Int)
    · have e' : ¬ ((s : Int) < needA b d l.2.1) := by omega
      simp [e, e']
    · have e' : ((s : Int) < needA b d l.2.1) := by omega
      simp [e, e']
  have hmore := verdict_more hn.hb hn.hd ho (show 1 ≤ min 1000000 (l.2.1 + g) ∧ min 1000000 (l.2.1 + g) ≤ 1000000 by omega) (by omega) s f
  have hw : (decide (verdict b d (min 1000000 (l.2.1 + g)) s f = 1) || !decide (verdict b d l.2.1 s f = 1)) = true := by
    by_cases e : verdict b d l.2.1 s f = 1
    · simp [hmore e]
    · simp [e]
  simp only [hg1, hg2, decide_false, cond_false, h34, h37, cl_some, hmn, h34', z1, z2, h30, decide_true, Bool.not_true, verdict_3, hx, beq_self_eq_true, hv1.1, hv1.2, hlt]
  by_cases o1 : out < 0
  case pos =>
    simp only [o1, decide_true, cond_true]
    cases e : exB b d l.2.1 (chA b d s) with
    | false =>
      simp only [Bool.not_false, cond_true, verdict_2 b d l.2.1 s f e, hy, beq_self_eq_true, Bool.not_true, cond_false]
      revert hw
      cases decide (verdict b d (min 1000000 (l.2.1 + g)) s f = 1) <;> cases decide (verdict b d l.2.1 s f = 1) <;> simp
    | true =>
      simp only [Bool.not_true, cond_false, verdict_not2 b d l.2.1 s f e, beq_self_eq_true]
      revert hw
      cases decide (verdict b d (min 1000000 (l.2.1 + g)) s f = 1) <;> cases decide (verdict b d l.2.1 s f = 1) <;> simp
  by_cases o2 : ((l.2.2.1.n : Nat) : Int) ≤ out
  case pos =>
    simp only [o1, o2, decide_true, decide_false, cond_true, cond_false]
    cases e : exB b d l.2.1 (chA b d s) with
    | false =>
      simp only [Bool.not_false, cond_true, verdict_2 b d l.2.1 s f e, hy, beq_self_eq_true, Bool.not_true, cond_false]
      revert hw
      cases decide (verdict b d (min 1000000 (l.2.1 + g)) s f = 1) <;> cases decide (verdict b d l.2.1 s f = 1) <;> simp
    | true =>
      simp only [Bool.not_true, cond_false, verdict_not2 b d l.2.1 s f e, beq_self_eq_true]
      revert hw
      cases decide (verdict b d (min 1000000 (l.2.1 + g)) s f = 1) <;> cases decide (verdict b d l.2.1 s f = 1) <;> simp
  obtain ⟨k, rfl⟩ : ∃ k : Nat, out = (k : Int) := ⟨out.toNat, by omega⟩
  have hk : k < l.2.2.1.n := by omega
  have hk' : k < l.2.2.2.1.n := by omega
  have w1 : W ((k : Int) + 1) = ((k + 1 : Nat) : Int) := W_nat hk (by omega)
  have t1 : Int.toNat ((k : Int) - 0) = k := by omega
  have t2 : Int.toNat (((l.2.2.1.n : Nat) : Int) - ((k + 1 : Nat) : Int)) = l.2.2.1.n - (k + 1) := by omega
  have t3 : Int.toNat (((l.2.2.2.1.n : Nat) : Int) - ((k + 1 : Nat) : Int)) = l.2.2.2.1.n - (k + 1) := by omega
  have g1 : ((0 : Int) ≤ (0 : Int)) ∧ (((0 : Int) ≤ (k : Int)) ∧ ((k : Int) ≤ ((l.2.2.1.n : Nat) : Int))) := by omega
  have g2 : ((0 : Int) ≤ (0 : Int)) ∧ (((0 : Int) ≤ (k : Int)) ∧ ((k : Int) ≤ ((l.2.2.2.1.n : Nat) : Int))) := by omega
  have g3 : ((0 : Int) ≤ ((k + 1 : Nat) : Int)) ∧ ((((k + 1 : Nat) : Int) ≤ ((l.2.2.1.n : Nat) : Int)) ∧ (((l.2.2.1.n : Nat) : Int) ≤ ((l.2.2.1.n : Nat) : Int))) := by omega
  have g4 : ((0 : Int) ≤ ((k + 1 : Nat) : Int)) ∧ ((((k + 1 : Nat) : Int) ≤ ((l.2.2.2.1.n : Nat) : Int)) ∧ (((l.2.2.2.1.n : Nat) : Int) ≤ ((l.2.2.2.1.n : Nat) : Int))) := by omega
  have g5 : k * 8 ≤ 140737488355328 := by omega
  have g6 : (k + (l.2.2.1.n - (k + 1))) * 8 ≤ 140737488355328 := by omega
  have g7 : (k + (l.2.2.2.1.n - (k + 1))) * 8 ≤ 140737488355328 := by omega
  have hcut : bothF l k = false → M34 (no_index ((l.1, (l.2.1, ((catSl (⟨k, fun i => l.2.2.1.g (i + 0)⟩ : rowI) (⟨l.2.2.1.n - (k + 1), fun i => l.2.2.1.g (i + (k + 1))⟩ : rowI)), ((catSl (⟨k, fun i => l.2.2.2.1.g (i + 0)⟩ : rowI) (⟨l.2.2.2.1.n - (k + 1), fun i => l.2.2.2.1.g (i + (k + 1))⟩ : rowI)), ())))), ())) = some (verdict b d l.2.1 s f, ((0 : Int), ())) := fun hbk =>
    M34xe (cutL l k) (cutL_log hb hk) (cut_N hn hk hbk)
  have hbk : bothF l k = (decide ((0 : Int) ≤ (l.2.2.1.g k).1) && decide ((0 : Int) ≤ (l.2.2.2.1.g k).1)) := rfl
  simp only [o1, o2, decide_false, cond_false, idx_ok hk, idx_ok hk', Int.toNat_natCast, w1, t1, t2, t3, g1, g2, g3, g4, g5, g6, g7, and_self, decide_true, cond_true]
  by_cases p1 : (0 : Int) ≤ (l.2.2.1.g k).1
  · by_cases p2 : (0 : Int) ≤ (l.2.2.2.1.g k).1
    · simp only [p1, p2, decide_true, cond_true]
      cases e : exB b d l.2.1 (chA b d s) with
      | false =>
        simp only [Bool.not_false, cond_true, verdict_2 b d l.2.1 s f e, hy, beq_self_eq_true, Bool.not_true, cond_false]
        revert hw
        cases decide (verdict b d (min 1000000 (l.2.1 + g)) s f = 1) <;> cases decide (verdict b d l.2.1 s f = 1) <;> simp
      | true =>
        simp only [Bool.not_true, cond_false, verdict_not2 b d l.2.1 s f e, beq_self_eq_true]
        revert hw
        cases decide (verdict b d (min 1000000 (l.2.1 + g)) s f = 1) <;> cases decide (verdict b d l.2.1 s f = 1) <;> simp
    · have hc := hcut (by rw [hbk]; simp [p2])
      simp only [p1, p2, decide_true, decide_false, cond_true, cond_false, hc, cl_some]
      cases e : exB b d l.2.1 (chA b d s) with
      | false =>
        simp only [Bool.not_false, cond_true, verdict_2 b d l.2.1 s f e, hy, beq_self_eq_true, Bool.not_true, cond_false]
        revert hw
        cases decide (verdict b d (min 1000000 (l.2.1 + g)) s f = 1) <;> cases decide (verdict b d l.2.1 s f = 1) <;> simp
      | true =>
        simp only [Bool.not_true, cond_false, verdict_not2 b d l.2.1 s f e, beq_self_eq_true]
        revert hw
        cases decide (verdict b d (min 1000000 (l.2.1 + g)) s f = 1) <;> cases decide (verdict b d l.2.1 s f = 1) <;> simp
  · have hc := hcut (by rw [hbk]; simp [p1])
    simp only [p1, decide_true, decide_false, cond_true, cond_false, hc, cl_some]
    cases e : exB b d l.2.1 (chA b d s) with
    | false =>
      simp only [Bool.not_false, cond_true, verdict_2 b d l.2.1 s f e, hy, beq_self_eq_true, Bool.not_true, cond_false]
      revert hw
      cases decide (verdict b d (min 1000000 (l.2.1 + g)) s f = 1) <;> cases decide (verdict b d l.2.1 s f = 1) <;> simp
    | true =>
      simp only [Bool.not_true, cond_false, verdict_not2 b d l.2.1 s f e, beq_self_eq_true]
      revert hw
      cases decide (verdict b d (min 1000000 (l.2.1 + g)) s f = 1) <;> cases decide (verdict b d l.2.1 s f = 1) <;> simp
theorem law9 (x : (a9).den) : M9 x = some (true, ()) := by
  obtain ⟨l, g, out, ⟨⟩⟩ := x
  exact law9' l g out
end Go.Dm

/- WatchHonest. -/
import Derived.Test.YtiapgkbnjpkagaaL8WP18
set_option linter.unusedVariables false
set_option linter.unusedSimpArgs false
namespace Go.Dm
set_option maxRecDepth 100000

theorem iterQ_rel8 {ps : List Pat} {wy : Ways} {step : (patsTy ps).den → RQ ps wy} {N : Nat} {P : Nat → (patsTy ps).den → Prop} {q : (patsTy ps).den → LQ wy} (k : Nat) (hk : k < N)
    (h1 : ∀ j s, j < k → P j s → ∃ s', step s = .next s' ∧ P (j + 1) s') (h2 : ∀ s, P k s → step s = .out (q s)) (s : (patsTy ps).den) (h0 : P 0 s) : ∃ s', P k s' ∧ iterQ step N s = q s' := by
  have : ∀ d j s n, j + d = k → d < n → P j s → ∃ s', P k s' ∧ iterQ step n s = q s' := by
    intro d
    induction d with
    | zero =>
      intro j s n e hn hp
      obtain rfl : j = k := by omega
      cases n with
      | zero => omega
      | succ n => exact ⟨s, hp, by simp only [iterQ, h2 s hp]⟩
    | succ d ih =>
      intro j s n e hn hp
      cases n with
      | zero => omega
      | succ n =>
        obtain ⟨s', e1, hp'⟩ := h1 j s (by omega) hp
        obtain ⟨s'', hp'', e2⟩ := ih (j + 1) s' n (by omega) (by omega) hp'
        exact ⟨s'', hp'', by simp only [iterQ, e1]; exact e2⟩
  exact this k 0 s N (by omega) hk h0

theorem fstD_bd (c : Nat → Bool) (n : Nat) : 0 ≤ fstD c n ∧ fstD c n ≤ n := by
  unfold fstD
  cases h : fstN c n with
  | none => exact ⟨by show (0 : Int) ≤ (n : Int); omega, Int.le_refl _⟩
  | some k =>
    have := (fstN_some h).1
    exact ⟨by show (0 : Int) ≤ (k : Int); omega, by show (k : Int) ≤ (n : Int); omega⟩
theorem lim_nn {b d : Nat} {o : Int} (ho : 1 ≤ o) : 0 ≤ lim b d o := by
  unfold lim
  exact Int.tdiv_nonneg (pwr_nn b d) (by omega)
theorem lim_two {b d : Nat} {o : Int} (ho : 1 ≤ o) : 2 * lim b d o ≤ Int.tdiv (pwr (b : Int) d) o := by
  have h0 := pwr_nn b d
  unfold lim
  rw [Int.tdiv_eq_ediv_of_nonneg h0, Int.tdiv_eq_ediv_of_nonneg h0]
  rw [Int.le_ediv_iff_mul_le (by omega)]
  have := Int.ediv_mul_le (pwr (b : Int) d) (b := 2 * o) (by omega)
  have e : 2 * (pwr (b : Int) d / (2 * o)) * o = pwr (b : Int) d / (2 * o) * (2 * o) := by
    rw [Int.mul_comm 2, Int.mul_assoc]
  rw [e]; exact this
/-- Of these, few are as rare. -/
theorem rare_agr {b m : Nat} (hb : 2 ≤ b ∧ b ≤ 10) (hm : m ≤ 11) {o : Int} (ho : 1 ≤ o ∧ o ≤ 1000000) (p : Nat) : cN (fun n => exB b m o (chA b m (agN b m (dg b p) n))) (b ^ m) ≤ lim b m o := by
  have hbd := fstD_bd (fun n => exB b m o (chA b m n)) (m + 1)
  have hag : ∀ n, agN b m (dg b p) n ≤ m := fun n => kc_le _ _
  have e : (fun n => exB b m o (chA b m (agN b m (dg b p) n))) = fun n => decide (needA b m o ≤ (agN b m (dg b p) n : Int)) := funext fun n => (needA_up hb (by omega) ho (hag n)).symm
  rw [e]
  obtain ⟨a, ha⟩ : ∃ a : Nat, needA b m o = (a : Int) := ⟨(needA b m o).toNat, by have : 0 ≤ needA b m o := hbd.1; omega⟩
  rw [ha]
  by_cases h : a ≤ m
  · have e2 : (fun n => decide ((a : Int) ≤ (agN b m (dg b p) n : Int))) = fun n => decide (a ≤ agN b m (dg b p) n) := funext fun n => decide_eq_decide.2 (by omega)
    rw [e2, count_agr hb hm (by omega) p]
    have hx := needA_up (s := a) hb (by omega) ho h
    rw [ha, decide_eq_true (Int.le_refl _), exB_e hb (by omega) ho] at hx
    exact of_decide_eq_true hx.symm
  · have e2 : (fun n => decide ((a : Int) ≤ (agN b m (dg b p) n : Int))) = fun _ => false := funext fun n => decide_eq_false (by have := hag n; omega)
    rw [e2, cN_no]
    exact lim_nn ho.1
theorem rare_fav {b m : Nat} (hb : 2 ≤ b ∧ b ≤ 10) (hm : m ≤ 11) {o : Int} (ho : 1 ≤ o ∧ o ≤ 1000000) : cN (fun n => exB b m o (chF b m (fvN b m n b))) (b ^ m) ≤ lim b m o := by
  have hbd := fstD_bd (fun n => exB b m o (chF b m n)) (m + 1)
  have hag : ∀ n, fvN b m n b ≤ m := fun n => fvN_le b m n b
  have e : (fun n => exB b m o (chF b m (fvN b m n b))) = fun n => decide (needF b m o ≤ (fvN b m n b : Int)) := funext fun n => (needF_up hb (by omega) ho (hag n)).symm
  rw [e]
  obtain ⟨a, ha⟩ : ∃ a : Nat, needF b m o = (a : Int) := ⟨(needF b m o).toNat, by have : 0 ≤ needF b m o := hbd.1; omega⟩
  rw [ha]
  by_cases h : a ≤ m
  · have e2 : (fun n => decide ((a : Int) ≤ (fvN b m n b : Int))) = fun n => decide (a ≤ fvN b m n b) := funext fun n => decide_eq_decide.2 (by omega)
    rw [e2, count_fav hb hm]
    have hx := needF_up (s := a) hb (by omega) ho h
    rw [ha, decide_eq_true (Int.le_refl _), exB_e hb (by omega) ho] at hx
    exact of_decide_eq_true hx.symm
  · have e2 : (fun n => decide ((a : Int) ≤ (fvN b m n b : Int))) = fun _ => false := funext fun n => decide_eq_false (by have := hag n; omega)
    rw [e2, cN_no]
    exact lim_nn ho.1
def verN (b m : Nat) (o : Int) (p n : Nat) : Int := verdict b m o (agN b m (dg b p) n) (fvN b m n b)
def conN (b m : Nat) (o : Int) (p n : Nat) : Bool := !decide (verN b m o p n = 1)
theorem con_few {b m : Nat} (hb : 2 ≤ b ∧ b ≤ 10) (hm : m ≤ 11) {o : Int} (ho : 1 ≤ o ∧ o ≤ 1000000) (p : Nat) : cN (conN b m o p) (b ^ m) ≤ Int.tdiv ((b ^ m : Nat) : Int) o := by
  have h1 := cN_or (c := conN b m o p) (d := fun n => exB b m o (chA b m (agN b m (dg b p) n))) (e := fun n => exB b m o (chF b m (fvN b m n b))) (fun n h => by
    unfold conN verN verdict at h
    cases h1 : exB b m o (chA b m (agN b m (dg b p) n)) with
    | true => exact .inl rfl
    | false =>
      cases h2 : exB b m o (chF b m (fvN b m n b)) with
      | true => exact .inr rfl
      | false => rw [h1, h2] at h; simp at h) (b ^ m)
  have h2 := rare_agr hb hm ho p
  have h3 := rare_fav hb hm ho
  have h4 := lim_two (b := b) (d := m) ho.1
  rw [← pwr_nat]
  omega
theorem ver_bd (b m : Nat) (o : Int) (p n : Nat) : ¬ (verN b m o p n < 1) ∧ ¬ (3 < verN b m o p n) := by
  unfold verN verdict
  cases exB b m o (chA b m (agN b m (dg b p) n)) <;> cases exB b m o (chF b m (fvN b m n b)) <;> simp
theorem ver_3 {b m : Nat} (hb : 2 ≤ b ∧ b ≤ 10) (hm : m ≤ 11) {o : Int} (ho : 1 ≤ o ∧ o ≤ 1000000) (p n : Nat) : decide (verN b m o p n = 3) = decide (needA b m o ≤ (agN b m (dg b p) n : Int)) := by
  have hag : agN b m (dg b p) n ≤ m := kc_le _ _
  rw [needA_up hb (by omega) ho hag]
  unfold verN verdict
  show decide ((bif exB b m o (chA b m (agN b m (dg b p) n)) then (3 : Int) else _) = 3) = exB b m o (chA b m (agN b m (dg b p) n))
  cases exB b m o (chA b m (agN b m (dg b p) n)) <;> cases exB b m o (chF b m (fvN b m n b)) <;> rfl
theorem law8' (b m o x : Int) : M8 (no_index (b, (m, (o, (x, ()))))) = some (true, ()) := by
  unfold M8 Q8
  rcases M25xe b m with ⟨b, m, rfl, rfl, hb, hm, hp, h25⟩ | h25
  case inr =>
    simp only [h25, cl_some, known_M]
    rfl
  simp only [h25, M31xe, cl_some, known_M, Bool.not_true, cond_false]
  cases hl : inB o 1 1000000 with
  | false => rfl
  | true =>
  have ho := inB_t hl
  by_cases q1 : x < 0
  case pos => simp [q1]
  obtain ⟨x, rfl⟩ : ∃ n : Nat, x = (n : Int) := ⟨x.toNat, by omega⟩
  have h26 := M26xn (b := b) (m := m) (by omega) (by omega)
  simp only [q1, decide_false, cond_false, Bool.not_true, h26, cl_some]
  by_cases q2 : ((b ^ m : Nat) : Int) ≤ (x : Int)
  case pos => simp only [q2, decide_true, cond_true]
  have hbd := fstD_bd (fun n => exB b m o (chA b m n)) (m + 1)
  have hbd1 : 0 ≤ needA b m o := hbd.1
  have hbd2 : needA b m o ≤ ((m + 1 : Nat) : Int) := hbd.2
  have hloop : ∃ lo hi : Int, L8x0 (no_index ((b : Int), ((m : Int), (o, (lstL b m x, ()))))) (no_index ((0 : Int), ((W ((m : Int) + 1)), ((-1 : Int), ((0 : Int), ()))))) = .exit 0 (cN (conN b m o x) (b ^ m), (lo, (hi, ()))) ∧ needA b m o ≤ lo ∧ hi < needA b m o := by
    unfold L8x0
    have := iterQ_rel8 (ps := vs8x0) (wy := wv8x0) (step := S8x0 (no_index ((b : Int), ((m : Int), (o, (lstL b m x, ())))))) (N := big)
      (P := fun j s => ∃ lo hi : Int, s = (cN (conN b m o x) j, (lo, (hi, ((j : Int), ())))) ∧ needA b m o ≤ lo ∧ hi < needA b m o)
      (q := fun s => .exit 0 (s.1, (s.2.1, (s.2.2.1, ())))) (b ^ m) (big_lt (by omega)) ?_ ?_ ((0 : Int), ((W ((m : Int) + 1)), ((-1 : Int), ((0 : Int), ())))) ⟨W ((m : Int) + 1), -1, rfl, by rw [W_id ⟨by omega, by omega⟩]; omega, by omega⟩
    · obtain ⟨s', ⟨lo, hi, rfl, h1, h2⟩, e⟩ := this
      exact ⟨lo, hi, e, h1, h2⟩
    · rintro j s hj ⟨lo, hi, rfl, h1, h2⟩
      have hB := logL_B hb (by omega : m ≤ 18) ho j x
      have h34 : M34 (no_index (((b : Int), (o, (lstL b m j, (lstL b m x, ())))), ())) = some (verN b m o x j, ((0 : Int), ())) := M34xe (logL b m o j x) hB (logL_N hb (by omega) o j x)
      have hN := logL_N hb (by omega : m ≤ 18) o j x
      have h37 : M37 (no_index (((b : Int), (o, (lstL b m j, (lstL b m x, ())))), ())) = some ((m : Int), ((agN b m (dg b x) j : Int), ((fvN b m j b : Int), ((0 : Int), ())))) := by
        have := M37xe (logL b m o j x) (by show (lstL b m j).n ≤ _; rw [lst_n]; omega)
        rw [hB, cond_true, hN.ed, hN.es, hN.ef] at this
        exact this
      have hv := ver_bd b m o x j
      have h3 := ver_3 hb hm ho x j
      have c1 := cN_W (c := conN b m o x) (j := j) (by omega)
      have hc : conN b m o x j = !decide (verN b m o x j = 1) := rfl
      have h27 := M27xe (b := b) (m := m) (n := j) (by omega) (by omega) (by omega)
      unfold S8x0 Z8x0
      simp only [h26, cl_some, lt_ok hj, decide_true, decide_false, cond_true, cond_false, Bool.not_true, h27, h34, h37, hv.1, hv.2, W_nat hj (by omega : b ^ m ≤ 140737488355328), h3]
      by_cases g : needA b m o ≤ (agN b m (dg b x) j : Int)
      · have hlo : needA b m o ≤ mn lo (agN b m (dg b x) j : Int) := by unfold mn; split <;> omega
        cases hcj : decide (verN b m o x j = 1) with
        | true =>
          rw [hc, hcj] at c1
          exact ⟨_, by simp only [Bool.not_true, cond_false, g, decide_true, cond_true]; rfl, mn lo (agN b m (dg b x) j : Int), hi, by rw [← c1]; rfl, hlo, h2⟩
        | false =>
          rw [hc, hcj] at c1
          exact ⟨_, by simp only [Bool.not_false, cond_true, g, decide_true]; rfl, mn lo (agN b m (dg b x) j : Int), hi, by rw [← c1]; rfl, hlo, h2⟩
      · have hhi : mx hi (agN b m (dg b x) j : Int) < needA b m o := by unfold mx; split <;> omega
        cases hcj : decide (verN b m o x j = 1) with
        | true =>
          rw [hc, hcj] at c1
          exact ⟨_, by simp only [Bool.not_true, cond_false, g, decide_false]; rfl, lo, mx hi (agN b m (dg b x) j : Int), by rw [← c1]; rfl, h1, hhi⟩
        | false =>
          rw [hc, hcj] at c1
          exact ⟨_, by simp only [Bool.not_false, cond_true, cond_false, g, decide_false]; rfl, lo, mx hi (agN b m (dg b x) j : Int), by rw [← c1]; rfl, h1, hhi⟩
    · rintro s ⟨lo, hi, rfl, h1, h2⟩
      unfold S8x0 Z8x0
      simp only [h26, cl_some]
      simp
  obtain ⟨lo, hi, hL, h1, h2⟩ := hloop
  have h27 := M27xe (b := b) (m := m) (n := x) (by omega) (by omega) (by omega)
  have hfew := con_few hb hm ho x
  have ho0 : ¬ (o = 0) := by omega
  have hlt : hi < lo := by omega
  have hw : W (Int.tdiv ((b ^ m : Nat) : Int) o) = Int.tdiv ((b ^ m : Nat) : Int) o := by
    have a1 : 0 ≤ Int.tdiv ((b ^ m : Nat) : Int) o := Int.tdiv_nonneg (by omega) (by omega)
    have a2 : Int.tdiv ((b ^ m : Nat) : Int) o ≤ ((b ^ m : Nat) : Int) := by
      rw [Int.tdiv_eq_ediv_of_nonneg (by omega)]
      exact Int.ediv_le_self _ (by omega)
    exact W_id ⟨by omega, by omega⟩
  simp only [q2, decide_false, cond_false, h27, cl_some]
  rw [hL]
  refine (xe8x0e0 _ _ _).trans ?_
  simp only [ho0, decide_false, cond_false, hw, hfew, hlt, decide_true, cond_true]
theorem law8 (x : (a8).den) : M8 x = some (true, ()) := by
  obtain ⟨b, m, o, x, ⟨⟩⟩ := x
  exact law8' b m o x
end Go.Dm

/- Logs of all lists. -/
import Derived.Test.YtiapgkbnjpkagaaL8WP17
set_option linter.unusedVariables false
set_option linter.unusedSimpArgs false
namespace Go.Dm
set_option maxRecDepth 100000

def nq (b n : Nat) : Nat → Nat
  | 0 => n
  | j + 1 => nq b n j / b
theorem nq_shift (b n : Nat) : ∀ j, nq b (n / b) j = nq b n j / b
  | 0 => rfl
  | j + 1 => by rw [nq, nq, nq_shift b n j]
theorem dg_nq (b : Nat) : ∀ (j n : Nat), dg b n j = nq b n j % b
  | 0, n => rfl
  | j + 1, n => by rw [dg, dg_nq b j (n / b), nq_shift]; rfl
theorem nq_le (b n : Nat) : ∀ j, nq b n j ≤ n
  | 0 => Nat.le_refl _
  | j + 1 => Nat.le_trans (Nat.div_le_self _ _) (nq_le b n j)
def lstL (b m n : Nat) : rowI := tab s0L (fun j => ((dg b n j : Int), ())) m
where s0L : rowI := ⟨0, fun i => ((0 : Int), ())⟩
theorem lst_n (b m n : Nat) : (lstL b m n).n = m := tab_n0 rfl
theorem lst_g (b m n : Nat) {j : Nat} (h : j < m) : ((lstL b m n).g j).1 = (dg b n j : Int) := by unfold lstL; rw [tab_g0 rfl h]
theorem M27xe {b m n : Nat} (hb : 2 ≤ b) (hm : m ≤ 18) (hn : n ≤ 2500) : M27 (no_index ((b : Int), ((m : Int), ((n : Int), ())))) = some (lstL b m n, ()) := by
  have : L27x0 (no_index ((b : Int), ((m : Int), ()))) (no_index ((n : Int), ((⟨0, fun i => ((0 : Int), ())⟩ : Sl _), ((0 : Int), ())))) = .exit 0 (lstL b m n, ()) := by
    unfold L27x0
    refine iterQ_steps (ps := vs27x0) (wy := wv27x0) m big (fun j => ((nq b n j : Int), (tab lstL.s0L (fun j => ((dg b n j : Int), ())) j, ((j : Int), ())))) (big_lt (by omega)) (fun j hj => ?_) ?_
    · have e4 : (j + 1) * 8 ≤ 140737488355328 := by omega
      have e0 : ¬ ((b : Int) = 0) := by omega
      have e1 : Int.tmod (nq b n j : Int) (b : Int) = (dg b n j : Int) := by rw [dg_nq]; rfl
      have e2 : W (Int.tdiv (nq b n j : Int) (b : Int)) = (nq b n (j + 1) : Int) := by
        have := nq_le b n (j + 1)
        show W ((nq b n (j + 1) : Nat) : Int) = _
        exact W_id ⟨by omega, by omega⟩
      unfold S27x0 Z27x0
      simp only [lt_ok hj, e0, e1, e2, tab_n0 (s0 := lstL.s0L) rfl, e4, W_nat hj (by omega : m ≤ 140737488355328), decide_true, decide_false, cond_true, cond_false, tab]
      rfl
    · unfold S27x0 Z27x0
      simp [lstL]
  unfold M27 Q27
  exact congrArg (fun (q : LQ wv27x0) => onExit q 0 (fun (u0 : (patsTy (wayP wv27x0 0)).den) => (some u0 : Option (r27).den)) none) this
theorem M25xe (b m : Int) : (∃ bn mn : Nat, b = (bn : Int) ∧ m = (mn : Int) ∧ (2 ≤ bn ∧ bn ≤ 10) ∧ mn ≤ 11 ∧ bn ^ mn ≤ 2500 ∧ M25 (no_index (b, (m, ()))) = some (true, ())) ∨ M25 (no_index (b, (m, ()))) = some (false, ()) := by
  unfold M25 Q25
  simp only [M19xe, cl_some]
  cases h : inB b 2 10 with
  | false => exact .inr rfl
  | true =>
  have h' := inB_t h
  by_cases q1 : 0 ≤ m
  case neg => exact .inr (by simp [q1])
  by_cases q2 : m ≤ 11
  case neg => exact .inr (by simp [q1, q2])
  obtain ⟨bn, rfl⟩ : ∃ n : Nat, b = (n : Int) := ⟨b.toNat, by omega⟩
  obtain ⟨mn, rfl⟩ : ∃ n : Nat, m = (n : Int) := ⟨m.toNat, by omega⟩
  have hp := pwr_le (b := bn) (d := mn) (by omega) (by omega)
  have hq := pwr_nn bn mn
  have hw : W (pwr (bn : Int) mn) = ((bn ^ mn : Nat) : Int) := by rw [W_id ⟨by omega, by omega⟩, pwr_nat]
  simp only [q1, q2, decide_true, cond_true, M26xe (bn : Int) (k := mn) (by omega), cl_some, hw]
  by_cases q3 : ((bn ^ mn : Nat) : Int) ≤ 2500
  · exact .inl ⟨bn, mn, rfl, rfl, by omega, by omega, by omega, by simp only [q3, decide_true]⟩
  · exact .inr (by simp only [q3, decide_false])
theorem M26xn {b m : Nat} (hb : b ≤ 10) (hm : m ≤ 18) : M26 (no_index ((b : Int), ((m : Int), ()))) = some (((b ^ m : Nat) : Int), ()) := by
  have hp := pwr_le (b := b) (d := m) (by omega) (by omega)
  have hq := pwr_nn b m
  rw [M26xe (b : Int) (k := m) (by omega), W_id ⟨by omega, by omega⟩, pwr_nat]
def logL (b m : Nat) (o : Int) (n p : Nat) : logT := ((b : Int), (o, (lstL b m n, (lstL b m p, ()))))
theorem logL_B {b m : Nat} (hb : 2 ≤ b ∧ b ≤ 10) (hm : m ≤ 18) {o : Int} (ho : 1 ≤ o ∧ o ≤ 1000000) (n p : Nat) : logB (logL b m o n p) = true := by
  unfold logB logL
  simp only [lst_n, Bool.and_eq_true, decide_eq_true_eq, decide_true, true_and]
  have hd : ∀ q j, j < m → inB ((lstL b m q).g j).1 (-1) (W ((b : Int) - 1)) = true := fun q j hj => by
    rw [lst_g b m q hj, W_id ⟨by omega, by omega⟩]
    have := dg_lt (b := b) (by omega) q j
    exact decide_eq_true (by omega)
  refine ⟨decide_eq_true (by omega), decide_eq_true ho, hm, all_i fun j hj => ?_⟩
  unfold figC
  show (inB ((lstL b m n).g j).1 _ _ && inB ((lstL b m p).g j).1 _ _) = true
  rw [hd n j hj, hd p j hj]; rfl
theorem mx_nat (x y : Nat) : mx (x : Int) (y : Int) = ((max x y : Nat) : Int) := by
  unfold mx; split <;> omega
def fvN (b m n : Nat) : Nat → Nat
  | 0 => 0
  | f + 1 => max (fvN b m n f) (figN b m f n)
theorem fvN_le (b m n : Nat) : ∀ f, fvN b m n f ≤ m
  | 0 => Nat.zero_le _
  | f + 1 => by
    have := fvN_le b m n f
    have h := kc_le (fun j => decide (dg b n j = f)) m
    rw [fvN]; unfold figN; omega
theorem fvN_all (b m n L : Nat) : ∀ f, (decide (0 < L) && (List.range f).all fun v => decide (figN b m v n < L)) = decide (fvN b m n f < L)
  | 0 => by show (decide (0 < L) && true) = _; rw [Bool.and_true]; rfl
  | f + 1 => by
    rw [List.range_succ, List.all_append, ← Bool.and_assoc, fvN_all b m n L f, fvN]
    by_cases h1 : fvN b m n f < L <;> by_cases h2 : figN b m f n < L <;> simp [h1, h2] <;> omega
theorem fvN_e {b : Nat} (hb : 0 < b) (m n L : Nat) : decide (L ≤ fvN b m n b) = !((List.range b).all fun v => decide (figN b m v n < L)) := by
  have := fvN_all b m n L b
  by_cases h : 0 < L
  · rw [decide_eq_true h, Bool.true_and] at this
    rw [this]
    by_cases q : fvN b m n b < L
    · have q' : ¬ (L ≤ fvN b m n b) := by omega
      simp [q, q']
    · have q' : L ≤ fvN b m n b := by omega
      simp [q']
  · have hL : L = 0 := by omega
    subst hL
    cases h2 : (List.range b).all fun v => decide (figN b m v n < 0) with
    | false => simp
    | true => have := all_t h2 hb; simp at this
theorem kc_all {c : Nat → Bool} : ∀ {n : Nat}, (∀ j, j < n → c j = true) → kc c n = n
  | 0, _ => rfl
  | n + 1, h => by rw [kc, kc_all fun j hj => h j (by omega), h n (by omega)]; rfl
theorem logL_agr {b m : Nat} (hm : m ≤ 18) (o : Int) (n p : Nat) : cntW (agrF (logL b m o n p)) (logL b m o n p).2.2.1.n = (agN b m (dg b p) n : Int) := by
  show cntW _ (lstL b m n).n = _
  rw [lst_n, cntW_kc _ hm]
  unfold agN
  refine congrArg _ (kc_congr fun j hj => ?_)
  show (decide (0 ≤ ((lstL b m n).g j).1) && decide (((lstL b m n).g j).1 = ((lstL b m p).g j).1)) = _
  rw [lst_g b m n hj, lst_g b m p hj]
  by_cases h : dg b n j = dg b p j
  · simp [h]
  · have : ¬ ((dg b n j : Int) = (dg b p j : Int)) := by omega
    simp [h, this]
theorem logL_fav {b m : Nat} (hm : m ≤ 18) (o : Int) (n p : Nat) : ∀ f, favF (logL b m o n p) f = (fvN b m n f : Int)
  | 0 => rfl
  | f + 1 => by
    rw [favF, logL_fav hm o n p f, fvN, ← mx_nat]
    refine congrArg _ ?_
    show cntW _ (lstL b m n).n = _
    rw [lst_n, cntW_kc _ hm]
    unfold figN
    refine congrArg _ (kc_congr fun j hj => ?_)
    show (decide (((lstL b m n).g j).1 = (f : Int)) && decide (0 ≤ ((lstL b m p).g j).1)) = _
    rw [lst_g b m n hj, lst_g b m p hj]
    by_cases h : dg b n j = f
    · simp [h]
    · have : ¬ ((dg b n j : Int) = (f : Int)) := by omega
      simp [h, this]
theorem logL_N {b m : Nat} (hb : 2 ≤ b ∧ b ≤ 10) (hm : m ≤ 18) (o : Int) (n p : Nat) : LogN (logL b m o n p) b m (agN b m (dg b p) n) (fvN b m n b) := by
  have h1 := kc_le (fun j => decide (dg b n j = dg b p j)) m
  have h2 := fvN_le b m n b
  refine ⟨rfl, ?_, logL_agr hm o n p, logL_fav hm o n p b, hb, hm, by unfold agN; omega, by omega⟩
  show cntW _ (lstL b m n).n = _
  rw [lst_n, cntW_kc _ hm, kc_all fun j hj => ?_]
  show (decide (0 ≤ ((lstL b m n).g j).1) && decide (0 ≤ ((lstL b m p).g j).1)) = _
  rw [lst_g b m n hj, lst_g b m p hj]
  simp
theorem count_agr {b m s : Nat} (hb : 2 ≤ b ∧ b ≤ 10) (hm : m ≤ 11) (hs : s ≤ 19) (p : Nat) : cN (fun n => decide (s ≤ agN b m (dg b p) n)) (b ^ m) = chA b m s := by
  rw [agree_all hb hm hs _ (dg_lt (by omega) p), (chA_bd hb (by omega) s).1]
theorem count_fav {b m L : Nat} (hb : 2 ≤ b ∧ b ≤ 10) (hm : m ≤ 11) : cN (fun n => decide (L ≤ fvN b m n b)) (b ^ m) = chF b m L := by
  have : (fun n => decide (L ≤ fvN b m n b)) = fun n => !((List.range b).all fun v => decide (figN b m v n < L)) := funext fun n => fvN_e (by omega) m n L
  rw [this, cN_not, fav_all (by omega) (by omega), (chF_bd hb (by omega) L).1, pwr_nat]

/-! odds that are not told -/
theorem M28xodds (b o o' : Int) (x : rowI × rowI × Unit) : M28 (no_index ((b, (o, x)), ())) = M28 (no_index ((b, (o', x)), ())) := by
  have : S28x0 (no_index ((), ((b, (o, x)), ()))) = S28x0 (no_index ((), ((b, (o', x)), ()))) := funext fun v => rfl
  unfold M28 Q28 L28x0
  show onExit (iterQ (S28x0 ((), ((b, (o, x)), ()))) big _) 0 _ _ = onExit (iterQ (S28x0 ((), ((b, (o', x)), ()))) big _) 0 _ _
  rw [this]
theorem M29xodds (b o o' : Int) (x : rowI × rowI × Unit) : M29 (no_index ((b, (o, x)), ())) = M29 (no_index ((b, (o', x)), ())) := by
  have h1 : ∀ (u : Int) (f : Int), S29x0x0 (no_index ((), (u, (f, ((b, (o, x)), ()))))) = S29x0x0 (no_index ((), (u, (f, ((b, (o', x)), ()))))) := fun u f => funext fun v => rfl
  have : S29x0 (no_index ((), ((b, (o, x)), ()))) = S29x0 (no_index ((), ((b, (o', x)), ()))) := funext fun v => by
    obtain ⟨u, f, ⟨⟩⟩ := v
    unfold S29x0 Z29x0 L29x0x0
    simp only [h1 u f]
  unfold M29 Q29 L29x0
  show onExit (iterQ (S29x0 ((), ((b, (o, x)), ()))) big _) 0 _ _ = onExit (iterQ (S29x0 ((), ((b, (o', x)), ()))) big _) 0 _ _
  rw [this]
theorem M28xl {b m : Nat} (hb : 2 ≤ b ∧ b ≤ 10) (hm : m ≤ 18) (o : Int) (n p : Nat) : M28 (no_index (((b : Int), (o, (lstL b m n, (lstL b m p, ())))), ())) = some ((agN b m (dg b p) n : Int), ()) := by
  rw [M28xodds _ o 1]
  have := M28xe (logL b m 1 n p) (logL_B hb hm (by omega) n p)
  rw [logL_agr hm] at this
  exact this
theorem M29xl {b m : Nat} (hb : 2 ≤ b ∧ b ≤ 10) (hm : m ≤ 18) (o : Int) (n p : Nat) : M29 (no_index (((b : Int), (o, (lstL b m n, (lstL b m p, ())))), ())) = some ((fvN b m n b : Int), ()) := by
  rw [M29xodds _ o 1]
  have := M29xe (logL b m 1 n p) (logL_B hb hm (by omega) n p)
  have hf := logL_fav (b := b) hm 1 n p b
  rw [show (logL b m 1 n p).1.toNat = b from rfl, hf] at this
  exact this
theorem cN_W {c : Nat → Bool} {j : Nat} (hj : j ≤ 2500) : (bif c j then W (cN c j + 1) else cN c j) = cN c (j + 1) := by
  have := cN_bd c j
  rw [cN]
  cases c j with
  | false => simp
  | true => exact W_id ⟨by omega, by omega⟩
theorem law4' (b m l x : Int) : M4 (no_index (b, (m, (l, (x, ()))))) = some (true, ()) := by
  unfold M4 Q4
  rcases M25xe b m with ⟨b, m, rfl, rfl, hb, hm, hp, h25⟩ | h25
  case inr =>
    simp only [h25, cl_some, known_M]
    rfl
  simp only [h25, M21xe, cl_some, known_M, Bool.not_true, cond_false]
  cases hl : inB l 0 19 with
  | false => rfl
  | true =>
  obtain ⟨l, rfl⟩ := nat_of hl (by omega)
  have hl' := inB_t hl
  by_cases q1 : x < 0
  case pos => simp [q1]
  obtain ⟨x, rfl⟩ : ∃ n : Nat, x = (n : Int) := ⟨x.toNat, by omega⟩
  simp only [q1, decide_false, cond_false, Bool.not_true, M26xn (b := b) (m := m) (by omega) (by omega), cl_some]
  by_cases q2 : ((b ^ m : Nat) : Int) ≤ (x : Int)
  case pos => simp only [q2, decide_true, cond_true]
  have h17 : M17 (no_index ((b : Int), ((m : Int), ((l : Int), ())))) = some (chA b m l, ((0 : Int), ())) := by
    have e1 := A61 (b := b) (d := m) (l := l) (by omega) (by omega) (by omega)
    have i1 : inB (b : Int) 2 10 = true := decide_eq_true (by omega)
    have i2 : inB (m : Int) 0 18 = true := decide_eq_true (by omega)
    unfold M17 Q17
    simp only [M59xe, M60xe, i1, i2, hl, e1, cl_some, Bool.and_self, Bool.not_true, cond_false]
  have h18 : M18 (no_index ((b : Int), ((m : Int), ((l : Int), ())))) = some (chF b m l, ((0 : Int), ())) := by
    have e1 := A62 (b := b) (d := m) (l := l) (by omega) (by omega) (by omega)
    have i1 : inB (b : Int) 2 10 = true := decide_eq_true (by omega)
    have i2 : inB (m : Int) 0 18 = true := decide_eq_true (by omega)
    unfold M18 Q18
    simp only [M59xe, M60xe, i1, i2, hl, e1, cl_some, Bool.and_self, Bool.not_true, cond_false]
  have hloop : L4x0 (no_index ((b : Int), ((m : Int), ((l : Int), (chA b m l, (chF b m l, (lstL b m x, ()))))))) (no_index ((0 : Int), ((0 : Int), ((0 : Int), ())))) = .exit 0 (chA b m l, (chF b m l, ())) := by
    rw [← count_agr hb hm (by omega : l ≤ 19) x, ← count_fav (L := l) hb hm]
    unfold L4x0
    refine iterQ_steps (ps := vs4x0) (wy := wv4x0) (b ^ m) big (fun j => (cN (fun n => decide (l ≤ agN b m (dg b x) n)) j, (cN (fun n => decide (l ≤ fvN b m n b)) j, ((j : Int), ())))) (big_lt (by omega)) (fun j hj => ?_) ?_
    · have d1 : decide (((l : Nat) : Int) ≤ ((agN b m (dg b x) j : Nat) : Int)) = decide (l ≤ agN b m (dg b x) j) := decide_eq_decide.2 (by omega)
      have d2 : decide (((l : Nat) : Int) ≤ ((fvN b m j b : Nat) : Int)) = decide (l ≤ fvN b m j b) := decide_eq_decide.2 (by omega)
      have c1 := cN_W (c := fun n => decide (l ≤ agN b m (dg b x) n)) (j := j) (by omega)
      have c2 := cN_W (c := fun n => decide (l ≤ fvN b m n b)) (j := j) (by omega)
      rw [← c1, ← c2]
      unfold S4x0 Z4x0
      simp only [M26xn (b := b) (m := m) (by omega) (by omega), cl_some, lt_ok hj, decide_true, cond_true, M27xe (b := b) (m := m) (n := j) (by omega) (by omega) (by omega), M28xl hb (by omega : m ≤ 18), M29xl hb (by omega : m ≤ 18), d1, d2, W_nat hj (by omega : b ^ m ≤ 140737488355328)]
      cases decide (l ≤ agN b m (dg b x) j) <;> cases decide (l ≤ fvN b m j b) <;> rfl
    · unfold S4x0 Z4x0
      simp only [M26xn (b := b) (m := m) (by omega) (by omega), cl_some]
      simp
  simp only [q2, decide_false, cond_false, h17, h18, cl_some, decide_true, Bool.not_true, M27xe (b := b) (m := m) (n := x) (by omega) (by omega) (by omega)]
  rw [hloop]
  refine (xe4x0e0 _ _ _).trans ?_
  simp only [decide_true, cond_true]
theorem law4 (x : (a4).den) : M4 x = some (true, ()) := by
  obtain ⟨b, m, l, x, ⟨⟩⟩ := x
  exact law4' b m l x
end Go.Dm

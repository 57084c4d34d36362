/- WatchLeast. -/
import Derived.Test.YtiapgkbnjpkagaaL6WP9
set_option linter.unusedVariables false
set_option linter.unusedSimpArgs false
namespace Go.Dm
set_option maxRecDepth 100000

theorem M17xok {b m l : Nat} (hb : 2 ≤ b ∧ b ≤ 10) (hm : m ≤ 18) (hl : l ≤ 19) : M17 (no_index ((b : Int), ((m : Int), ((l : Int), ())))) = some (chA b m l, ((0 : Int), ())) := by
  have i1 : inB (b : Int) 2 10 = true := decide_eq_true (by omega)
  have i2 : inB (m : Int) 0 18 = true := decide_eq_true (by omega)
  have i3 : inB (l : Int) 0 19 = true := decide_eq_true (by omega)
  have e1 := A61 hb hm hl
  unfold M17 Q17
  simp only [M59xe, M60xe, i1, i2, i3, cl_some, Bool.and_self, Bool.not_true, cond_false, e1]
theorem M18xok {b m l : Nat} (hb : 2 ≤ b ∧ b ≤ 10) (hm : m ≤ 18) (hl : l ≤ 19) : M18 (no_index ((b : Int), ((m : Int), ((l : Int), ())))) = some (chF b m l, ((0 : Int), ())) := by
  have i1 : inB (b : Int) 2 10 = true := decide_eq_true (by omega)
  have i2 : inB (m : Int) 0 18 = true := decide_eq_true (by omega)
  have i3 : inB (l : Int) 0 19 = true := decide_eq_true (by omega)
  have e1 := A62 hb hm hl
  unfold M18 Q18
  simp only [M59xe, M60xe, i1, i2, i3, cl_some, Bool.and_self, Bool.not_true, cond_false, e1]
/-- What convicts: so many at least, and none fewer. -/
theorem fstD_k {c : Nat → Bool} {m : Nat} (h0 : c 0 = false) : ∃ k : Nat, fstD c (m + 1) = (k : Int) ∧ 1 ≤ k ∧ k ≤ m + 1 ∧ c (k - 1) = false ∧ (k ≤ m → c k = true) := by
  unfold fstD
  cases h : fstN c (m + 1) with
  | none =>
    have := fstN_none h
    exact ⟨m + 1, rfl, by omega, by omega, this m (by omega), fun q => by omega⟩
  | some k =>
    obtain ⟨k1, k2, k3⟩ := fstN_some h
    have : k ≠ 0 := fun e => by rw [e, h0] at k2; cases k2
    exact ⟨k, rfl, by omega, by omega, k3 (k - 1) (by omega), fun _ => k2⟩
def most (b m : Nat) (o : Int) : Int := W (Int.tdiv (W (pwr (b : Int) m)) (W (2 * o)))
theorem exB_most (b m : Nat) (o c : Int) : decide (c ≤ most b m o) = exB b m o c := rfl
theorem inner6 {b m : Nat} (hb : 2 ≤ b ∧ b ≤ 10) (hm : m ≤ 18) {o : Int} (more a f : Int) (hmo : 0 ≤ more ∧ more ≤ 18) {K : Int} {c : Nat → Int} (hK : K = 0 ∧ c = chA b m ∨ K = 1 ∧ c = chF b m)
    {k : Nat} (k1 : 1 ≤ k) (k2 : k ≤ m + 1) (k3 : exB b m o (c (k - 1)) = false) (k4 : ∀ l, k ≤ l → l ≤ m → exB b m o (c l) = true) :
    L6x0x0 (no_index ((b : Int), ((m : Int), (more, (a, (f, (most b m o, (K, ((k : Int), ()))))))))) (no_index ((0 : Int), ())) = .exit 2 () := by
  have ask : ∀ (l : Nat), l ≤ 19 → ∀ (q1 q2 : RQ vs6x0x0 wv6x0x0),
      (cl (r17).dflt (M17 ((b : Int), ((m : Int), ((l : Int), ())))) (fun u0 => bif (decide (K = (1 : Int))) then cl (r18).dflt (M18 ((b : Int), ((m : Int), ((l : Int), ())))) (fun u1 => bif (!(decide (u1.2.1 = (0 : Int)))) then q1 else bif (!((decide (u1.1 ≤ most b m o)) == true)) then q1 else q2) (.bad) else bif (!(decide (u0.2.1 = (0 : Int)))) then q1 else bif (!((decide (u0.1 ≤ most b m o)) == true)) then q1 else q2) .bad) = (bif exB b m o (c l) then q2 else q1) := fun l hl q1 q2 => by
    have e1 := M17xok (b := b) (m := m) (l := l) hb hm hl
    have e2 := M18xok (b := b) (m := m) (l := l) hb hm hl
    simp only [e1, e2, cl_some]
    rcases hK with ⟨rfl, rfl⟩ | ⟨rfl, rfl⟩
    · simp only [exB_most]
      cases exB b m o (chA b m l) <;> rfl
    · simp only [exB_most]
      cases exB b m o (chF b m l) <;> rfl
  have ask' : ∀ (l : Nat), l ≤ 19 → ∀ (q1 q2 : RQ vs6x0x0 wv6x0x0),
      (cl (r17).dflt (M17 ((b : Int), ((m : Int), ((l : Int), ())))) (fun u0 => bif (decide (K = (1 : Int))) then cl (r18).dflt (M18 ((b : Int), ((m : Int), ((l : Int), ())))) (fun u1 => bif (!(decide (u1.2.1 = (0 : Int)))) then q1 else bif (!((decide (u1.1 ≤ most b m o)) == false)) then q1 else q2) (.bad) else bif (!(decide (u0.2.1 = (0 : Int)))) then q1 else bif (!((decide (u0.1 ≤ most b m o)) == false)) then q1 else q2) .bad) = (bif exB b m o (c l) then q1 else q2) := fun l hl q1 q2 => by
    have e1 := M17xok (b := b) (m := m) (l := l) hb hm hl
    have e2 := M18xok (b := b) (m := m) (l := l) hb hm hl
    simp only [e1, e2, cl_some]
    rcases hK with ⟨rfl, rfl⟩ | ⟨rfl, rfl⟩
    · simp only [exB_most]
      cases exB b m o (chA b m l) <;> rfl
    · simp only [exB_most]
      cases exB b m o (chF b m l) <;> rfl
  have w1 : W ((k : Int) - 1) = ((k - 1 : Nat) : Int) := by rw [W_id ⟨by omega, by omega⟩]; omega
  have w2 : W ((k : Int) + more) = (((k : Int) + more).toNat : Int) := by rw [W_id ⟨by omega, by omega⟩]; omega
  unfold L6x0x0
  refine iterQ_steps (ps := vs6x0x0) 3 big (fun j => ((j : Int), ())) (big_lt (by omega)) (fun j hj => ?_) ?_
  · have hj3 : j = 0 ∨ j = 1 ∨ j = 2 := by omega
    rcases hj3 with e | e | e <;> subst e
    · have a1 : ¬ ((19 : Int) < (k : Int)) := by omega
      show S6x0x0 _ ((0 : Int), ()) = .next ((1 : Int), ())
      unfold S6x0x0 Z6x0x0
      by_cases hkm : k ≤ m
      · have a2 : ¬ ((m : Int) < (k : Int)) := by omega
        have := ask k (by omega) (.out (.ret (false, ()))) (.next ((1 : Int), ()))
        rw [k4 k (Nat.le_refl _) hkm] at this
        refine Eq.trans ?_ this
        show (bif decide ((19 : Int) < (k : Int)) then _ else _) = _
        rw [decide_eq_false a1, cond_false]
        show (bif decide ((m : Int) < (k : Int)) then _ else _) = _
        rw [decide_eq_false a2, cond_false]
        rfl
      · have a2 : ((m : Int) < (k : Int)) := by omega
        show (bif decide ((19 : Int) < (k : Int)) then _ else _) = _
        rw [decide_eq_false a1, cond_false]
        show (bif decide ((m : Int) < (k : Int)) then _ else _) = _
        rw [decide_eq_true a2, cond_true]
        rfl
    · have a1 : ¬ ((19 : Int) < ((k - 1 : Nat) : Int)) := by omega
      show S6x0x0 _ ((1 : Int), ()) = .next ((2 : Int), ())
      have := ask' (k - 1) (by omega) (.out (.ret (false, ()))) (.next ((2 : Int), ()))
      rw [k3] at this
      refine Eq.trans ?_ this
      unfold S6x0x0 Z6x0x0
      show (bif decide ((19 : Int) < W ((k : Int) - 1)) then _ else _) = _
      simp only [w1]
      rw [decide_eq_false a1, cond_false]
      rfl
    · show S6x0x0 _ ((2 : Int), ()) = .next ((3 : Int), ())
      unfold S6x0x0 Z6x0x0
      show (bif decide ((19 : Int) < W ((k : Int) + more)) then _ else _) = _
      simp only [w2]
      by_cases h19 : (19 : Int) < (((k : Int) + more).toNat : Int)
      · rw [decide_eq_true h19, cond_true]; rfl
      · rw [decide_eq_false h19, cond_false]
        show (bif decide ((m : Int) < (((k : Int) + more).toNat : Int)) then _ else _) = _
        by_cases hmm : (m : Int) < (((k : Int) + more).toNat : Int)
        · rw [decide_eq_true hmm, cond_true]; rfl
        · rw [decide_eq_false hmm, cond_false]
          have := ask ((k : Int) + more).toNat (by omega) (.out (.ret (false, ()))) (.next ((3 : Int), ()))
          rw [k4 _ (by omega) (by omega)] at this
          refine Eq.trans ?_ this
          rfl
  · rfl
theorem law6' (b m o more : Int) : M6 (no_index (b, (m, (o, (more, ()))))) = some (true, ()) := by
  unfold M6 Q6
  simp only [M19xe, M20xe, M31xe, cl_some, known_M]
  cases h1 : inB b 2 10 with
  | false => rfl
  | true =>
  cases h2 : inB m 0 18 with
  | false => rfl
  | true =>
  cases h3 : inB o 1 1000000 with
  | false => rfl
  | true =>
  by_cases g1 : more < 0
  case pos => simp [g1]
  by_cases g2 : 18 < more
  case pos => simp [g1, g2]
  obtain ⟨bn, rfl⟩ := nat_of h1 (by omega)
  obtain ⟨mn, rfl⟩ := nat_of h2 (by omega)
  have hb := inB_t h1
  have hm := inB_t h2
  have ho := inB_t h3
  have hb : 2 ≤ bn ∧ bn ≤ 10 := by omega
  have hm : mn ≤ 18 := by omega
  have hlim := lim_lt (b := bn) (d := mn) hb ho
  have z1 : exB bn mn o (chA bn mn 0) = false := by
    rw [exB_e hb hm ho, (chA_bd hb hm 0).1, cha_all (by omega) hm]
    exact decide_eq_false (by omega)
  have z2 : exB bn mn o (chF bn mn 0) = false := by
    rw [exB_e hb hm ho, (chF_bd hb hm 0).1, fw_none (by omega)]
    exact decide_eq_false (by omega)
  obtain ⟨a, a0, a1, a2, a3, a4⟩ := fstD_k (c := fun n => exB bn mn o (chA bn mn n)) (m := mn) z1
  obtain ⟨f, f0, f1, f2, f3, f4⟩ := fstD_k (c := fun n => exB bn mn o (chF bn mn n)) (m := mn) z2
  have a4' : ∀ l, a ≤ l → l ≤ mn → exB bn mn o (chA bn mn l) = true := fun l hal hl => by
    have := a4 (by omega)
    rw [exB_e hb hm ho] at this ⊢
    have := of_decide_eq_true this
    have := chA_mono hb hm hal
    exact decide_eq_true (by omega)
  have f4' : ∀ l, f ≤ l → l ≤ mn → exB bn mn o (chF bn mn l) = true := fun l hal hl => by
    have := f4 (by omega)
    rw [exB_e hb hm ho] at this ⊢
    have := of_decide_eq_true this
    have := chF_mono hb hm hal
    exact decide_eq_true (by omega)
  have h30 := M30xe hb hm ho
  unfold needA needF at h30
  rw [a0, f0] at h30
  have w1 : W ((mn : Int) + 1) = ((mn + 1 : Nat) : Int) := by rw [W_id ⟨by omega, by omega⟩]; rfl
  have n1 : ¬ ((a : Int) < 1) := by omega
  have n2 : ¬ ((f : Int) < 1) := by omega
  have n3 : ¬ (((mn + 1 : Nat) : Int) < (a : Int)) := by omega
  have n4 : ¬ (((mn + 1 : Nat) : Int) < (f : Int)) := by omega
  have n5 : ¬ (W (2 * o) = 0) := by rw [W_id ⟨by omega, by omega⟩]; omega
  simp only [g1, g2, h30, M26xe (bn : Int) (show mn ≤ 140737488355328 by omega), cl_some, w1, n1, n2, n3, n4, n5, decide_false, cond_false, decide_true, Bool.not_true]
  have hl : L6x0 ((bn : Int), ((mn : Int), (more, ((a : Int), ((f : Int), (most bn mn o, ())))))) ((0 : Int), ()) = .exit 0 () := by
    unfold L6x0
    refine iterQ_steps (ps := vs6x0) 2 big (fun j => ((j : Int), ())) (big_lt (by omega)) (fun j hj => ?_) ?_
    · have hj2 : j = 0 ∨ j = 1 := by omega
      rcases hj2 with e | e <;> subst e
      · have := inner6 (o := o) hb hm more (a : Int) (f : Int) (by omega) (.inl ⟨rfl, rfl⟩) a1 a2 a3 a4'
        show S6x0 _ ((0 : Int), ()) = .next ((1 : Int), ())
        unfold S6x0 Z6x0
        show onExit (L6x0x0 ((bn : Int), ((mn : Int), (more, ((a : Int), ((f : Int), (most bn mn o, ((0 : Int), ((a : Int), ())))))))) ((0 : Int), ())) 2 (fun _ => (RQ.next ((1 : Int), ()) : RQ vs6x0 wv6x0)) (onRet (L6x0x0 ((bn : Int), ((mn : Int), (more, ((a : Int), ((f : Int), (most bn mn o, ((0 : Int), ((a : Int), ())))))))) ((0 : Int), ())) (fun u5 => RQ.out (LQ.ret u5)) RQ.bad) = _
        rw [this]
        rfl
      · have := inner6 (o := o) hb hm more (a : Int) (f : Int) (by omega) (.inr ⟨rfl, rfl⟩) f1 f2 f3 f4'
        show S6x0 _ ((1 : Int), ()) = .next ((2 : Int), ())
        unfold S6x0 Z6x0
        show onExit (L6x0x0 ((bn : Int), ((mn : Int), (more, ((a : Int), ((f : Int), (most bn mn o, ((1 : Int), ((f : Int), ())))))))) ((0 : Int), ())) 2 (fun _ => (RQ.next ((2 : Int), ()) : RQ vs6x0 wv6x0)) (onRet (L6x0x0 ((bn : Int), ((mn : Int), (more, ((a : Int), ((f : Int), (most bn mn o, ((1 : Int), ((f : Int), ())))))))) ((0 : Int), ())) (fun u5 => RQ.out (LQ.ret u5)) RQ.bad) = _
        rw [this]
        rfl
    · rfl
  refine (congrArg (fun q => onExit q 0 _ (onRet q _ _)) hl).trans ?_
  rfl
theorem law6 (x : (a6).den) : M6 x = some (true, ()) := by
  obtain ⟨b, m, o, more, ⟨⟩⟩ := x
  exact law6' b m o more
end Go.Dm

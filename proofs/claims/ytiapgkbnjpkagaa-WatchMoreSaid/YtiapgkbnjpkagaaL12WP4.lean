/- Whatever is true, the days lie within their bounds. -/
import Derived.Test.YtiapgkbnjpkagaaL12WP3
set_option linter.unusedVariables false
set_option linter.unusedSimpArgs false
namespace Go.Dm
set_option maxRecDepth 100000

theorem stay_bd {r : wrT} {o : rowI} (hr : roundB r = true) (h : orderB r o = true) {j : Nat} (hj : j < o.n) : 0 ≤ (r.2.1.g (o.g j).1.toNat).1 ∧ (r.2.1.g (o.g j).1.toNat).1 ≤ 10 := by
  have h1 := order_bd hr h hj
  simp only [roundB, Bool.and_eq_true] at hr
  have := all_t hr.2.2.2.1 (j := (o.g j).1.toNat) (by omega)
  simp only [staC, Bool.and_eq_true] at this
  exact inB_t this.1
theorem start_bd {r : wrT} (hr : roundB r = true) : 0 ≤ r.1 ∧ r.1 ≤ 400 := by
  simp only [roundB, Bool.and_eq_true] at hr
  exact inB_t hr.1
theorem st_bd {r : wrT} {o : rowI} (hr : roundB r = true) (h : orderB r o = true) (hs : o.n ≤ 10) {l : Nat → Int} (hl : ∀ j, j < o.n → 0 ≤ l j ∧ l j ≤ 60) : ∀ {n : Nat}, n ≤ o.n → 0 ≤ st r o l n ∧ st r o l n ≤ 400 + 70 * n
  | 0, _ => by have := start_bd hr; simp only [st]; omega
  | n + 1, hn => by
    have ih := st_bd hr h hs hl (n := n) (by omega)
    have h1 := hl n (by omega)
    have h2 := stay_bd hr h (j := n) (by omega)
    simp only [st]
    rw [W_id (n := st r o l n + l n) ⟨by omega, by omega⟩, W_id ⟨by omega, by omega⟩]
    omega
theorem st_mono {r : wrT} {o : rowI} (hr : roundB r = true) (h : orderB r o = true) (hs : o.n ≤ 10) {l l' : Nat → Int} (hl : ∀ j, j < o.n → 0 ≤ l j ∧ l j ≤ 60) (hl' : ∀ j, j < o.n → 0 ≤ l' j ∧ l' j ≤ 60) (hm : ∀ j, j < o.n → l j ≤ l' j) : ∀ {n : Nat}, n ≤ o.n → st r o l n ≤ st r o l' n
  | 0, _ => Int.le_refl _
  | n + 1, hn => by
    have ih := st_mono hr h hs hl hl' hm (n := n) (by omega)
    have b1 := st_bd hr h hs hl (n := n) (by omega)
    have b2 := st_bd hr h hs hl' (n := n) (by omega)
    have h1 := hl n (by omega)
    have h1' := hl' n (by omega)
    have h2 := stay_bd hr h (j := n) (by omega)
    have h3 := hm n (by omega)
    simp only [st]
    rw [W_id (n := st r o l n + l n) ⟨by omega, by omega⟩, W_id (n := st r o l' n + l' n) ⟨by omega, by omega⟩, W_id ⟨by omega, by omega⟩, W_id ⟨by omega, by omega⟩]
    omega
theorem arr_mono {r : wrT} {o : rowI} (hr : roundB r = true) (h : orderB r o = true) (hs : o.n ≤ 10) {l l' : Nat → Int} (hl : ∀ j, j < o.n → 0 ≤ l j ∧ l j ≤ 60) (hl' : ∀ j, j < o.n → 0 ≤ l' j ∧ l' j ≤ 60) (hm : ∀ j, j < o.n → l j ≤ l' j) {j : Nat} (hj : j < o.n) : arr r o l j ≤ arr r o l' j := by
  have ih := st_mono hr h hs hl hl' hm (n := j) (by omega)
  have b1 := st_bd hr h hs hl (n := j) (by omega)
  have b2 := st_bd hr h hs hl' (n := j) (by omega)
  have h1 := hl j hj
  have h1' := hl' j hj
  have h3 := hm j hj
  unfold arr
  rw [W_id ⟨by omega, by omega⟩, W_id ⟨by omega, by omega⟩]
  omega
theorem low_bd {r : wrT} {o : rowI} (hr : roundB r = true) (h : orderB r o = true) (j : Nat) (hj : j < o.n) : 0 ≤ lowL r o j ∧ lowL r o j ≤ 60 := by
  have := road_bd hr h hj; unfold lowL; omega
theorem high_bd {r : wrT} {o : rowI} (hr : roundB r = true) (h : orderB r o = true) (j : Nat) (hj : j < o.n) : 0 ≤ highL r o j ∧ highL r o j ≤ 60 := by
  have := road_bd hr h hj; unfold highL; omega
theorem low_high {r : wrT} {o : rowI} (hr : roundB r = true) (h : orderB r o = true) (j : Nat) (hj : j < o.n) : lowL r o j ≤ highL r o j := by
  have := road_bd hr h hj; unfold highL lowL; omega

theorem legs_low {r : wrT} {o : rowI} (hr : roundB r = true) (h : orderB r o = true) : legsB r o (lowR r o) = true := by
  simp only [legsB, lowR_n, decide_true, Bool.true_and]
  refine all_i fun j hj => ?_
  have := road_bd hr h hj
  unfold legC inB
  rw [lowR_g r o j hj]
  exact decide_eq_true ⟨Int.le_refl _, this.2.1⟩
theorem legs_high {r : wrT} {o : rowI} (hr : roundB r = true) (h : orderB r o = true) : legsB r o (highR r o) = true := by
  simp only [legsB, highR_n, decide_true, Bool.true_and]
  refine all_i fun j hj => ?_
  have := road_bd hr h hj
  unfold legC inB
  rw [highR_g r o j hj]
  exact decide_eq_true ⟨this.2.1, Int.le_refl _⟩
theorem M53xg {r : wrT} {o l : rowI} (h : smallR r) (ho : o.n ≤ 10) (hr : roundB r = true) (hq : orderB r o = true) (hl : legsB r o l = true) {g : Nat → Int} (hg : ∀ j, j < o.n → (l.g j).1 = g j) :
    M53 (no_index (r, (o, (l, ())))) = some (days r o g, (st r o g o.n, ((0 : Int), ()))) := by
  have hn : l.n = o.n := by simp only [legsB, Bool.and_eq_true, decide_eq_true_eq] at hl; exact hl.1
  rw [M53xe h ho (by omega), hr, hq, hl, st_congr hg]
  exact congrArg (fun q => some (q, (st r o g o.n, ((0 : Int), ())))) (days_congr hg)

def lateF (r : wrT) (o : rowI) (j : Nat) : Bool := (List.range j).any (lateC r o)
theorem lateF_s (r : wrT) (o : rowI) (j : Nat) : lateF r o (j + 1) = (lateF r o j || lateC r o j) := by
  unfold lateF
  rw [List.range_succ, List.any_append]
  simp
theorem lateF_sure (r : wrT) (o : rowI) : lateF r o o.n = !sureB r o := by
  unfold lateF sureB
  rw [List.any_eq_not_all_not]
theorem law15' (r : wrT) (o l : rowI) : M15 (no_index (r, (o, (l, ())))) = some (true, ()) := by
  unfold M15 Q15
  simp only [M38xe, cl_some, known_M]
  cases hb : briefB r with
  | false => rfl
  | true =>
  have h := briefB_t hb
  by_cases ho : o.n ≤ 10
  case neg =>
    have e1 : ((10 : Int) < ((o.n : Nat) : Int)) := by omega
    simp [e1]
  by_cases hl : l.n ≤ 10
  case neg =>
    have e1 : ¬ ((10 : Int) < ((o.n : Nat) : Int)) := by omega
    have e2 : ((10 : Int) < ((l.n : Nat) : Int)) := by omega
    simp [e1, e2]
  have e1 : ¬ ((10 : Int) < ((o.n : Nat) : Int)) := by omega
  have e2 : ¬ ((10 : Int) < ((l.n : Nat) : Int)) := by omega
  simp only [e1, e2, decide_false, cond_false, Bool.not_true, M39xe h, M46xe r o (by omega), cl_some]
  cases hr : roundB r with
  | false => rfl
  | true =>
  cases hq : orderB r o with
  | false => rfl
  | true =>
  simp only [M54xe hr hq ho, cl_some]
  cases hc : legsB r o l with
  | false => rfl
  | true =>
  have hlg : ∀ j, j < o.n → lowL r o j ≤ (l.g j).1 ∧ (l.g j).1 ≤ highL r o j := fun j hj => by
    have hc' := hc
    simp only [legsB, Bool.and_eq_true] at hc'
    exact inB_t (all_t hc'.2 hj)
  have hlb : ∀ j, j < o.n → 0 ≤ (l.g j).1 ∧ (l.g j).1 ≤ 60 := fun j hj => by
    have := hlg j hj; have := low_bd hr hq j hj; have := high_bd hr hq j hj; omega
  have hlow := low_bd hr hq
  have hhigh := high_bd hr hq
  have a1 := fun {j : Nat} (hj : j < o.n) => arr_mono hr hq ho hlow hlb (fun j hj => (hlg j hj).1) hj
  have a2 := fun {j : Nat} (hj : j < o.n) => arr_mono hr hq ho hlb hhigh (fun j hj => (hlg j hj).2) hj
  have s1 := st_mono hr hq ho hlow hlb (fun j hj => (hlg j hj).1) (Nat.le_refl o.n)
  have s2 := st_mono hr hq ho hlb hhigh (fun j hj => (hlg j hj).2) (Nat.le_refl o.n)
  simp only [M53xg h ho hr hq hc (g := fun j => (l.g j).1) (fun _ _ => rfl), M53xg h ho hr hq (legs_low hr hq) (lowR_g r o), M53xg h ho hr hq (legs_high hr hq) (highR_g r o), M49xe h ho, M47xe h ho, M56xl hr hq ho, M56xh hr hq ho, hr, hq, cl_some, Bool.and_self, cond_true, days_n, spansR_n, decide_true, Bool.not_true, cond_false]
  have n1 : ¬ (st r o (fun j => (l.g j).1) o.n < st r o (lowL r o) o.n) := by omega
  have n2 : ¬ (st r o (highL r o) o.n < st r o (fun j => (l.g j).1) o.n) := by omega
  simp only [n1, n2, decide_false, cond_false]
  have : L15x0 (no_index (o, ((), (days r o (fun j => (l.g j).1), (spansR r o, (days r o (lowL r o), (days r o (highL r o), (sureB r o, (((o.n : Nat) : Int), (r, ())))))))))) (no_index (false, ((0 : Int), ()))) = .exit 0 (lateF r o o.n, ()) := by
    unfold L15x0
    refine iterQ_steps (ps := vs15x0) o.n big (fun j => (lateF r o j, ((j : Int), ()))) (big_lt (by omega)) (fun j hj => ?_) ?_
    · have h1 := order_bd hr hq hj
      have e3 : ((0 : Int) ≤ (o.g j).1 ∧ (o.g j).1 < ((r.2.1.n : Nat) : Int)) := ⟨h1.1, h1.2.1⟩
      have m1 : ¬ (arr r o (fun j => (l.g j).1) j < arr r o (lowL r o) j) := by have := a1 hj; omega
      have m2 : ¬ (arr r o (highL r o) j < arr r o (fun j => (l.g j).1) j) := by have := a2 hj; omega
      unfold S15x0 Z15x0
      simp only [lt_ok hj, idx_ok hj, e3, days_n, days_g r o _ hj, spansR_n, spansR_g r o hj, m1, m2, W_nat hj (by omega : o.n ≤ 140737488355328), decide_true, decide_false, cond_true, cond_false, and_self, Int.toNat_natCast, Bool.and_self, Bool.not_true, lateF_s]
      have hl' : lateC r o j = decide ((r.2.1.g (o.g j).1.toNat).2.1 < arr r o (highL r o) j) := rfl
      cases hsure : sureB r o with
      | false =>
        cases lateF r o j with
        | true => rfl
        | false => rw [hl']; rfl
      | true =>
        have hn := all_t hsure hj
        have hn' : ¬ ((r.2.1.g (o.g j).1.toNat).2.1 < arr r o (highL r o) j) := by
          intro q
          rw [hl', decide_eq_true q] at hn
          cases hn
        have m3 : ¬ ((r.2.1.g (o.g j).1.toNat).2.1 < arr r o (fun j => (l.g j).1) j) := by have := a2 hj; omega
        simp only [m3, decide_false, cond_false, cond_true]
        cases lateF r o j with
        | true => rfl
        | false => rw [hl']; rfl
    · unfold S15x0 Z15x0
      simp
  rw [this, lateF_sure]
  cases sureB r o <;> rfl
theorem law15 (x : (a15).den) : M15 x = some (true, ()) := by
  obtain ⟨r, o, l, ⟨⟩⟩ := x
  exact law15' r o l
end Go.Dm

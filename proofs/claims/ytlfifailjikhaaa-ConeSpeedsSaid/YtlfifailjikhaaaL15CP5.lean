/- When the rule sees a storm first. -/
import Derived.Test.YtlfifailjikhaaaL15CP4
set_option linter.unusedVariables false
set_option linter.unusedSimpArgs false
namespace Go.Dm
set_option maxRecDepth 100000

def loI (w : wT) (d : rowI) (y : prT) : Int := mx (W ((w.2.1.g y.1.toNat).2.1 + (d.g y.1.toNat).1)) (W ((w.2.1.g y.2.1.toNat).2.1 + (d.g y.2.1.toNat).1))
def hiI (w : wT) (y : prT) : Int := W (mx (w.2.1.g y.1.toNat).2.1 (w.2.1.g y.2.1.toNat).2.1 + w.2.2.2.2.2.2.1)
def inP (w : wT) (y : prT) : Prop := (0 ≤ y.1 ∧ y.1 < (w.2.1.n : Int)) ∧ (0 ≤ y.2.1 ∧ y.2.1 < (w.2.1.n : Int))
theorem M102xe {w : wT} {d : rowI} (hd : d.n = w.2.1.n) {y : prT} (hy : inP w y) : M102 (no_index (lookK w, (y, (d, ())))) = some (loI w d y, (hiI w y, ())) := by
  obtain ⟨h1, h2⟩ := hy
  unfold M102 Q102
  simp only [lookK, kW, hd, h1, h2, and_self, decide_true, cond_true]
  rfl
theorem mem_row {β : Type} {mk : Nat → Nat → β} {w : wT} {a : Nat} {y : β} : ∀ {b : Nat}, y ∈ rowL mk w a b ↔ ∃ j, j < b ∧ isP w a j = true ∧ y = mk a j
  | 0 => by simp [rowL]
  | b + 1 => by
    simp only [rowL, List.mem_append, mem_row (b := b)]
    constructor
    · rintro (⟨j, h1, h2⟩ | h)
      · exact ⟨j, by omega, h2⟩
      · cases hp : isP w a b with
        | true => rw [hp] at h; exact ⟨b, by omega, hp, by simpa using h⟩
        | false => rw [hp] at h; simp at h
    · rintro ⟨j, h1, h2, h3⟩
      by_cases e : j = b
      · subst e; right; rw [h2]; simpa using h3
      · exact .inl ⟨j, by omega, h2, h3⟩
theorem mem_all {β : Type} {mk : Nat → Nat → β} {w : wT} {y : β} : ∀ {a : Nat}, y ∈ allL mk w a ↔ ∃ i j, i < a ∧ j < w.2.1.n ∧ isP w i j = true ∧ y = mk i j
  | 0 => by simp [allL]
  | a + 1 => by
    simp only [allL, List.mem_append, mem_all (a := a), mem_row]
    constructor
    · rintro (⟨i, j, h1, h2⟩ | ⟨j, h2⟩)
      · exact ⟨i, j, by omega, h2⟩
      · exact ⟨a, j, by omega, h2⟩
    · rintro ⟨i, j, h1, h2⟩
      by_cases e : i = a
      · subst e; exact .inr ⟨j, h2⟩
      · exact .inl ⟨i, j, by omega, h2⟩
theorem inP_N {w : wT} {i j : Nat} (hi : i < w.2.1.n) (hj : j < w.2.1.n) : inP w (prN i j) := ⟨⟨Int.natCast_nonneg i, by show (i : Int) < _; omega⟩, ⟨Int.natCast_nonneg j, by show (j : Int) < _; omega⟩⟩

/-! the least of some numbers -/
def lst (acc x : Int) : Int := bif decide (acc < 0) then x else bif decide (x < acc) then x else acc
def IsMin (P : Int → Prop) (a : Int) : Prop := (a = -1 ∧ ∀ x, ¬ P x) ∨ (0 ≤ a ∧ P a ∧ ∀ x, P x → a ≤ x)
theorem isMin_lst {P : Int → Prop} {a x : Int} (h : IsMin P a) (hx : 0 ≤ x) : IsMin (fun y => P y ∨ y = x) (lst a x) := by
  unfold lst
  rcases h with ⟨rfl, h⟩ | ⟨h1, h2, h3⟩
  · exact .inr ⟨hx, .inr rfl, fun y hy => by
      rcases hy with hy | hy
      · exact absurd hy (h y)
      · show x ≤ y; omega⟩
  · have : ¬ a < 0 := by omega
    simp only [this, decide_false, cond_false]
    by_cases e : x < a
    · simp only [e, decide_true, cond_true]
      exact .inr ⟨hx, .inr rfl, fun y hy => by
        rcases hy with hy | hy
        · have := h3 y hy; omega
        · omega⟩
    · simp only [e, decide_false, cond_false]
      exact .inr ⟨h1, .inl h2, fun y hy => by
        rcases hy with hy | hy
        · exact h3 y hy
        · omega⟩
theorem isMin_congr {P Q : Int → Prop} {a : Int} (h : ∀ x, P x ↔ Q x) (hp : IsMin P a) : IsMin Q a := by
  have : P = Q := funext fun x => propext (h x)
  rwa [this] at hp
theorem isMin_eq {P Q : Int → Prop} {a b : Int} (hp : IsMin P a) (hq : IsMin Q b) (h1 : ∀ x, P x → ∃ y, y ≤ x ∧ Q y) (h2 : ∀ x, Q x → ∃ y, y ≤ x ∧ P y) : a = b := by
  rcases hp with ⟨rfl, hp⟩ | ⟨p1, p2, p3⟩ <;> rcases hq with ⟨rfl, hq⟩ | ⟨q1, q2, q3⟩
  · rfl
  · obtain ⟨y, _, hy⟩ := h2 b q2
    exact absurd hy (hp y)
  · obtain ⟨y, _, hy⟩ := h1 a p2
    exact absurd hy (hq y)
  · obtain ⟨y, y1, y2⟩ := h1 a p2
    obtain ⟨z, z1, z2⟩ := h2 b q2
    have := q3 y y2
    have := p3 z z2
    omega

/-! the rule -/
def foldA (w : wT) (d : rowI) : Int → List al_eF.den → Int
  | acc, [] => acc
  | acc, it :: l => foldA w d (bif decide (loI w d it.1 < hiI w it.1) then lst acc (loI w d it.1) else acc) l
theorem L96xe {w : wT} {d : rowI} (hd : d.n = w.2.1.n) : ∀ (l : List al_eF.den) (acc : Int), (∀ it ∈ l, inP w it.1) →
    L96x0 (no_index ((), ((), ((), (lookK w, ((d, ()), ((acc, ()), ()))))))) l = .next ((), ((), ((), (lookK w, ((d, ()), ((foldA w d acc l, ()), ()))))))
  | [], acc, _ => rfl
  | it :: l, acc, h => by
    have hi := h it (List.mem_cons_self ..)
    have ih := L96xe hd l (bif decide (loI w d it.1 < hiI w it.1) then lst acc (loI w d it.1) else acc) fun x hx => h x (List.mem_cons_of_mem _ hx)
    have : S96x0 (no_index ((), ((), ((), (lookK w, ((d, ()), ((acc, ()), ()))))))) it = .next ((), ((), ((), (lookK w, ((d, ()), ((bif decide (loI w d it.1 < hiI w it.1) then lst acc (loI w d it.1) else acc, ()), ())))))) := by
      unfold S96x0 Z96x0 lst
      simp only [M102xe hd hi, cl_some]
      cases decide (loI w d it.1 < hiI w it.1) with
      | false => rfl
      | true => cases decide (acc < 0) with
        | true => rfl
        | false => cases decide (loI w d it.1 < acc) <;> rfl
    unfold L96x0 at ih ⊢
    simp only [runAllD, this]
    exact ih
theorem fold_min {w : wT} {d : rowI} : ∀ (l : List al_eF.den) (acc : Int) (P : Int → Prop), (∀ it ∈ l, 0 ≤ loI w d it.1) → IsMin P acc →
    IsMin (fun y => P y ∨ ∃ it, it ∈ l ∧ loI w d it.1 < hiI w it.1 ∧ y = loI w d it.1) (foldA w d acc l)
  | [], acc, P, _, hp => isMin_congr (fun x => by simp) hp
  | it :: l, acc, P, h, hp => by
    have h0 := h it (List.mem_cons_self ..)
    have hl := fun x hx => h x (List.mem_cons_of_mem _ hx)
    unfold foldA
    by_cases e : loI w d it.1 < hiI w it.1
    · simp only [e, decide_true, cond_true]
      refine isMin_congr (fun x => ?_) (fold_min l _ _ hl (isMin_lst hp h0))
      simp only [List.mem_cons, or_assoc]
      constructor
      · rintro (a | a | ⟨i, a, b⟩)
        · exact .inl a
        · exact .inr ⟨it, .inl rfl, e, a⟩
        · exact .inr ⟨i, .inr a, b⟩
      · rintro (a | ⟨i, rfl | a, b⟩)
        · exact .inl a
        · exact .inr (.inl b.2)
        · exact .inr (.inr ⟨i, a, b⟩)
    · simp only [e, decide_false, cond_false]
      refine isMin_congr (fun x => ?_) (fold_min l _ _ hl hp)
      simp only [List.mem_cons]
      constructor
      · rintro (a | ⟨i, a, b⟩)
        · exact .inl a
        · exact .inr ⟨i, .inr a, b⟩
      · rintro (a | ⟨i, rfl | a, b⟩)
        · exact .inl a
        · exact absurd b.1 e
        · exact .inr ⟨i, a, b⟩
/-- When the rule sees a storm first, or -1. -/
def fstR (w : wT) (d : rowI) : Int := foldA w d (-1) (allL itN w w.2.1.n)
theorem all_in {w : wT} : ∀ it ∈ allL itN w w.2.1.n, inP w it.1 := fun it h => by
  obtain ⟨i, j, h1, h2, h3, rfl⟩ := mem_all.1 h
  exact inP_N h1 h2
theorem U96xe {w : wT} (h : w.2.1.n ≤ 140737488355328) {d : rowI} (hd : d.n = w.2.1.n) :
    U96 (no_index (lookK w, (d, ()))) = bif decide (fstR w d < 0) then .pan 125 T66 (((d.n : Nat) : Int), ()) () else .ok (fstR w d, ()) () := by
  unfold U96 Q96
  simp only [items_ok h, cond_true]
  have key : ∀ l : List al_eF.den, l = allL itN w w.2.1.n → L96x0 (no_index ((), ((), ((), (lookK w, ((d, ()), (((-1 : Int), ()), ()))))))) l = .next ((), ((), ((), (lookK w, ((d, ()), ((fstR w d, ()), ())))))) := fun l hl => by
    rw [hl]; exact L96xe hd _ _ all_in
  have k := key _ (items_list w)
  refine (congrArg (fun o => onNext o _ (onRetO o _ _)) k).trans ?_
  rfl
theorem M58xe {w : wT} (h : w.2.1.n ≤ 140737488355328) {d : rowI} (hd : d.n = w.2.1.n) :
    M58 (no_index (lookK w, (d, ()))) = some (bif decide (fstR w d < 0) then ((0 : Int), (false, ())) else (fstR w d, (true, ()))) := by
  unfold M58 Q58
  simp only [U96xe h hd]
  cases decide (fstR w d < 0) <;> rfl
theorem rep_in {w : wT} (hw : watchB w = true) {i : Nat} (hi : i < w.2.1.n) : 0 ≤ (w.2.1.g i).2.1 ∧ (w.2.1.g i).2.1 ≤ 10080 ∧ 0 ≤ (w.2.1.g i).2.2.2.1 ∧ (w.2.1.g i).2.2.2.1 ≤ (w.2.1.g i).2.2.2.2.1 ∧ (w.2.1.g i).2.2.2.2.1 ≤ 2880 := by
  simp only [watchB, Bool.and_eq_true] at hw
  have := all_t hw.2.1 hi
  simp only [repC, Bool.and_eq_true] at this
  have h1 := inB_t this.2.1
  have h2 : 0 ≤ (w.2.1.g i).2.2.2.1 ∧ (w.2.1.g i).2.2.2.1 ≤ (w.2.1.g i).2.2.2.2.1 ∧ (w.2.1.g i).2.2.2.2.1 ≤ 2880 := of_decide_eq_true this.2.2.2.1
  exact ⟨h1.1, h1.2, h2⟩
theorem hold_in {w : wT} (hw : watchB w = true) : 1 ≤ w.2.2.2.2.2.2.1 ∧ w.2.2.2.2.2.2.1 ≤ 2880 := by
  simp only [watchB, numC, Bool.and_eq_true] at hw
  exact inB_t hw.1.2.2.2.2.2.2.1
theorem del_n {w : wT} {d : rowI} (h : delB w d = true) : d.n = w.2.1.n := by
  simp only [delB, Bool.and_eq_true, decide_eq_true_eq] at h
  exact h.1
theorem del_in {w : wT} (hw : watchB w = true) {d : rowI} (h : delB w d = true) {i : Nat} (hi : i < w.2.1.n) : 0 ≤ (d.g i).1 ∧ (d.g i).1 ≤ 2880 := by
  simp only [delB, Bool.and_eq_true] at h
  have := inB_t (all_t h.2 hi)
  have := rep_in hw hi
  omega
def mI (w : wT) (d : rowI) (i : Nat) : Int := W ((w.2.1.g i).2.1 + (d.g i).1)
theorem mI_e {w : wT} (hw : watchB w = true) {d : rowI} (h : delB w d = true) {i : Nat} (hi : i < w.2.1.n) : mI w d i = (w.2.1.g i).2.1 + (d.g i).1 := by
  have h1 := del_in hw h hi
  have h2 := rep_in hw hi
  exact W_id ⟨by omega, by omega⟩
theorem mI_0 {w : wT} (hw : watchB w = true) {d : rowI} (h : delB w d = true) {i : Nat} (hi : i < w.2.1.n) : 0 ≤ mI w d i := by
  rw [mI_e hw h hi]
  have h1 := del_in hw h hi
  have h2 := rep_in hw hi
  omega
theorem lo_N (w : wT) (d : rowI) (i j : Nat) : loI w d (prN i j) = mx (mI w d i) (mI w d j) := rfl
theorem mx_or (a b : Int) : (mx a b = a ∨ mx a b = b) ∧ a ≤ mx a b ∧ b ≤ mx a b := by
  unfold mx
  by_cases h : b > a
  · rw [if_pos h]; omega
  · rw [if_neg h]; omega

/-! the specification -/
def seenAt (w : wT) (d : rowI) (m : Int) (y : prT) : Bool := decide (loI w d y ≤ m) && decide (m < hiI w y)
def seesB (w : wT) (d : rowI) (m : Int) : Bool := !(List.range (refAll w w.2.1.n).n).all fun j => !seenAt w d m ((refAll w w.2.1.n).g j)
theorem ref_mem {w : wT} {j : Nat} (hj : j < (refAll w w.2.1.n).n) : ∃ a b, a < w.2.1.n ∧ b < w.2.1.n ∧ isP w a b = true ∧ (refAll w w.2.1.n).g j = prN a b := by
  have : (refAll w w.2.1.n).g j ∈ (refAll w w.2.1.n).list := List.mem_map.2 ⟨j, by simpa using hj, rfl⟩
  rw [refAll_list] at this
  exact mem_all.1 this
theorem sees_iff {w : wT} {d : rowI} {m : Int} : seesB w d m = true ↔ ∃ i j, i < w.2.1.n ∧ j < w.2.1.n ∧ isP w i j = true ∧ loI w d (prN i j) ≤ m ∧ m < hiI w (prN i j) := by
  unfold seesB
  rw [Bool.not_eq_true', ← Bool.not_eq_true, List.all_eq_true]
  constructor
  · intro h
    refine Classical.byContradiction fun hn => h fun j hj => ?_
    obtain ⟨a, b, h1, h2, h3, h4⟩ := ref_mem (w := w) (j := j) (by simpa using hj)
    rw [h4]
    cases hs : seenAt w d m (prN a b) with
    | false => rfl
    | true =>
      simp only [seenAt, Bool.and_eq_true, decide_eq_true_eq] at hs
      exact absurd ⟨a, b, h1, h2, h3, hs⟩ hn
  · rintro ⟨i, j, h1, h2, h3, h4, h5⟩ h
    have : prN i j ∈ (refAll w w.2.1.n).list := by rw [refAll_list]; exact mem_all.2 ⟨i, j, h1, h2, h3, rfl⟩
    obtain ⟨k, k1, k2⟩ := List.mem_map.1 this
    have := h k k1
    rw [k2] at this
    simp [seenAt, h4, h5] at this
theorem ref_n {w : wT} (hw : watchB w = true) : (refAll w w.2.1.n).n ≤ 81 := Nat.le_trans (refAll_n w _) (Nat.mul_le_mul (small hw).1 (small hw).1)
theorem M40xe {w : wT} (hw : watchB w = true) {d : rowI} (hd : d.n = w.2.1.n) (m : Int) : M40 (no_index (w, (d, (m, ())))) = some (seesB w d m, ()) := by
  have hn := ref_n hw
  have : L40x0 (no_index (d, (m, ((), (refAll w w.2.1.n, (w, ())))))) (no_index ((0 : Int), ())) = bif (List.range (refAll w w.2.1.n).n).all fun j => !seenAt w d m ((refAll w w.2.1.n).g j) then .exit 0 () else .ret (true, ()) := by
    unfold L40x0
    refine iterQ_all (ps := vs40x0) (f := fun j => ((j : Int), ())) (big_lt (by omega)) (fun j hj _ => ?_) fun _ => ?_
    · obtain ⟨a, b, h1, h2, h3, h4⟩ := ref_mem hj
      have hp := inP_N h1 h2
      rw [← h4] at hp
      obtain ⟨p1, p2⟩ := hp
      unfold S40x0 Z40x0
      simp only [lt_ok hj, idx_ok hj, W_nat hj (show (refAll w w.2.1.n).n ≤ _ by omega), hd, p1, p2, decide_true, cond_true, and_self, Int.toNat_natCast]
      show (bif decide (loI w d ((refAll w w.2.1.n).g j) ≤ m) then (bif decide (m < hiI w ((refAll w w.2.1.n).g j)) then _ else _) else _) = _
      unfold seenAt
      cases decide (loI w d ((refAll w w.2.1.n).g j) ≤ m) <;> cases decide (m < hiI w ((refAll w w.2.1.n).g j)) <;> rfl
    · unfold S40x0 Z40x0
      simp only [Int.lt_irrefl, decide_false, cond_false]
  unfold M40 Q40 seesB
  simp only [M37xe hw, cl_some]
  rw [this]
  cases (List.range (refAll w w.2.1.n).n).all fun j => !seenAt w d m ((refAll w w.2.1.n).g j) <;> rfl
def accR (w : wT) (d : rowI) : Nat → Int
  | 0 => -1
  | k + 1 => bif seesB w d (mI w d k) then lst (accR w d k) (mI w d k) else accR w d k
theorem M22xe {w : wT} (hw : watchB w = true) {d : rowI} (hd : d.n = w.2.1.n) : M22 (no_index (w, (d, ()))) = some (accR w d w.2.1.n, ()) := by
  obtain ⟨h1, h2, h3⟩ := small hw
  have : L22x0 (no_index (d, ((), (w, ())))) (no_index ((-1 : Int), ((0 : Int), ()))) = .exit 0 (accR w d w.2.1.n, ()) := by
    unfold L22x0
    refine iterQ_steps (ps := vs22x0) w.2.1.n big (fun k => (accR w d k, ((k : Int), ()))) (big_lt (by omega)) (fun k hk => ?_) ?_
    · unfold S22x0 Z22x0
      simp only [lt_ok hk, idx_ok hk, W_nat hk (show w.2.1.n ≤ _ by omega), hd, decide_true, cond_true, and_self, Int.toNat_natCast, M40xe hw hd, cl_some, accR]
      show (bif seesB w d (mI w d k) then (bif decide (accR w d k < 0) then _ else bif decide (mI w d k < accR w d k) then _ else _) else _) = _
      unfold lst
      cases seesB w d (mI w d k) with
      | false => rfl
      | true => cases decide (accR w d k < 0) with
        | true => rfl
        | false => cases decide (mI w d k < accR w d k) <;> rfl
    · unfold S22x0 Z22x0
      simp only [Int.lt_irrefl, decide_false, cond_false]
  unfold M22 Q22
  rw [this]
  rfl
theorem accR_min {w : wT} (hw : watchB w = true) {d : rowI} (hd : delB w d = true) : ∀ k, k ≤ w.2.1.n → IsMin (fun y => ∃ i, i < k ∧ seesB w d (mI w d i) = true ∧ y = mI w d i) (accR w d k)
  | 0, _ => .inl ⟨rfl, fun x ⟨i, h, _⟩ => by omega⟩
  | k + 1, hk => by
    have ih := accR_min hw hd k (by omega)
    unfold accR
    cases hs : seesB w d (mI w d k) with
    | true =>
      refine isMin_congr (fun x => ?_) (isMin_lst ih (mI_0 hw hd (show k < w.2.1.n by omega)))
      constructor
      · rintro (⟨i, a, b⟩ | a)
        · exact ⟨i, by omega, b⟩
        · exact ⟨k, by omega, hs, a⟩
      · rintro ⟨i, a, b, c⟩
        by_cases e : i = k
        · subst e; exact .inr c
        · exact .inl ⟨i, by omega, b, c⟩
    | false =>
      refine isMin_congr (fun x => ?_) ih
      constructor
      · rintro ⟨i, a, b⟩
        exact ⟨i, by omega, b⟩
      · rintro ⟨i, a, b, c⟩
        by_cases e : i = k
        · subst e; rw [hs] at b; cases b
        · exact ⟨i, by omega, b, c⟩
def SeenP (w : wT) (d : rowI) (y : Int) : Prop := ∃ i j, i < w.2.1.n ∧ j < w.2.1.n ∧ isP w i j = true ∧ loI w d (prN i j) < hiI w (prN i j) ∧ y = loI w d (prN i j)
theorem fstR_min {w : wT} (hw : watchB w = true) {d : rowI} (hd : delB w d = true) : IsMin (SeenP w d) (fstR w d) := by
  refine isMin_congr (fun x => ?_) (fold_min (w := w) (d := d) (allL itN w w.2.1.n) (-1) (fun _ => False) (fun it h => ?_) (.inl ⟨rfl, fun _ => id⟩))
  · simp only [false_or]
    constructor
    · rintro ⟨it, h, h5, h6⟩
      obtain ⟨i, j, h1, h2, h3, rfl⟩ := mem_all.1 h
      exact ⟨i, j, h1, h2, h3, h5, h6⟩
    · rintro ⟨i, j, h1, h2, h3, h5, h6⟩
      exact ⟨itN i j, mem_all.2 ⟨i, j, h1, h2, h3, rfl⟩, h5, h6⟩
  · obtain ⟨i, j, h1, h2, h3, rfl⟩ := mem_all.1 h
    show 0 ≤ mx (mI w d i) (mI w d j)
    have := mx_or (mI w d i) (mI w d j)
    have := mI_0 hw hd h1
    omega
theorem fst_eq {w : wT} (hw : watchB w = true) {d : rowI} (hd : delB w d = true) : accR w d w.2.1.n = fstR w d := by
  refine isMin_eq (accR_min hw hd _ (Nat.le_refl _)) (fstR_min hw hd) ?_ ?_
  · rintro x ⟨k, k1, k2, rfl⟩
    obtain ⟨i, j, h1, h2, h3, h4, h5⟩ := sees_iff.1 k2
    exact ⟨loI w d (prN i j), h4, i, j, h1, h2, h3, by omega, rfl⟩
  · rintro x ⟨i, j, h1, h2, h3, h4, rfl⟩
    have hs : seesB w d (loI w d (prN i j)) = true := sees_iff.2 ⟨i, j, h1, h2, h3, Int.le_refl _, h4⟩
    rcases (mx_or (mI w d i) (mI w d j)).1 with e | e
    · have e' : loI w d (prN i j) = mI w d i := e
      rw [e'] at hs ⊢
      exact ⟨_, Int.le_refl _, i, h1, hs, rfl⟩
    · have e' : loI w d (prN i j) = mI w d j := e
      rw [e'] at hs ⊢
      exact ⟨_, Int.le_refl _, j, h2, hs, rfl⟩
theorem fst_lt {w : wT} (hw : watchB w = true) {d : rowI} (hd : delB w d = true) : fstR w d = -1 ∨ 0 ≤ fstR w d := by
  rcases fstR_min hw hd with h | h
  · exact .inl h.1
  · exact .inr h.1

/-! what is shown -/
theorem M19xe {w : wT} (h1 : w.2.1.n ≤ 140737488355328) (h2 : w.2.2.1.n ≤ 140737488355328) (d : rowI) : M19 (no_index (w, (d, ()))) =
    some (bif !watchB w then ((0 : Int), ((2 : Int), ())) else bif !delB w d then ((0 : Int), ((2 : Int), ())) else bif decide (fstR w d < 0) then ((0 : Int), ((5 : Int), ())) else (fstR w d, ((0 : Int), ()))) := by
  unfold M19 Q19
  simp only [M55xe, cl_some, M56xe h1, M57xe h2 h1]
  cases watchB w with
  | false => rfl
  | true =>
    cases hd : delB w d with
    | false => rfl
    | true =>
      simp only [M58xe h1 (del_n hd), cl_some]
      cases decide (fstR w d < 0) <;> rfl
theorem M3xe (w : wT) (d : rowI) : M3 (no_index (w, (d, ()))) = some (true, ()) := by
  unfold M3 Q3
  simp only [M17xe, cl_some, known_M]
  cases hs : shortB w with
  | false => rfl
  | true =>
  by_cases hn : d.n ≤ 12
  case neg =>
    have : (12 : Int) < (d.n : Int) := by omega
    simp only [this, decide_true, cond_true, Bool.not_true, cond_false]
  have hn' : ¬ (12 : Int) < (d.n : Int) := by omega
  obtain ⟨s1, s2, s3⟩ := shortB_t hs
  simp only [hn', decide_false, M19xe (show w.2.1.n ≤ _ by omega) (show w.2.2.1.n ≤ _ by omega), M20xe hs, M21xe (show w.2.1.n ≤ _ by omega) (show d.n ≤ _ by omega), cl_some, Bool.not_true, cond_false]
  cases hw : watchB w with
  | false => rfl
  | true =>
  cases hd : delB w d with
  | false => rfl
  | true =>
  simp only [M22xe hw (del_n hd), fst_eq hw hd, cl_some, Bool.not_true, cond_false]
  rcases fst_lt hw hd with e | e
  · rw [e]; rfl
  · have h1 : ¬ fstR w d < 0 := by omega
    simp only [h1, e, decide_false, decide_true, cond_false, cond_true]
theorem law3 (x : (a3).den) : M3 x = some (true, ()) := by
  obtain ⟨w, d, ⟨⟩⟩ := x
  exact M3xe w d
end Go.Dm

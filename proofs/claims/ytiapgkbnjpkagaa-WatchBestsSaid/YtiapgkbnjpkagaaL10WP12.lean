/- Orders that extend others; how a search goes. -/
import Derived.Test.YtiapgkbnjpkagaaL10WP3
set_option linter.unusedVariables false
set_option linter.unusedSimpArgs false
namespace Go.Dm
set_option maxRecDepth 100000

abbrev planT : Type := rowI × Int × Unit
theorem iterQ_rel {ps : List Pat} {wy : Ways} {step : (patsTy ps).den → RQ ps wy} {N : Nat} {P : Nat → (patsTy ps).den → Prop} {q : (patsTy ps).den → LQ wy} (k : Nat) (hk : k < N)
    (h1 : ∀ j s, j < k → P j s → ∃ s', step s = .next s' ∧ P (j + 1) s') (h2 : ∀ s, P k s → step s = .out (q s)) (s : (patsTy ps).den) (h0 : P 0 s) : ∃ s', P k s' ∧ iterQ step N s = q s' := by
  have : ∀ d j s n, j + d = k → d < n → P j s → ∃ s', P k s' ∧ iterQ step n s = q s' := by
    intro d
    induction d with
    | zero =>
      intro j s n e hn hp
      obtain rfl : j = k := by omega
      cases n with
      | zero => omega
      | succ n => exact ⟨s, hp, by simp only [iterQ, h2 s hp]⟩
    | succ d ih =>
      intro j s n e hn hp
      cases n with
      | zero => omega
      | succ n =>
        obtain ⟨s', e1, hp'⟩ := h1 j s (by omega) hp
        obtain ⟨s'', hp'', e2⟩ := ih (j + 1) s' n (by omega) (by omega) hp'
        exact ⟨s'', hp'', by simp only [iterQ, e1]; exact e2⟩
  exact this k 0 s N (by omega) hk h0

/-- The one begins the other. -/
def Beg (o p : rowI) : Prop := o.n ≤ p.n ∧ ∀ j, j < o.n → p.g j = o.g j
def Sam (o p : rowI) : Prop := o.n = p.n ∧ ∀ j, j < o.n → p.g j = o.g j
theorem Sam.ext {o p : rowI} (h : Sam o p) : Beg o p := ⟨by have := h.1; omega, h.2⟩
theorem Sam.symm {o p : rowI} (h : Sam o p) : Sam p o := ⟨h.1.symm, fun j hj => (h.2 j (by have := h.1; omega)).symm⟩
theorem Beg.trans {o p q : rowI} (h : Beg o p) (h' : Beg p q) : Beg o q := ⟨Nat.le_trans h.1 h'.1, fun j hj => (h'.2 j (Nat.lt_of_lt_of_le hj h.1)).trans (h.2 j hj)⟩
theorem Sam.trans {o p q : rowI} (h : Sam o p) (h' : Sam p q) : Sam o q := ⟨h.1.trans h'.1, fun j hj => (h'.2 j (by have := h.1; omega)).trans (h.2 j hj)⟩
theorem Beg.newC {o p : rowI} (h : Beg o p) {j : Nat} (hj : j < o.n) : newC p j = newC o j := by
  unfold Go.Dm.newC
  exact all_congr j fun k hk _ => by rw [h.2 j hj, h.2 k (by omega)]
theorem Beg.ordC {r : wrT} {o p : rowI} (h : Beg o p) {j : Nat} (hj : j < o.n) : ordC r p j = ordC r o j := by
  unfold Go.Dm.ordC
  rw [h.newC hj, h.2 j hj]
theorem Beg.order {r : wrT} {o p : rowI} (h : Beg o p) (hp : orderB r p = true) : orderB r o = true :=
  all_i fun j hj => by rw [← h.ordC hj]; exact all_t hp (Nat.lt_of_lt_of_le hj h.1)
theorem Beg.frm {o p : rowI} (h : Beg o p) : ∀ {j : Nat}, j ≤ o.n → frm p j = frm o j
  | 0, _ => rfl
  | j + 1, hj => by rw [frm_s, frm_s, h.2 j (by omega)]
theorem Beg.road {r : wrT} {o p : rowI} (h : Beg o p) {j : Nat} (hj : j < o.n) : road r p j = road r o j := by
  unfold Go.Dm.road
  rw [h.frm (by omega), h.2 j hj]
theorem Beg.st {r : wrT} {o p : rowI} (h : Beg o p) {l l' : Nat → Int} (hl : ∀ j, j < o.n → l j = l' j) : ∀ {j : Nat}, j ≤ o.n → st r p l j = st r o l' j
  | 0, _ => rfl
  | j + 1, hj => by rw [Go.Dm.st, Go.Dm.st, h.st hl (by omega), hl j (by omega), h.2 j (by omega)]
theorem Beg.hi {r : wrT} {o p : rowI} (h : Beg o p) {j : Nat} (hj : j < o.n) : highL r p j = highL r o j := by
  unfold highL; rw [h.road hj]
theorem Beg.late {r : wrT} {o p : rowI} (h : Beg o p) {j : Nat} (hj : j < o.n) : lateC r p j = lateC r o j := by
  unfold lateC arr
  rw [h.2 j hj, h.st (fun i hi => h.hi hi) (Nat.le_of_lt hj), h.hi hj]
theorem Beg.sure {r : wrT} {o p : rowI} (h : Beg o p) (hp : sureB r p = true) : sureB r o = true :=
  all_i fun j hj => by rw [← h.late hj]; exact all_t hp (Nat.lt_of_lt_of_le hj h.1)
def endH (r : wrT) (o : rowI) : Int := st r o (highL r o) o.n
theorem Sam.order {r : wrT} {o p : rowI} (h : Sam o p) : orderB r p = orderB r o := by
  cases e : orderB r o with
  | true => exact h.symm.ext.order e
  | false =>
    cases e' : orderB r p with
    | false => rfl
    | true => rw [h.ext.order e'] at e; cases e
theorem Sam.sure {r : wrT} {o p : rowI} (h : Sam o p) : sureB r p = sureB r o := by
  cases e : sureB r o with
  | true => exact h.symm.ext.sure e
  | false =>
    cases e' : sureB r p with
    | false => rfl
    | true => rw [h.ext.sure e'] at e; cases e
theorem Sam.endH {r : wrT} {o p : rowI} (h : Sam o p) : endH r p = endH r o := by
  unfold Go.Dm.endH
  rw [← h.1]
  exact h.ext.st (fun i hi => h.ext.hi hi) (Nat.le_refl _)

theorem R80xe (o : rowI) (h : o.n ≤ 10) : ∃ o', R80 (no_index (o, ())) = some o' ∧ Sam o o' := by
  have h8 : o.n * 8 ≤ 140737488355328 := by omega
  unfold R80 X80
  simp only [h8, decide_true, cond_true]
  cases hb : Nat.blt 0 o.n with
  | true => exact ⟨o, rfl, rfl, fun _ _ => rfl⟩
  | false =>
    have h0 : o.n = 0 := by
      cases e : o.n with
      | zero => rfl
      | succ n => rw [e] at hb; cases hb
    refine ⟨⟨0, fun _ => Ty.dflt T0⟩, ?_, h0, fun j hj => by omega⟩
    have ha : frOf 3 T0 (some (⟨3, T0, o⟩ : FR)) = some (o : Sl (Ty.den T0)) := rfl
    have hb' : frOf 3 T0 (some (⟨3, T0, (⟨0, fun i => ((0 : Int), ())⟩ : Sl (Ty.den T0))⟩ : FR)) = some (⟨0, fun i => ((0 : Int), ())⟩ : Sl (Ty.den T0)) := rfl
    simp only [cond_false]
    rw [ha, hb']
    show (bif Nat.beq 0 0 && Nat.beq o.n 0 then _ else _) = _
    rw [h0]; rfl

/-! the search -/
def siz : Nat → Nat
  | 0 => 0
  | f + 1 => 1 + 6 * siz f
def sIn (o : rowI) (r : wrT) (all : Sl planT) : (patsTy ps78).den := (o, ((), ((), ((), (r, ((all, ()), (((), ()), ())))))))
def sOut (r : wrT) (all : Sl planT) : GO r78 (objPats ps78) := .ok () (r, ((all, ()), (((), ()), ())))
def Good (r : wrT) (p : planT) : Prop := orderB r p.1 = true ∧ sureB r p.1 = true ∧ p.2.1 = endH r p.1
structure Grow (r : wrT) (all all' : Sl planT) : Prop where
  le : all.n ≤ all'.n
  old : ∀ j, j < all.n → all'.g j = all.g j
  new : ∀ j, all.n ≤ j → j < all'.n → Good r (all'.g j)
theorem Grow.rfl {r : wrT} {a : Sl planT} : Grow r a a := ⟨Nat.le_refl _, fun _ _ => Eq.refl _, fun j h h' => by omega⟩
theorem Grow.trans {r : wrT} {a b c : Sl planT} (h : Grow r a b) (h' : Grow r b c) : Grow r a c :=
  ⟨Nat.le_trans h.le h'.le, fun j hj => (h'.old j (Nat.lt_of_lt_of_le hj h.le)).trans (h.old j hj), fun j h1 h2 => by
    by_cases e : j < b.n
    · rw [h'.old j e]; exact h.new j h1 e
    · exact h'.new j (by omega) h2⟩
def Has (all : Sl planT) (p : rowI) : Prop := ∃ j, j < all.n ∧ Sam (all.g j).1 p
theorem Has.grow {r : wrT} {a b : Sl planT} {p : rowI} (h : Has a p) (g : Grow r a b) : Has b p := by
  obtain ⟨j, h1, h2⟩ := h
  exact ⟨j, Nat.lt_of_lt_of_le h1 g.le, by rw [g.old j h1]; exact h2⟩
def SeaP (r : wrT) (f : Nat) (F : (patsTy ps78).den → GO r78 (objPats ps78)) : Prop :=
  ∀ (o : rowI) (all : Sl planT), orderB r o = true → r.2.1.n < f + o.n → all.n + siz f ≤ 2147483648 →
    ∃ all', F (sIn o r all) = sOut r all' ∧ all'.n ≤ all.n + siz f ∧ Grow r all all' ∧ ∀ p, Beg o p → orderB r p = true → sureB r p = true → Has all' p
theorem any_dec {c : Nat → Bool} {n : Nat} (h : (List.range n).any c = true) : ∃ k, k < n ∧ c k = true := by
  obtain ⟨k, h1, h2⟩ := List.any_eq_true.1 h
  exact ⟨k, by simpa using h1, h2⟩
theorem any_no {c : Nat → Bool} {n : Nat} (h : (List.range n).any c = false) {k : Nat} (hk : k < n) : c k = false := by
  cases e : c k with
  | false => rfl
  | true =>
    have : (List.range n).any c = true := List.any_eq_true.2 ⟨k, by simpa using hk, e⟩
    rw [this] at h; cases h
structure Mid (r : wrT) (o : rowI) (a1 : Sl planT) (f : Nat) (j : Nat) (a : Sl planT) : Prop where
  gr : Grow r a1 a
  sz : a.n ≤ a1.n + j * siz f
  hv : ∀ p, Beg o p → orderB r p = true → sureB r p = true → o.n < p.n → (p.g o.n).1 < (j : Int) → Has a p
theorem round_n {r : wrT} (hr : roundB r = true) : 1 ≤ r.2.1.n ∧ r.2.1.n ≤ 6 := by
  simp only [roundB, Bool.and_eq_true] at hr
  have := inB_t hr.2.1
  omega
theorem search_loop {r : wrT} (hr : roundB r = true) {f : Nat} {F : (patsTy ps78).den → GO r78 (objPats ps78)} (hF : SeaP r f F) {o : rowI} (ho : orderB r o = true) (hf : r.2.1.n < f + 1 + o.n) (a1 : Sl planT) (hs : a1.n + 6 * siz f ≤ 2147483648) :
    ∃ a, L78x0 F (no_index (o, ((), ((), ((), (((r.2.1.n : Nat) : Int), ())))))) (no_index ((0 : Int), (r, ((a1, ()), (((), ()), ()))))) = .exit 0 (r, ((a, ()), (((), ()), ()))) ∧ Mid r o a1 f r.2.1.n a := by
  have hm := round_n hr
  have hon := order_len ho (by omega)
  unfold L78x0
  have := iterQ_rel (ps := vs78x0) (wy := wv78x0) (step := S78x0 F (no_index (o, ((), ((), ((), (((r.2.1.n : Nat) : Int), ()))))))) (N := big)
    (P := fun j s => ∃ a, s = ((j : Int), (r, ((a, ()), (((), ()), ())))) ∧ Mid r o a1 f j a)
    (q := fun s => .exit 0 (s.2.1, (s.2.2.1, (((), ()), ())))) r.2.1.n (big_lt (by omega)) ?_ ?_ ((0 : Int), (r, ((a1, ()), (((), ()), ())))) ⟨a1, rfl, Grow.rfl, by simp, fun p h1 h2 h3 h4 h5 => absurd h5 (by have := (order_bd hr h2 h4).1; omega)⟩
  · obtain ⟨s', ⟨a, rfl, hM⟩, e⟩ := this
    exact ⟨a, e, hM⟩
  · rintro j s hj ⟨a, rfl, hM⟩
    have hmul : j * siz f + siz f ≤ 6 * siz f := by
      have : (j + 1) * siz f ≤ 6 * siz f := Nat.mul_le_mul_right _ (by omega)
      rw [Nat.succ_mul] at this; exact this
    have hsz := hM.sz
    unfold S78x0 Z78x0
    simp only [lt_ok hj, decide_true, cond_true, M81xe o (j : Int) (by omega), cl_some, W_nat hj (by omega : r.2.1.n ≤ 140737488355328)]
    cases hany : (List.range o.n).any (fun k => decide ((j : Int) = (o.g k).1)) with
    | true =>
      refine ⟨_, rfl, a, rfl, hM.gr, by rw [Nat.succ_mul]; omega, fun p h1 h2 h3 h4 h5 => ?_⟩
      obtain ⟨k, k1, k2⟩ := any_dec hany
      have k2 := of_decide_eq_true k2
      by_cases e : (p.g o.n).1 < (j : Int)
      · exact hM.hv p h1 h2 h3 h4 e
      · have e' : (p.g o.n).1 = (j : Int) := by omega
        have := all_t h2 h4
        simp only [ordC, Bool.and_eq_true] at this
        have := all_t this.2 k1
        rw [e', h1.2 k k1, ← k2] at this
        simp at this
    | false =>
      obtain ⟨o', e1, hS⟩ := R80xe o (by omega)
      simp only [cond_false, e1, cl_some]
      have h8 : (o'.n + 1) * 8 ≤ 140737488355328 := by have := hS.1; omega
      have hq : ∀ q : rowI, q = snoc o' ((j : Int), ()) → orderB r q = true ∧ q.n = o.n + 1 ∧ Beg o q ∧ q.g o.n = ((j : Int), ()) := by
        rintro q rfl
        have hx : Beg o (snoc o' ((j : Int), ())) := ⟨by rw [snoc_n]; have := hS.1; omega, fun k hk => by rw [snoc_lt (by have := hS.1; omega)]; exact hS.2 k hk⟩
        have hat : (snoc o' ((j : Int), ())).g o.n = ((j : Int), ()) := by rw [hS.1]; exact snoc_at _ _
        refine ⟨all_i fun k hk => ?_, by rw [snoc_n, ← hS.1], hx, hat⟩
        rw [snoc_n, ← hS.1] at hk
        by_cases e : k < o.n
        · rw [hx.ordC e]; exact all_t ho e
        · obtain rfl : k = o.n := by omega
          unfold ordC newC
          rw [hat]
          have : inB ((j : Int), ()).1 0 (W (((r.2.1.n : Nat) : Int) - 1)) = true := by
            rw [W_id ⟨by omega, by omega⟩]
            exact decide_eq_true (by omega)
          rw [this, Bool.true_and]
          exact all_i fun i hi => by
            have := any_no hany hi
            rw [hx.2 i hi]
            simp only [this, Bool.not_false]
      obtain ⟨q1, q2, q3, q4⟩ := hq _ rfl
      obtain ⟨a', e2, s2, g2, c2⟩ := hF (snoc o' ((j : Int), ())) a q1 (by omega) (by omega)
      have e2' : F (no_index ((catSl o' (⟨1, fun i => List.getD [((j : Int), ())] i ((j : Int), ())⟩ : Sl (Ty.den T0))), ((), ((), ((), (r, ((a, ()), (((), ()), ())))))))) = sOut r a' := e2
      simp only [h8, decide_true, cond_true]
      rw [e2']
      refine ⟨_, rfl, a', rfl, hM.gr.trans g2, by rw [Nat.succ_mul]; omega, fun p h1 h2 h3 h4 h5 => ?_⟩
      by_cases e : (p.g o.n).1 < (j : Int)
      · exact (hM.hv p h1 h2 h3 h4 e).grow g2
      · have e' : (p.g o.n).1 = (j : Int) := by omega
        refine c2 p ⟨by omega, fun k hk => ?_⟩ h2 h3
        by_cases hk' : k < o.n
        · rw [h1.2 k hk', q3.2 k hk']
        · obtain rfl : k = o.n := by omega
          rw [q4, ← e']
  · rintro s ⟨a, rfl, hM⟩
    unfold S78x0 Z78x0
    simp
theorem search_e {r : wrT} (hr : roundB r = true) : ∀ f, SeaP r f (F78 f)
  | 0 => fun o all ho hf hs => by
    have hm := round_n hr
    have := order_len ho (by omega)
    omega
  | f + 1 => fun o all ho hf hs => by
    have hm := round_n hr
    have hon := order_len ho (by omega)
    have hs' : all.n + (1 + 6 * siz f) ≤ 2147483648 := hs
    show ∃ all' : Sl planT, U78 (F78 f) (sIn o r all) = sOut r all' ∧ all'.n ≤ all.n + (1 + 6 * siz f) ∧ Grow r all all' ∧ ∀ p, Beg o p → orderB r p = true → sureB r p = true → Has all' p
    unfold U78 Q78 sIn
    simp only [M79xe hr ho (by omega : o.n ≤ 10), cl_some]
    cases hsu : sureB r o with
    | false => exact ⟨all, rfl, by omega, Grow.rfl, fun p h1 h2 h3 => by rw [h1.sure h3] at hsu; cases hsu⟩
    | true =>
      obtain ⟨o', e1, hS⟩ := R80xe o (by omega)
      have h32 : (all.n + 1) * 32 ≤ 140737488355328 := by omega
      simp only [cond_true, Bool.not_true, cond_false, e1, cl_some, h32, decide_true]
      obtain ⟨a, e2, hM⟩ := search_loop hr (search_e hr f) ho hf (snoc all (o', (endH r o, ()))) (by rw [snoc_n]; omega)
      have hg : Grow r all (snoc all (o', (endH r o, ()))) := ⟨by rw [snoc_n]; omega, fun j hj => snoc_lt hj, fun j h1 h2 => by
        rw [snoc_n] at h2
        obtain rfl : j = all.n := by omega
        rw [snoc_at]
        exact ⟨by rw [hS.order]; exact ho, by rw [hS.sure]; exact hsu, hS.endH.symm⟩⟩
      refine ⟨a, congrArg (fun (q : LQ wv78x0) => onExit q 0 (fun (u5 : (patsTy (wayP wv78x0 0)).den) => (GO.ok () (u5.1, (u5.2.1, (((), ()), ()))) : GO r78 (objPats ps78))) .bad) e2, ?_, hg.trans hM.gr, fun p h1 h2 h3 => ?_⟩
      · have := hM.sz
        rw [snoc_n] at this
        have : r.2.1.n * siz f ≤ 6 * siz f := Nat.mul_le_mul_right _ (by omega)
        omega
      · by_cases e : o.n < p.n
        · exact hM.hv p h1 h2 h3 e (order_bd hr h2 e).2.1
        · refine Has.grow ⟨all.n, by rw [snoc_n]; omega, ?_⟩ hM.gr
          rw [snoc_at]
          exact hS.symm.trans ⟨by have := h1.1; omega, h1.2⟩
end Go.Dm

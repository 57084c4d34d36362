/- Chances, what convicts, verdicts. -/
import Derived.Test.YtiapgkbnjpkagaaL8WP7
set_option linter.unusedVariables false
set_option linter.unusedSimpArgs false
namespace Go.Dm
set_option maxRecDepth 100000

theorem M59xe (b m : Int) : M59 (no_index (b, (m, ()))) = some (inB b 2 10 && inB m 0 18, ()) := by
  unfold M59 Q59
  simp only [M60xe, cl_some]
  cases inB b 2 10 <;> rfl
def chA (b d l : Nat) : Int := W (cha (b : Int) d l)
def chF (b d l : Nat) : Int := W (pwr (b : Int) d - fw l b d)
theorem nat_of {x lo hi : Int} (h : inB x lo hi = true) (h0 : 0 ≤ lo) : ∃ n : Nat, x = (n : Int) := ⟨x.toNat, by have := inB_t h; omega⟩
theorem A61 {b d l : Nat} (hb : 2 ≤ b ∧ b ≤ 10) (hd : d ≤ 18) (hl : l ≤ 19) : M61 (no_index (((b : Int), ((d : Int), ())), ((l : Int), ()))) = some (chA b d l, ()) := M61xe (by omega) hd hl
theorem A23 {b d l : Nat} (hb : 2 ≤ b ∧ b ≤ 10) (hd : d ≤ 18) (hl : l ≤ 19) : M23 (no_index ((b : Int), ((d : Int), ((l : Int), ())))) = some (chA b d l, ()) := M23xe (by omega) hd hl
theorem A62 {b d l : Nat} (hb : 2 ≤ b ∧ b ≤ 10) (hd : d ≤ 18) (hl : l ≤ 19) : M62 (no_index (((b : Int), ((d : Int), ())), ((l : Int), ()))) = some (chF b d l, ()) := M62xe hb.2 hd hl
theorem A24 {b d l : Nat} (hb : 2 ≤ b ∧ b ≤ 10) (hd : d ≤ 18) (hl : l ≤ 19) : M24 (no_index ((b : Int), ((d : Int), ((l : Int), ())))) = some (chF b d l, ()) := M24xe hb.2 hd hl
theorem M21xe (x : Int) : M21 (no_index (x, ())) = some (inB x 0 19, ()) := by unfold M21 Q21; simp only [M63xe, cl_some]

theorem law3' (b m l : Int) : M3 (no_index (b, (m, (l, ())))) = some (true, ()) := by
  unfold M3 Q3 M17 Q17 M18 Q18
  simp only [M59xe, M60xe, M19xe, M20xe, M21xe, cl_some, known_M]
  cases h1 : inB b 2 10 with
  | false => simp
  | true =>
  cases h2 : inB m 0 18 with
  | false => simp
  | true =>
  cases h3 : inB l 0 19 with
  | false => simp
  | true =>
  obtain ⟨bn, rfl⟩ := nat_of h1 (by omega)
  obtain ⟨mn, rfl⟩ := nat_of h2 (by omega)
  obtain ⟨ln, rfl⟩ := nat_of h3 (by omega)
  have h1 := inB_t h1
  have h2 := inB_t h2
  have h3 := inB_t h3
  have e1 := A61 (b := bn) (d := mn) (l := ln) (by omega) (by omega) (by omega)
  have e2 := A62 (b := bn) (d := mn) (l := ln) (by omega) (by omega) (by omega)
  have e3 := A23 (b := bn) (d := mn) (l := ln) (by omega) (by omega) (by omega)
  have e4 := A24 (b := bn) (d := mn) (l := ln) (by omega) (by omega) (by omega)
  simp only [e1, e2, e3, e4, cl_some]
  simp
theorem law3 (x : (a3).den) : M3 x = some (true, ()) := by
  obtain ⟨b, m, l, ⟨⟩⟩ := x
  exact law3' b m l

/-! what convicts -/
def exB (b m : Nat) (o c : Int) : Bool := decide (c ≤ W (Int.tdiv (W (pwr (b : Int) m)) (W (2 * o))))
theorem M72xe {b m : Nat} (hm : m ≤ 18) {o : Int} (ho : 1 ≤ o ∧ o ≤ 1000000) (c : Int) : M72 (no_index (((b : Int), ((m : Int), ())), (c, (o, ())))) = some (exB b m o c, ()) := by
  have hw : ¬ (W (2 * o) = 0) := by rw [W_id ⟨by omega, by omega⟩]; omega
  unfold M72 Q72 exB
  simp only [M95xe (b : Int) hm, cl_some, hw, decide_false, cond_false]
theorem M73xe {b m : Nat} (hm : m ≤ 18) {o : Int} (ho : 1 ≤ o ∧ o ≤ 1000000) (c : Int) : M73 (no_index ((b : Int), ((m : Int), (o, (c, ()))))) = some (exB b m o c, ()) := by
  have hw : ¬ (W (2 * o) = 0) := by rw [W_id ⟨by omega, by omega⟩]; omega
  unfold M73 Q73 exB
  simp only [M26xe (b : Int) (show m ≤ 140737488355328 by omega), cl_some, hw, decide_false, cond_false]
def fstD (c : Nat → Bool) (n : Nat) : Int := match fstN c n with
  | some k => k
  | none => n
theorem M70xe {m : Nat} (hm : m ≤ 18) {F : (Ty.den T0) → Bool × (Ty.den T3)} {c : Nat → Bool} (hF : ∀ n : Nat, n < m + 1 → F ((n : Int), ()) = (true, (c n, ()))) :
    M70 (no_index ((m : Int), (F, ()))) = some (fstD c (m + 1), ()) := by
  have w : W ((m : Int) + 1) = ((m + 1 : Nat) : Int) := by rw [W_id ⟨by omega, by omega⟩]; rfl
  have : L70x0 (no_index ((m : Int), (F, (((m + 1 : Nat) : Int), ())))) (no_index ((0 : Int), ())) = match fstN c (m + 1) with | some k => .ret ((k : Int), ()) | none => .exit 0 () := by
    unfold L70x0
    refine iterQ_find (ps := vs70x0) (f := fun j => ((j : Int), ())) (big_lt (n := m + 1) (by omega)) (fun j hj _ => ?_) fun _ => ?_
    · unfold S70x0 Z70x0
      simp only [lt_ok hj, hF j hj, W_nat hj (by omega : m + 1 ≤ 140737488355328), decide_true, cond_true]
    · unfold S70x0 Z70x0
      simp
  unfold M70 Q70 fstD
  simp only [w, this]
  cases fstN c (m + 1) <;> simp
theorem p61xe {b d l : Nat} (hb : 2 ≤ b ∧ b ≤ 10) (hd : d ≤ 18) (hl : l ≤ 19) : p61 (no_index (((b : Int), ((d : Int), ())), ((l : Int), ()))) = true := by unfold p61; rw [A61 hb hd hl]; rfl
theorem v61xe {b d l : Nat} (hb : 2 ≤ b ∧ b ≤ 10) (hd : d ≤ 18) (hl : l ≤ 19) : v61 (no_index (((b : Int), ((d : Int), ())), ((l : Int), ()))) = (chA b d l, ()) := by unfold v61; rw [A61 hb hd hl]; rfl
theorem p62xe {b d l : Nat} (hb : 2 ≤ b ∧ b ≤ 10) (hd : d ≤ 18) (hl : l ≤ 19) : p62 (no_index (((b : Int), ((d : Int), ())), ((l : Int), ()))) = true := by unfold p62; rw [A62 hb hd hl]; rfl
theorem v62xe {b d l : Nat} (hb : 2 ≤ b ∧ b ≤ 10) (hd : d ≤ 18) (hl : l ≤ 19) : v62 (no_index (((b : Int), ((d : Int), ())), ((l : Int), ()))) = (chF b d l, ()) := by unfold v62; rw [A62 hb hd hl]; rfl
abbrev chanceT : Type := Int × Unit → Bool × Int × Unit
theorem M71xe {b m n : Nat} (hm : m ≤ 18) {o : Int} (ho : 1 ≤ o ∧ o ≤ 1000000) {G : chanceT} {c : Int} (hG : G ((n : Int), ()) = (true, (c, ()))) : M71 (no_index ((n : Int), ((G, ()), (((b : Int), ((m : Int), ())), ((o, ()), ()))))) = some (exB b m o c, ()) := by
  unfold M71 Q71
  simp only [hG, cond_true]
  have := M72xe (b := b) hm ho c
  exact congrArg (fun q => cl _ q (fun u0 => some u0) none) this
theorem p71xe {b m n : Nat} (hm : m ≤ 18) {o : Int} (ho : 1 ≤ o ∧ o ≤ 1000000) {G : chanceT} {c : Int} (hG : G ((n : Int), ()) = (true, (c, ()))) : p71 (no_index ((n : Int), ((G, ()), (((b : Int), ((m : Int), ())), ((o, ()), ()))))) = true := by unfold p71; rw [M71xe hm ho hG]; rfl
theorem v71xe {b m n : Nat} (hm : m ≤ 18) {o : Int} (ho : 1 ≤ o ∧ o ≤ 1000000) {G : chanceT} {c : Int} (hG : G ((n : Int), ()) = (true, (c, ()))) : v71 (no_index ((n : Int), ((G, ()), (((b : Int), ((m : Int), ())), ((o, ()), ()))))) = (exB b m o c, ()) := by unfold v71; rw [M71xe hm ho hG]; rfl
def needA (b m : Nat) (o : Int) : Int := fstD (fun n => exB b m o (chA b m n)) (m + 1)
def needF (b m : Nat) (o : Int) : Int := fstD (fun n => exB b m o (chF b m n)) (m + 1)
theorem M30xe {b m : Nat} (hb : 2 ≤ b ∧ b ≤ 10) (hm : m ≤ 18) {o : Int} (ho : 1 ≤ o ∧ o ≤ 1000000) : M30 (no_index ((b : Int), ((m : Int), (o, ())))) = some (needA b m o, (needF b m o, ((0 : Int), ()))) := by
  have i1 : inB (b : Int) 2 10 = true := decide_eq_true (by omega)
  have i2 : inB (m : Int) 0 18 = true := decide_eq_true (by omega)
  have i3 : inB o 1 1000000 = true := decide_eq_true (by omega)
  have h69 : M69 (no_index (((b : Int), ((m : Int), ())), ())) = some (((fun y1 => ((p61 (((b : Int), ((m : Int), ())), y1)), (v61 (((b : Int), ((m : Int), ())), y1)))), ((fun y1 => ((p62 (((b : Int), ((m : Int), ())), y1)), (v62 (((b : Int), ((m : Int), ())), y1)))), ())), ()) := rfl
  unfold M30 Q30
  simp only [M59xe, M60xe, cl_some, i1, i2, i3, h69, Bool.and_self, Bool.not_true, cond_false]
  have k1 := M70xe hm (F := fun y1 => ((p71 (y1.1, (((fun y1 => ((p61 (((b : Int), ((m : Int), ())), y1)), (v61 (((b : Int), ((m : Int), ())), y1)))), ()), (((b : Int), ((m : Int), ())), ((o, ()), ()))))), (v71 (y1.1, (((fun y1 => ((p61 (((b : Int), ((m : Int), ())), y1)), (v61 (((b : Int), ((m : Int), ())), y1)))), ()), (((b : Int), ((m : Int), ())), ((o, ()), ()))))))) (c := fun n => exB b m o (chA b m n)) (fun n hn => by
    have hG : (fun y1 => ((p61 (((b : Int), ((m : Int), ())), y1)), (v61 (((b : Int), ((m : Int), ())), y1))) : chanceT) ((n : Int), ()) = (true, (chA b m n, ())) := by
      show (p61 _, v61 _) = _
      rw [p61xe hb hm (by omega), v61xe hb hm (by omega)]
    show (p71 _, v71 _) = _
    rw [p71xe hm ho hG, v71xe hm ho hG])
  have k2 := M70xe hm (F := fun y1 => ((p71 (y1.1, (((fun y1 => ((p62 (((b : Int), ((m : Int), ())), y1)), (v62 (((b : Int), ((m : Int), ())), y1)))), ()), (((b : Int), ((m : Int), ())), ((o, ()), ()))))), (v71 (y1.1, (((fun y1 => ((p62 (((b : Int), ((m : Int), ())), y1)), (v62 (((b : Int), ((m : Int), ())), y1)))), ()), (((b : Int), ((m : Int), ())), ((o, ()), ()))))))) (c := fun n => exB b m o (chF b m n)) (fun n hn => by
    have hG : (fun y1 => ((p62 (((b : Int), ((m : Int), ())), y1)), (v62 (((b : Int), ((m : Int), ())), y1))) : chanceT) ((n : Int), ()) = (true, (chF b m n, ())) := by
      show (p62 _, v62 _) = _
      rw [p62xe hb hm (by omega), v62xe hb hm (by omega)]
    show (p71 _, v71 _) = _
    rw [p71xe hm ho hG, v71xe hm ho hG])
  refine (congrArg (fun q => cl _ q _ _) k1).trans ?_
  refine (cl_some _ _ _ _).trans ?_
  refine (congrArg (fun q => cl _ q _ _) k2).trans ?_
  exact (cl_some _ _ _ _).trans rfl
theorem M32xe {b m : Nat} (hb : 2 ≤ b ∧ b ≤ 10) (hm : m ≤ 18) {o : Int} (ho : 1 ≤ o ∧ o ≤ 1000000) : M32 (no_index ((b : Int), ((m : Int), (o, ())))) = some (needA b m o, (needF b m o, ())) := by
  have l0 : L32x0 (no_index ((b : Int), ((m : Int), (o, ((0 : Int), ()))))) (no_index ((0 : Int), ())) = .exit 0 (needA b m o, ()) := by
    have : L32x0 ((b : Int), ((m : Int), (o, ((0 : Int), ())))) ((0 : Int), ()) = match fstN (fun n => exB b m o (chA b m n)) (m + 1) with | some k => .exit 0 ((k : Int), ()) | none => .exit 0 (((m + 1 : Nat) : Int), ()) := by
      unfold L32x0
      refine iterQ_find (ps := vs32x0) (f := fun j => ((j : Int), ())) (big_lt (n := m + 1) (by omega)) (fun j hj _ => ?_) fun _ => ?_
      · have e1 : (j : Int) ≤ (m : Int) := by omega
        unfold S32x0 Z32x0
        simp only [e1, A23 hb hm (show j ≤ 19 by omega), M73xe (b := b) hm ho, cl_some, W_nat hj (by omega : m + 1 ≤ 140737488355328), decide_true, cond_true]
        cases exB b m o (chA b m j) <;> rfl
      · have e1 : ¬ (((m + 1 : Nat) : Int) ≤ (m : Int)) := by omega
        unfold S32x0 Z32x0
        simp only [e1, decide_false, cond_false]
    rw [this]
    unfold needA fstD
    cases fstN (fun n => exB b m o (chA b m n)) (m + 1) <;> rfl
  have l1 : ∀ z : Int, L32x1 (no_index ((b : Int), ((m : Int), (o, (z, ()))))) (no_index ((0 : Int), ())) = .exit 2 (needF b m o, ()) := fun z => by
    have : L32x1 ((b : Int), ((m : Int), (o, (z, ())))) ((0 : Int), ()) = match fstN (fun n => exB b m o (chF b m n)) (m + 1) with | some k => .exit 2 ((k : Int), ()) | none => .exit 2 (((m + 1 : Nat) : Int), ()) := by
      unfold L32x1
      refine iterQ_find (ps := vs32x1) (f := fun j => ((j : Int), ())) (big_lt (n := m + 1) (by omega)) (fun j hj _ => ?_) fun _ => ?_
      · have e1 : (j : Int) ≤ (m : Int) := by omega
        unfold S32x1 Z32x1
        simp only [e1, A24 hb hm (show j ≤ 19 by omega), M73xe (b := b) hm ho, cl_some, W_nat hj (by omega : m + 1 ≤ 140737488355328), decide_true, cond_true]
        cases exB b m o (chF b m j) <;> rfl
      · have e1 : ¬ (((m + 1 : Nat) : Int) ≤ (m : Int)) := by omega
        unfold S32x1 Z32x1
        simp only [e1, decide_false, cond_false]
    rw [this]
    unfold needF fstD
    cases fstN (fun n => exB b m o (chF b m n)) (m + 1) <;> rfl
  unfold M32 Q32
  refine (congrArg (fun q => onExit q 0 _ _) l0).trans ?_
  refine (xe32x0e0 _ _ _).trans ?_
  refine (congrArg (fun q => onExit q 2 _ _) (l1 (needA b m o))).trans ?_
  exact (xe32x1e2 _ _ _).trans rfl
theorem law5' (b m o : Int) : M5 (no_index (b, (m, (o, ())))) = some (true, ()) := by
  unfold M5 Q5
  simp only [M19xe, M20xe, M31xe, cl_some, known_M]
  have hbad : (inB b 2 10 && (inB m 0 18 && inB o 1 1000000)) = false → M30 (b, (m, (o, ()))) = some ((0 : Int), ((0 : Int), ((2 : Int), ()))) := fun h => by
    unfold M30 Q30
    simp only [M59xe, M60xe, cl_some]
    cases h1 : inB b 2 10 with
    | false => rfl
    | true =>
    cases h2 : inB m 0 18 with
    | false => rfl
    | true =>
    cases h3 : inB o 1 1000000 with
    | false => rfl
    | true => rw [h1, h2, h3] at h; cases h
  cases h1 : inB b 2 10 with
  | false => rw [hbad (by rw [h1]; rfl)]; simp
  | true =>
  cases h2 : inB m 0 18 with
  | false => rw [hbad (by rw [h1, h2]; rfl)]; simp
  | true =>
  cases h3 : inB o 1 1000000 with
  | false => rw [hbad (by rw [h1, h2, h3]; rfl)]; simp
  | true =>
  obtain ⟨bn, rfl⟩ := nat_of h1 (by omega)
  obtain ⟨mn, rfl⟩ := nat_of h2 (by omega)
  have h1 := inB_t h1
  have h2 := inB_t h2
  have h3 := inB_t h3
  rw [M30xe (by omega) (by omega) h3, M32xe (by omega) (by omega) h3]
  simp
theorem law5 (x : (a5).den) : M5 x = some (true, ()) := by
  obtain ⟨b, m, o, ⟨⟩⟩ := x
  exact law5' b m o

/-! verdicts -/
theorem cnt_bd (c : Nat → Bool) : ∀ {n : Nat}, n ≤ 18 → ∃ k : Nat, cntW c n = (k : Int) ∧ k ≤ n
  | 0, _ => ⟨0, rfl, by omega⟩
  | n + 1, h => by
    obtain ⟨k, h1, h2⟩ := cnt_bd c (n := n) (by omega)
    rw [cntW]
    cases c n with
    | false => exact ⟨k, h1, by omega⟩
    | true => exact ⟨k + 1, by rw [cond_true, h1, W_id ⟨by omega, by omega⟩]; rfl, by omega⟩
theorem fav_bd (l : logT) (h : l.2.2.1.n ≤ 18) : ∀ f : Nat, ∃ k : Nat, favF l f = (k : Int) ∧ k ≤ 18
  | 0 => ⟨0, rfl, by omega⟩
  | f + 1 => by
    obtain ⟨k, h1, h2⟩ := fav_bd l h f
    obtain ⟨k', h3, h4⟩ := cnt_bd (figF l f) h
    rw [favF, h1, h3]
    unfold mx
    split
    · exact ⟨k', rfl, by omega⟩
    · exact ⟨k, rfl, h2⟩
def verdict (b d : Nat) (o : Int) (s f : Nat) : Int := bif exB b d o (chA b d s) then 3 else bif exB b d o (chF b d f) then 2 else 1
/-- A log with its numbers. -/
structure LogN (l : logT) (b d s f : Nat) : Prop where
  eb : l.1 = (b : Int)
  ed : cntW (bothF l) l.2.2.1.n = (d : Int)
  es : cntW (agrF l) l.2.2.1.n = (s : Int)
  ef : favF l l.1.toNat = (f : Int)
  hb : 2 ≤ b ∧ b ≤ 10
  hd : d ≤ 18
  hs : s ≤ 18
  hf : f ≤ 18
theorem logN {l : logT} (h : logB l = true) : ∃ b d s f, LogN l b d s f := by
  obtain ⟨h1, h2, h3, h4, h5, _⟩ := logB_t h
  obtain ⟨d, d1, d2⟩ := cnt_bd (bothF l) h5
  obtain ⟨s, s1, s2⟩ := cnt_bd (agrF l) h5
  obtain ⟨f, f1, f2⟩ := fav_bd l h5 l.1.toNat
  exact ⟨l.1.toNat, d, s, f, by omega, d1, s1, f1, by omega, by omega, by omega, f2⟩
theorem M34xe (l : logT) (h : logB l = true) {b d s f : Nat} (hn : LogN l b d s f) : M34 (no_index (l, ())) = some (verdict b d l.2.1 s f, ((0 : Int), ())) := by
  obtain ⟨_, _, ho, _, h18, _⟩ := logB_t h
  have hr : recOf l (favF l l.1.toNat) = ((b : Int), (l.2.1, (l.2.2.1, (l.2.2.2.1, ((d : Int), ((s : Int), ((f : Int), ()))))))) := by
    unfold recOf
    rw [hn.ed, hn.es, hn.ef, hn.eb]
  unfold M34 Q34
  simp only [M74xe l (by omega), h, M75xe l h, hr, cl_some, Bool.not_true, cond_false]
  rw [hn.eb]
  have h69 : M69 (no_index (((b : Int), ((d : Int), ())), ())) = some (((fun y1 => ((p61 (((b : Int), ((d : Int), ())), y1)), (v61 (((b : Int), ((d : Int), ())), y1)))), ((fun y1 => ((p62 (((b : Int), ((d : Int), ())), y1)), (v62 (((b : Int), ((d : Int), ())), y1)))), ())), ()) := rfl
  simp only [h69, cl_some, p61xe hn.hb hn.hd (show s ≤ 19 by have := hn.hs; omega), v61xe hn.hb hn.hd (show s ≤ 19 by have := hn.hs; omega), p62xe hn.hb hn.hd (show f ≤ 19 by have := hn.hf; omega), v62xe hn.hb hn.hd (show f ≤ 19 by have := hn.hf; omega), cond_true]
  have e1 := M72xe (b := b) hn.hd ho (chA b d s)
  have e2 := M72xe (b := b) hn.hd ho (chF b d f)
  simp only [e1, e2, cl_some]
  unfold verdict
  cases exB b d l.2.1 (chA b d s) <;> cases exB b d l.2.1 (chF b d f) <;> rfl
theorem M36xe (l : logT) (h : logB l = true) {b d s f : Nat} (hn : LogN l b d s f) : M36 (no_index (l, ())) = some (verdict b d l.2.1 s f, ()) := by
  obtain ⟨_, _, ho, _, h18, _⟩ := logB_t h
  unfold M36 Q36
  simp only [M45xe l h, M28xe l h, M29xe l h, cl_some, hn.ed, hn.es, hn.ef]
  rw [hn.eb]
  have e1 := A23 hn.hb hn.hd (show s ≤ 19 by have := hn.hs; omega)
  have e2 := A24 hn.hb hn.hd (show f ≤ 19 by have := hn.hf; omega)
  have e3 := M73xe (b := b) hn.hd ho (chA b d s)
  have e4 := M73xe (b := b) hn.hd ho (chF b d f)
  simp only [e1, e2, e3, e4, cl_some]
  unfold verdict
  cases exB b d l.2.1 (chA b d s) <;> cases exB b d l.2.1 (chF b d f) <;> rfl
theorem M34xbad (l : logT) (hl : l.2.2.1.n ≤ 140737488355328) (h : logB l = false) : M34 (no_index (l, ())) = some ((0 : Int), ((2 : Int), ())) := by
  unfold M34 Q34
  simp only [M74xe l hl, h, cl_some]
  rfl
theorem law7' (l : logT) : M7 (no_index (l, ())) = some (true, ()) := by
  unfold M7 Q7
  simp only [M33xe, cl_some, known_M]
  by_cases h : l.2.2.1.n ≤ 24
  case neg => simp [h]
  by_cases h2 : l.2.2.2.1.n ≤ 24
  case neg => simp [h2]
  have hs : l.2.2.1.n ≤ 140737488355328 := by omega
  simp only [h, h2, decide_true, Bool.and_self, Bool.not_true, cond_false, M35xe l hs, cl_some]
  cases hb : logB l with
  | false =>
    rw [M34xbad l hs hb]
    simp
  | true =>
    obtain ⟨b, d, s, f, hn⟩ := logN hb
    rw [M34xe l hb hn, M36xe l hb hn]
    simp
theorem law7 (x : (a7).den) : M7 x = some (true, ()) := by
  obtain ⟨l, ⟨⟩⟩ := x
  exact law7' l
end Go.Dm

/- What urgent reports cost, and the rule's choice. -/
import Derived.Test.YtlfifailjikhaaaL15CP20
import Derived.Test.YtlfifailjikhaaaL15CP8
set_option linter.unusedVariables false
set_option linter.unusedSimpArgs false
namespace Go.Dm
set_option maxRecDepth 100000

def sumF (f : Nat → Int) : Nat → Int
  | 0 => 0
  | j + 1 => sumF f j + f j
theorem sumF_congr {f g : Nat → Int} : ∀ {n : Nat}, (∀ j, j < n → f j = g j) → sumF f n = sumF g n
  | 0, _ => rfl
  | n + 1, h => by rw [sumF, sumF, sumF_congr fun j hj => h j (by omega), h n (by omega)]
theorem sumF_bd {f : Nat → Int} : ∀ {n : Nat}, (∀ j, j < n → 0 ≤ f j ∧ f j ≤ 10000) → 0 ≤ sumF f n ∧ sumF f n ≤ 10000 * (n : Int)
  | 0, _ => by simp [sumF]
  | n + 1, h => by
    have := sumF_bd (n := n) fun j hj => h j (by omega)
    have := h n (by omega)
    rw [sumF]; omega
def cAt (w : wT) (i : Nat) : Int := (w.2.1.g i).2.2.2.2.2.2.1
def cstI (w : wT) (u : rowI) : Int := sumF (fun j => cAt w (u.g j).1.toNat) u.n
theorem cAt_bd {w : wT} (hw : watchB w = true) {i : Nat} (hi : i < w.2.1.n) : 0 ≤ cAt w i ∧ cAt w i ≤ 10000 := by
  simp only [watchB, Bool.and_eq_true] at hw
  have := all_t hw.2.1 hi
  simp only [repC, Bool.and_eq_true] at this
  exact inB_t this.2.2.2.2.2
theorem cst_bd {w : wT} (hw : watchB w = true) {u : rowI} (hu : inU w u) {k : Nat} (hk : k ≤ u.n) : 0 ≤ sumF (fun j => cAt w (u.g j).1.toNat) k ∧ sumF (fun j => cAt w (u.g j).1.toNat) k ≤ 10000 * (k : Int) :=
  sumF_bd fun j hj => cAt_bd hw (by have := hu j (by omega); omega)
theorem Sam.cst {w : wT} {o p : rowI} (h : Sam o p) : cstI w p = cstI w o := by
  unfold cstI
  rw [← h.1]
  exact sumF_congr fun j hj => by rw [h.2 j hj]
theorem M50xe {w : wT} (hw : watchB w = true) {u : rowI} (hu : inU w u) (hn : u.n ≤ 1000) : M50 (no_index (w, (u, ()))) = some (cstI w u, ()) := by
  have : L50x0 (no_index (u, ((), (w, ())))) (no_index ((0 : Int), ((0 : Int), ()))) = .exit 0 (cstI w u, ()) := by
    unfold L50x0
    refine iterQ_steps (ps := vs50x0) u.n big (fun j => (sumF (fun j => cAt w (u.g j).1.toNat) j, ((j : Int), ()))) (big_lt (by omega)) (fun j hj => ?_) ?_
    · have b := cst_bd hw hu (k := j + 1) (by omega)
      have hx := hu j hj
      have hw1 : W (sumF (fun j => cAt w (u.g j).1.toNat) j + (w.2.1.g (u.g j).1.toNat).2.2.2.2.2.2.1) = sumF (fun j => cAt w (u.g j).1.toNat) (j + 1) := by
        rw [sumF] at b ⊢
        exact W_id ⟨by unfold cAt at b ⊢; omega, by unfold cAt at b ⊢; omega⟩
      unfold S50x0 Z50x0
      simp only [lt_ok hj, idx_ok hj, hx, W_nat hj (show u.n ≤ _ by omega), decide_true, cond_true, and_self, Int.toNat_natCast, hw1]
    · unfold S50x0 Z50x0
      simp only [Int.lt_irrefl, decide_false, cond_false]
      rfl
  unfold M50 Q50
  simp only [this]
  rfl
theorem M74xe {s : rowI} (hn : s.n ≤ 1000) (hb : ∀ j, j < s.n → 0 ≤ (s.g j).1 ∧ (s.g j).1 ≤ 10000) : M74 (no_index (s, ())) = some (sumF (fun j => (s.g j).1) s.n, ()) := by
  have : L74x0 (no_index (s, (((s.n : Nat) : Int), ()))) (no_index ((0 : Int), ((0 : Int), ()))) = .exit 0 (sumF (fun j => (s.g j).1) s.n, ()) := by
    unfold L74x0
    refine iterQ_steps (ps := vs74x0) s.n big (fun j => (sumF (fun j => (s.g j).1) j, ((j : Int), ()))) (big_lt (by omega)) (fun j hj => ?_) ?_
    · have b := sumF_bd (f := fun j => (s.g j).1) (n := j + 1) fun i hi => hb i (by omega)
      have hw1 : W (sumF (fun j => (s.g j).1) j + (s.g j).1) = sumF (fun j => (s.g j).1) (j + 1) := by
        rw [sumF] at b ⊢
        exact W_id ⟨by omega, by omega⟩
      unfold S74x0 Z74x0
      simp only [lt_ok hj, idx_ok hj, W_nat hj (show s.n ≤ _ by omega), decide_true, cond_true, and_self, Int.toNat_natCast, hw1]
    · unfold S74x0 Z74x0
      simp only [Int.lt_irrefl, decide_false, cond_false]
  unfold M74 Q74
  simp only [this]
  rfl

/-! the rule's choices -/
def cosS (w : wT) (m : Nat) : Nat → rowI
  | 0 => row0
  | i + 1 => bif m.testBit i then snoc (cosS w m i) (w.2.1.g i).2.2.2.2.2.2 else cosS w m i
theorem cosS_e (w : wT) (m : Nat) : ∀ i, (cosS w m i).n = (bitS m i).n ∧ ∀ t, t < (bitS m i).n → ((cosS w m i).g t).1 = cAt w ((bitS m i).g t).1.toNat
  | 0 => ⟨rfl, fun t h => absurd h (Nat.not_lt_zero t)⟩
  | i + 1 => by
    obtain ⟨h1, h2⟩ := cosS_e w m i
    unfold cosS bitS
    cases m.testBit i with
    | true =>
      rw [cond_true, cond_true, snoc_n, snoc_n]
      refine ⟨by omega, fun t ht => ?_⟩
      by_cases e : t < (bitS m i).n
      · rw [snoc_lt e, snoc_lt (by omega)]; exact h2 t e
      · obtain rfl : t = (bitS m i).n := by omega
        rw [snoc_at, ← h1, snoc_at]; rfl
    | false => rw [cond_false, cond_false]; exact ⟨h1, h2⟩
theorem bit_e (m j : Nat) (hj : j < 64) : decide (W (landI .i64 (shrI .i64 (m : Int) (j : Int)) (1 : Int)) = (1 : Int)) = m.testBit j := by
  have e1 : shrI .i64 (m : Int) (j : Int) = ((m / 2 ^ j : Nat) : Int) := by
    unfold shrI
    have : min (j : Int).toNat IntKind.i64.bits = j := by
      rw [Int.toNat_natCast]; show min j 64 = j; omega
    rw [this, Int.fdiv_eq_ediv_of_nonneg _ (by exact_mod_cast Nat.zero_le _)]
    push_cast
    rfl
  have e2 : ∀ x : Nat, landI .i64 (x : Int) (1 : Int) = ((x % 2 : Nat) : Int) := fun x => by
    unfold landI
    congr 1
    show (BitVec.ofInt 64 (x : Int) &&& BitVec.ofInt 64 ((1 : Nat) : Int)).toNat = x % 2
    rw [BitVec.toNat_and, BitVec.ofInt_natCast, BitVec.ofInt_natCast, BitVec.toNat_ofNat, BitVec.toNat_ofNat]
    show (x % 2 ^ 64) &&& 1 = x % 2
    rw [Nat.and_one_is_mod]; omega
  rw [e1, e2, W_id ⟨by omega, by omega⟩, Nat.testBit_eq_decide_div_mod_eq]
  refine decide_eq_decide.2 ?_
  omega
theorem L45i_e {w : wT} (h : w.2.1.n ≤ 9) (m : Nat) (q : Int) (mi : Int × Unit) (al : Sl chT × Unit) :
    L45x0x0 (no_index ((), ((), ((), ((m : Int), ((), (q, ((m : Int), (w.2.1, (((w.2.1.n : Nat) : Int), (w, (mi, (al, ()))))))))))))) (no_index (row0, ((0 : Int), ((row0, ((0 : Int), ())), ())))) =
      .exit 2 (cosS w m w.2.1.n, ((bitS m w.2.1.n, ((0 : Int), ())), ())) := by
  unfold L45x0x0
  refine iterQ_steps (ps := vs45x0x0) w.2.1.n big (fun j => (cosS w m j, ((j : Int), ((bitS m j, ((0 : Int), ())), ())))) (big_lt (by omega)) (fun j hj => ?_) ?_
  · have hb1 : ((bitS m j).n + 1) * 8 ≤ 140737488355328 := by have := bitS_n m j; omega
    have hb2 : ((cosS w m j).n + 1) * 8 ≤ 140737488355328 := by rw [(cosS_e w m j).1]; exact hb1
    have hneg : ¬ ((j : Int) < 0) := by omega
    unfold S45x0x0 Z45x0x0
    simp only [lt_ok hj, idx_ok hj, hneg, W_nat hj (show w.2.1.n ≤ _ by omega), decide_true, decide_false, cond_true, cond_false, and_self, Int.toNat_natCast, bit_e m j (by omega), hb1, hb2]
    rw [cosS, bitS]
    cases m.testBit j <;> rfl
  · unfold S45x0x0 Z45x0x0
    simp only [Int.lt_irrefl, decide_false, cond_false]
def chS (w : wT) (m : Nat) : chT := (bitS m w.2.1.n, (cstI w (bitS m w.2.1.n), ()))
theorem bits_in (w : wT) (m : Nat) : inU w (bitS m w.2.1.n) := fun j hj => bitS_bd m _ j hj
theorem M74xc {w : wT} (hw : watchB w = true) (m : Nat) : M74 (no_index (cosS w m w.2.1.n, ())) = some (cstI w (bitS m w.2.1.n), ()) := by
  obtain ⟨h1, h2⟩ := cosS_e w m w.2.1.n
  have hn := bitS_n m w.2.1.n
  have := (small hw).1
  rw [M74xe (by omega) fun j hj => by
    rw [h1] at hj
    rw [h2 j hj]
    exact cAt_bd hw (by have := bits_in w m j hj; omega)]
  unfold cstI
  rw [h1, sumF_congr h2]
def ch0 : Sl chT := ⟨0, fun _ => ((⟨0, fun _ => ((0 : Int), ())⟩ : Sl _), ((0 : Int), ()))⟩
theorem L45xe {w : wT} (hw : watchB w = true) {N : Nat} (hN : N ≤ 512) (mi : Int × Unit) :
    L45x0 (no_index ((), ((), ((), (((N : Nat) : Int), (w, (mi, ()))))))) (no_index ((0 : Int), ((ch0, ()), ()))) = .exit 0 ((tab ch0 (chS w) N, ()), ()) := by
  have h9 := (small hw).1
  unfold L45x0
  refine iterQ_steps (ps := vs45x0) N big (fun j => ((j : Int), ((tab ch0 (chS w) j, ()), ()))) (big_lt (by omega)) (fun j hj => ?_) ?_
  · have hb : ((tab ch0 (chS w) j).n + 1) * 32 ≤ 140737488355328 := by rw [tab_n0 rfl]; omega
    unfold S45x0 Z45x0
    simp only [lt_ok hj, decide_true, cond_true]
    refine (congrArg (fun o => onExit o 2 _ _) (L45i_e h9 j ((N : Nat) : Int) mi (tab ch0 (chS w) j, ()))).trans ?_
    refine (xe45x0_0e2 _ _ _).trans ?_
    refine (congrArg (fun o => cl (r74).dflt o _ _) (M74xc hw j)).trans ?_
    simp only [cl_some, hb, decide_true, cond_true, W_nat hj (show N ≤ _ by omega)]
    rfl
  · unfold S45x0 Z45x0
    simp only [Int.lt_irrefl, decide_false, cond_false]
def two (n : Nat) : Nat := 2 ^ n
theorem two_pos (n : Nat) : 0 < two n := Nat.pow_pos (by omega)
def allS (w : wT) : Sl chT := tab ch0 (chS w) (two w.2.1.n)
theorem allS_n (w : wT) : (allS w).n = two w.2.1.n := tab_n0 rfl
theorem allS_g (w : wT) {m : Nat} (h : m < two w.2.1.n) : (allS w).g m = chS w m := tab_g0 rfl h
theorem ch_dig {w : wT} (h : w.2.1.n ≤ 9) (m : Nat) : (chS w m).1.n ≤ 10 ∧ digB (chS w m).1 :=
  ⟨by have := bitS_n m w.2.1.n; show (bitS m _).n ≤ 10; omega, (bitS_ok m w.2.1.n).dig (by omega)⟩
def betC (a b : chT) : Prop := Bet a.2.1 a.1.n (cod a.1 a.1.n) b.2.1 b.1.n (cod b.1 b.1.n)
instance (a b : chT) : Decidable (betC a b) := by unfold betC; infer_instance
theorem lt_ch {w : wT} (h : w.2.1.n ≤ 9) {i j : Nat} (hi : i < two w.2.1.n) (hj : j < two w.2.1.n) : p76 (no_index ((allS w).g i, ((allS w).g j, ()))) = true ∧ ltN v76 (allS w) i j = decide (betC (chS w i) (chS w j)) := by
  obtain ⟨q, q1, q2⟩ := M76xe (a := chS w i) (b := chS w j) (ch_dig h i).1 (ch_dig h i).2 (ch_dig h j).2
  refine ⟨by unfold p76; rw [allS_g w hi, allS_g w hj, q1]; rfl, ?_⟩
  unfold ltN v76
  rw [allS_g w hi, allS_g w hj]
  refine decide_eq_decide.2 ?_
  refine Iff.trans ?_ q2
  have : ((M76 (chS w i, (chS w j, ()))).getD (r76).dflt) = (q, ()) := by rw [q1]; rfl
  rw [this]
theorem pow_le {n : Nat} (h : n ≤ 9) : two n ≤ 512 := Nat.le_trans (Nat.pow_le_pow_right (by omega) h) (by decide)
theorem ch_ok {w : wT} (h : w.2.1.n ≤ 9) : LtOk (allS w).n (ltN v76 (allS w)) := by
  rw [allS_n]
  refine ⟨fun i hi => ?_, fun i j k hi hj hk h1 h2 => ?_, fun i j hi hj hne => ?_⟩
  · rw [(lt_ch h hi hi).2]
    exact decide_eq_false (by unfold betC Bet; omega)
  · rw [(lt_ch h hi hj).2] at h1
    rw [(lt_ch h hj hk).2] at h2
    rw [(lt_ch h hi hk).2]
    have h1 := of_decide_eq_true h1
    have h2 := of_decide_eq_true h2
    refine decide_eq_true ?_
    unfold betC Bet at h1 h2 ⊢
    omega
  · rw [(lt_ch h hi hj).2, (lt_ch h hj hi).2]
    by_cases a : betC (chS w i) (chS w j)
    · exact .inl (decide_eq_true a)
    by_cases b : betC (chS w j) (chS w i)
    · exact .inr (decide_eq_true b)
    · exfalso
      unfold betC Bet at a b
      have e1 : (chS w i).1.n = (chS w j).1.n := by omega
      have e2 : cod (chS w i).1 (chS w i).1.n = cod (chS w j).1 (chS w j).1.n := by omega
      refine hne (bitS_inj hi hj ⟨e1, fun t ht => ?_⟩)
      rw [← e1] at e2
      have := cod_inj (N := (chS w i).1.n) (ch_dig h i).2 (fun j' hj' => (ch_dig h j).2 j' (by omega)) (Nat.le_refl _) e2 t ht
      exact Prod.ext this.symm rfl
theorem sort_ok {w : wT} (h : w.2.1.n ≤ 9) : sortB p76 v76 (allS w) = true := by
  have hp := two_pos w.2.1.n
  have hq := pow_le h
  unfold sortB
  simp only [Bool.and_eq_true, Nat.blt_eq]
  refine ⟨⟨⟨by rw [allS_n]; exact hp, by rw [allS_n]; omega⟩, all_i fun i hi => all_i fun j hj => ?_⟩, (ch_ok h).rankB⟩
  rw [allS_n] at hi hj
  exact (lt_ch h hi hj).1
end Go.Dm

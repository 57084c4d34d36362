/- The rule's best urgent reports. -/
import Derived.Test.YtlfifailjikhaaaL15CP21
set_option linter.unusedVariables false
set_option linter.unusedSimpArgs false
namespace Go.Dm
set_option maxRecDepth 100000

theorem spL_sam {s : Sl repT} {u p : rowI} (h : Sam u p) : ∀ k, k ≤ u.n → spL s p k = spL s u k
  | 0, _ => rfl
  | k + 1, hk => by rw [spL, spL, spL_sam h k (by omega), h.2 k (by omega)]
theorem spW_sam {w : wT} {u p : rowI} (h : Sam u p) : spW w p = spW w u := by
  unfold spW spV
  rw [← h.1, spL_sam h u.n (Nat.le_refl _)]
theorem Sam.suf {w : wT} {u p : rowI} (h : Sam u p) (m : Int) : sufB w p m = sufB w u m := by
  unfold sufB sufI
  rw [spW_sam h]
theorem IncU.sam {i : Nat} {u p : rowI} (h : IncU i u) (hs : Sam u p) : IncU i p := by
  have hn := hs.1
  exact ⟨fun t ht => by rw [hs.2 t (by omega)]; exact h.bd t (by omega), fun s t hst ht => by rw [hs.2 t (by omega), hs.2 s (by omega)]; exact h.inc s t hst (by omega)⟩
theorem urg_inc {w : wT} (h : w.2.1.n ≤ 1000) {u : rowI} : urgB w u = true ↔ IncU w.2.1.n u := by
  have e : W ((w.2.1.n : Int) - 1) = (w.2.1.n : Int) - 1 := W_id ⟨by omega, by omega⟩
  constructor
  · intro hu
    refine ⟨urg_in h hu, ?_⟩
    intro s t
    induction t with
    | zero => intro q; omega
    | succ t ih =>
      intro hs ht
      have c := all_t hu ht
      unfold urgC at c
      simp only [Bool.and_eq_true, Bool.or_eq_true, decide_eq_true_eq] at c
      have c2 : (u.g t).1 < (u.g (t + 1)).1 := by
        rcases c.2 with q | q
        · omega
        · exact q
      by_cases q : s = t
      · subst q; exact c2
      · have := ih (by omega) (by omega); omega
  · intro hu
    refine all_i fun j hj => ?_
    unfold urgC
    rw [e]
    have := hu.bd j hj
    simp only [Bool.and_eq_true, Bool.or_eq_true, decide_eq_true_eq, inB]
    refine ⟨by omega, ?_⟩
    by_cases q : j = 0
    · exact .inl q
    · exact .inr (hu.inc (j - 1) j (by omega) hj)
/-- What is best. -/
structure IsBest (w : wT) (m : Int) (l : rowI) (c : Int) : Prop where
  urg : urgB w l = true
  suf : sufB w l m = true
  cost : c = cstI w l
  top : ∀ p, urgB w p = true → sufB w p m = true → ¬ Bet (cstI w p) p.n (cod p p.n) c l.n (cod l l.n)
theorem IsBest.uniq {w : wT} (h : w.2.1.n ≤ 9) {m : Int} {l l' : rowI} {c c' : Int} (b : IsBest w m l c) (b' : IsBest w m l' c') : c = c' ∧ Sam l l' := by
  have t1 := b.top l' b'.urg b'.suf
  have t2 := b'.top l b.urg b.suf
  rw [← b'.cost] at t1
  rw [← b.cost] at t2
  unfold Bet at t1 t2
  have i1 := (urg_inc (by omega)).1 b.urg
  have i2 := (urg_inc (by omega)).1 b'.urg
  have e1 : l.n = l'.n := by omega
  have e2 : cod l l.n = cod l' l'.n := by omega
  rw [← e1] at e2
  refine ⟨by omega, e1, fun j hj => ?_⟩
  have := cod_inj (N := l.n) (i1.dig (by omega)) (fun j hj => i2.dig (by omega) j (by omega)) (Nat.le_refl _) e2 j hj
  exact Prod.ext this.symm rfl
theorem M81xe {w : wT} (hw : watchB w = true) {s : Sl chT} {j : Nat} (hj : j < s.n) (hu : inU w (s.g j).1) (hn : (s.g j).1.n ≤ 1000) (m : Int) :
    M81 (no_index ((j : Int), (lookK w, ((s, ()), ((m, ()), ()))))) = some (sufB w (s.g j).1 m, ()) := by
  unfold M81 Q81
  simp only [idx_ok hj, decide_true, cond_true, and_self, Int.toNat_natCast]
  refine (congrArg (fun o => cl (r73).dflt o _ _) (M73xa hw hu hn m)).trans ?_
  rfl
theorem LtOk.findN_lt {n : Nat} {lt : Nat → Nat → Bool} (h : LtOk n lt) {k : Nat} (hk : k < n) : findN (ranks n lt) k n < n := by
  obtain ⟨i, hi, e⟩ := h.at hk
  rw [← e, h.find hi]; exact hi
theorem shl_e {n : Nat} (h : n ≤ 9) : W (shlI .i64 (1 : Int) (n : Int)) = ((two n : Nat) : Int) := by
  have hq := pow_le h
  unfold shlI
  have : min (n : Int).toNat IntKind.i64.bits = n := by
    rw [Int.toNat_natCast]; show min n 64 = n; omega
  rw [this, Int.one_mul]
  have e : ((2 : Int) ^ n) = ((two n : Nat) : Int) := by unfold two; push_cast; rfl
  rw [e]
  exact W_id ⟨by omega, by omega⟩
def srtS (w : wT) : Sl chT := sortS v76 (allS w)
theorem srtS_n (w : wT) : (srtS w).n = two w.2.1.n := allS_n w
def fndI (w : wT) (k : Nat) : Nat := findN (ranks (allS w).n (ltN v76 (allS w))) k (allS w).n
theorem srtS_g (w : wT) (k : Nat) : (srtS w).g k = (allS w).g (fndI w k) := rfl
theorem fndI_lt {w : wT} (h : w.2.1.n ≤ 9) {k : Nat} (hk : k < two w.2.1.n) : fndI w k < two w.2.1.n := by
  have := (ch_ok h).findN_lt (k := k) (by rw [allS_n]; exact hk)
  have e := allS_n w
  unfold fndI
  omega
theorem srtS_c {w : wT} (h : w.2.1.n ≤ 9) {k : Nat} (hk : k < two w.2.1.n) : (srtS w).g k = chS w (fndI w k) := by
  rw [srtS_g, allS_g w (fndI_lt h hk)]
theorem M45xe {w : wT} (hw : watchB w = true) {m : Int} (hm : inB m 0 20000 = true) :
    ((∀ u, urgB w u = true → sufB w u m = false) ∧ M45 (no_index (w, (m, ()))) = some (row0, ((0 : Int), ((5 : Int), ())))) ∨ ∃ l c, M45 (no_index (w, (m, ()))) = some (l, (c, ((0 : Int), ()))) ∧ IsBest w m l c := by
  obtain ⟨h1, h2, h3⟩ := small hw
  have hq := pow_le h1
  have hp := two_pos w.2.1.n
  have hneg : ¬ (((w.2.1.n : Nat) : Int) < 0) := by omega
  have hst : ∀ k, k < two w.2.1.n → sufB w ((srtS w).g k).1 m = sufB w (bitS (fndI w k) w.2.1.n) m := fun k hk => by rw [srtS_c h1 hk]; rfl
  have key := (ch_ok h1).first fun i => sufB w (bitS i w.2.1.n) m
  have fF : ∀ j : Nat, j < ((((two w.2.1.n : Nat) : Int) - 1) - 0 + 1).toNat → (fun y1 : Int × Unit => ((p81 (y1.1, (lookK w, ((srtS w, ()), ((m, ()), ()))))), (v81 (y1.1, (lookK w, ((srtS w, ()), ((m, ()), ()))))))) ((0 : Int) + (j : Int), ()) = (true, (sufB w ((srtS w).g j).1 m, ())) := fun j hj => by
    have hj : j < two w.2.1.n := by omega
    have e0 : (0 : Int) + (j : Int) = (j : Int) := by omega
    have e := M81xe hw (s := srtS w) (j := j) (by rw [srtS_n]; exact hj) (by rw [srtS_c h1 hj]; exact bits_in w _) (by rw [srtS_c h1 hj]; have := (ch_dig h1 (fndI w j)).1; omega) m
    simp only [p81, v81, e0, e]
    rfl
  have e80 := M80xe (lo := 0) (hi := ((two w.2.1.n : Nat) : Int) - 1) (by omega) (by omega) (by omega) (F := fun y1 : Int × Unit => ((p81 (y1.1, (lookK w, ((srtS w, ()), ((m, ()), ()))))), (v81 (y1.1, (lookK w, ((srtS w, ()), ((m, ()), ()))))))) (c := fun j => sufB w ((srtS w).g j).1 m) fF
  have hN : ((((two w.2.1.n : Nat) : Int) - 1) - 0 + 1).toNat = two w.2.1.n := by omega
  rw [hN, fstN_congr hst] at e80
  rw [allS_n] at key
  have hwn : W ((((srtS w).n : Nat) : Int) - (1 : Int)) = ((two w.2.1.n : Nat) : Int) - 1 := by
    rw [srtS_n]; exact W_id ⟨by omega, by omega⟩
  have run : M45 (no_index (w, (m, ()))) = match fstN (fun j => sufB w (bitS (fndI w j) w.2.1.n) m) (two w.2.1.n) with
      | some k => some (((srtS w).g k).1, (((srtS w).g k).2.1, ((0 : Int), ())))
      | none => some (row0, ((0 : Int), ((5 : Int), ()))) := by
    unfold M45 Q45
    simp only [M55xe, hw, M63xe, hm, cl_some, Bool.not_true, cond_false, hneg, decide_false, shl_e h1]
    refine (congrArg (fun o => onExit o 0 _ _) (L45xe hw hq (m, ()))).trans ?_
    refine (xe45x0e0 _ _ _).trans ?_
    have hso : sortB p76 v76 (tab ch0 (chS w) (two w.2.1.n)) = true := sort_ok h1
    simp only [hso, cond_true, M57xe (show w.2.2.1.n ≤ _ by omega) (show w.2.1.n ≤ _ by omega), cl_some]
    have hwn' : W ((((sortS v76 (tab ch0 (chS w) (two w.2.1.n))).n : Nat) : Int) - (1 : Int)) = ((two w.2.1.n : Nat) : Int) - 1 := hwn
    simp only [hwn']
    refine (congrArg (fun o => cl (r80).dflt o _ _) e80).trans ?_
    simp only [cl_some]
    cases e : fstN (fun j => sufB w (bitS (fndI w j) w.2.1.n) m) (two w.2.1.n) with
    | none => rfl
    | some k =>
      have hk := (fstN_some e).1
      have hi : ((0 : Int) ≤ 0 + (k : Int)) ∧ (0 + (k : Int)) < (((sortS v76 (tab ch0 (chS w) (two w.2.1.n))).n : Nat) : Int) := by
        have : (sortS v76 (tab ch0 (chS w) (two w.2.1.n))).n = two w.2.1.n := srtS_n w
        rw [this]; omega
      have e0 : (0 + (k : Int)).toNat = k := by omega
      simp only [Bool.not_true, cond_false, hi, and_self, decide_true, cond_true, e0]
      rfl
  rw [run]
  have key : match fstN (fun j => sufB w (bitS (fndI w j) w.2.1.n) m) (two w.2.1.n) with
    | none => ∀ j, j < two w.2.1.n → sufB w (bitS j w.2.1.n) m = false
    | some k => k < two w.2.1.n ∧ fndI w k < two w.2.1.n ∧ sufB w (bitS (fndI w k) w.2.1.n) m = true ∧ ∀ j, j < two w.2.1.n → sufB w (bitS j w.2.1.n) m = true → ltN v76 (allS w) j (fndI w k) = false := by
    unfold fndI
    rw [allS_n]
    exact key
  cases e : fstN (fun j => sufB w (bitS (fndI w j) w.2.1.n) m) (two w.2.1.n) with
  | none =>
    rw [e] at key
    refine .inl ⟨fun u hu => ?_, rfl⟩
    obtain ⟨b, b1, b2⟩ := ((urg_inc (by omega)).1 hu).bits
    have := key b b1
    rwa [b2.suf] at this
  | some k =>
    rw [e] at key
    obtain ⟨k1, k2, k3, k4⟩ := key
    refine .inr ⟨_, _, rfl, ?_⟩
    rw [srtS_c h1 k1]
    refine ⟨(urg_inc (by omega)).2 (bitS_ok _ _), k3, rfl, fun p hp hs => ?_⟩
    obtain ⟨b, b1, b2⟩ := ((urg_inc (by omega)).1 hp).bits
    have := k4 b b1 (by rw [b2.suf]; exact hs)
    rw [(lt_ch h1 b1 k2).2] at this
    have := of_decide_eq_false this
    unfold betC at this
    rw [← b2.cst, ← b2.cod, b2.1]
    exact this
theorem M45xn {w : wT} (m : Int) (h : watchB w = false ∨ inB m 0 20000 = false) : M45 (no_index (w, (m, ()))) = some (row0, ((0 : Int), ((2 : Int), ()))) := by
  unfold M45 Q45
  simp only [M55xe, M63xe, cl_some]
  rcases h with h | h
  · rw [h]; rfl
  · rw [h]
    cases watchB w <;> rfl
end Go.Dm

/- Any urgent reports that suffice are no better than the best ones. -/
import Derived.Test.YtlfifailjikhaaaL16CP25
set_option linter.unusedVariables false
set_option linter.unusedSimpArgs false
namespace Go.Dm
set_option maxRecDepth 100000

theorem M52xe {a b : rowI} (hn : a.n = b.n) (h : a.n ≤ 1000) : M52 (no_index (a, (b, ()))) = some (lexB a b a.n, ()) := by
  have : L52x0 (no_index (a, (b, ()))) (no_index ((0 : Int), ())) = match difN a b a.n with
      | some k => .ret (decide ((a.g k).1 < (b.g k).1), ())
      | none => .exit 0 () := by
    unfold L52x0 difN
    refine iterQ_find (ps := vs52x0) (wy := wv52x0) (f := fun j => ((j : Int), ())) (big_lt (n := a.n) (by omega)) (fun j hj _ => ?_) fun _ => ?_
    · have hj' : j < b.n := by omega
      unfold S52x0 Z52x0
      simp only [lt_ok hj, lt_ok hj', idx_ok hj, idx_ok hj', W_nat hj (by omega : a.n ≤ 140737488355328), decide_true, cond_true, and_self, Int.toNat_natCast]
    · unfold S52x0 Z52x0
      simp
  unfold M52 Q52 lexB
  simp only [this]
  cases difN a b a.n with
  | none =>
    have e : ¬ (((a.n : Nat) : Int) < ((b.n : Nat) : Int)) := by omega
    show some (decide (((a.n : Nat) : Int) < ((b.n : Nat) : Int)), ()) = _
    rw [decide_eq_false e]
  | some k => rfl
def evrS (w : wT) : rowI := tab row0 (fun j => ((j : Int), ())) w.2.1.n
theorem evr_inc (w : wT) : IncU w.2.1.n (evrS w) := by
  have hn : (evrS w).n = w.2.1.n := tab_n0 rfl
  have hg : ∀ j, j < w.2.1.n → (evrS w).g j = ((j : Int), ()) := fun j hj => tab_g0 rfl hj
  refine ⟨fun t ht => ?_, fun s t hst ht => ?_⟩
  · rw [hn] at ht
    rw [hg t ht]
    show (0 : Int) ≤ (t : Int) ∧ (t : Int) < _
    omega
  · rw [hn] at ht
    rw [hg t ht, hg s (by omega)]
    show (s : Int) < (t : Int)
    omega
theorem L16a_e {w : wT} (h : w.2.1.n ≤ 1000) (m e : Int) (o : Bool) : L16x0 (no_index (m, ((), (e, (o, (w, ())))))) (no_index (row0, ((0 : Int), ()))) = LQ.exit (wy := wv16x0) 0 (evrS w, ()) := by
  unfold L16x0
  refine iterQ_steps (ps := vs16x0) w.2.1.n big (fun j => (tab row0 (fun j => ((j : Int), ())) j, ((j : Int), ()))) (big_lt (by omega)) (fun j hj => ?_) ?_
  · have hb : ((tab row0 (fun j => ((j : Int), ())) j).n + 1) * 8 ≤ 140737488355328 := by rw [tab_n0 rfl]; omega
    unfold S16x0 Z16x0
    simp only [lt_ok hj, W_nat hj (show w.2.1.n ≤ _ by omega), decide_true, cond_true, hb]
    rfl
  · unfold S16x0 Z16x0
    simp only [Int.lt_irrefl, decide_false, cond_false]
    rfl
def pctB (p : rowI) (j : Nat) : Bool := decide ((p.g j).1 < 0) || decide ((100 : Int) < (p.g j).1)
def pctY (x : wT) (p : rowI) (j : Nat) : Int × Unit := (W ((x.2.1.g j).2.2.2.1 + W (Int.tdiv (W (W ((x.2.1.g j).2.2.2.2.1 - (x.2.1.g j).2.2.2.1) * (p.g j).1)) 100)), ())
def pctS (x : wT) (p : rowI) : rowI := tab row0 (pctY x p) x.2.1.n
theorem L16b_e {x : wT} (h : x.2.1.n ≤ 1000) {p : rowI} (hp : p.n = x.2.1.n) (m c : Int) (u l : rowI) (o : Bool) (w : wT) :
    L16x1 (no_index (m, (u, (p, ((), (l, (c, (o, ((), (w, (x, ()))))))))))) (no_index (row0, ((0 : Int), ()))) = match fstN (pctB p) x.2.1.n with
      | some _ => .ret (true, ())
      | none => LQ.exit (wy := wv16x1) 2 (pctS x p, ()) := by
  unfold L16x1
  refine iterQ_find (ps := vs16x1) (wy := wv16x1) (f := fun j => (tab row0 (pctY x p) j, ((j : Int), ()))) (c := pctB p) (qr := fun _ => .ret (true, ())) (qe := .exit 2 (pctS x p, ())) (big_lt (n := x.2.1.n) (by omega)) (fun j hj _ => ?_) fun _ => ?_
  · have hj' : j < p.n := by omega
    have hb : ((tab row0 (pctY x p) j).n + 1) * 8 ≤ 140737488355328 := by rw [tab_n0 rfl]; omega
    unfold S16x1 Z16x1 pctB
    simp only [lt_ok hj, idx_ok hj, idx_ok hj', W_nat hj (show x.2.1.n ≤ _ by omega), decide_true, cond_true, and_self, Int.toNat_natCast, hb, known_M, cl_some]
    cases decide ((p.g j).1 < 0) with
    | true => rfl
    | false => cases decide ((100 : Int) < (p.g j).1) <;> rfl
  · unfold S16x1 Z16x1
    simp only [Int.lt_irrefl, decide_false, cond_false]
    rfl
theorem part_p {x p : Int} (hx : 0 ≤ x ∧ x ≤ 2880) (hp : 0 ≤ p ∧ p ≤ 100) : W (Int.tdiv (W (W x * p)) 100) = Int.tdiv (x * p) 100 ∧ 0 ≤ Int.tdiv (x * p) 100 ∧ Int.tdiv (x * p) 100 ≤ x := by
  have h1 : 0 ≤ x * p := Int.mul_nonneg hx.1 hp.1
  have h2 : x * p ≤ x * 100 := Int.mul_le_mul_of_nonneg_left hp.2 hx.1
  have h3 : Int.tdiv (x * p) 100 = x * p / 100 := Int.tdiv_eq_ediv_of_nonneg h1
  rw [W_id (n := x) ⟨by omega, by omega⟩, W_id (n := x * p) ⟨by omega, by omega⟩, h3]
  refine ⟨W_id ⟨by omega, by omega⟩, by omega, by omega⟩
theorem pct_del {x : wT} (hx : watchB x = true) {p : rowI} (hp : ∀ j, j < x.2.1.n → pctB p j = false) : delB x (pctS x p) = true := by
  have hn : (pctS x p).n = x.2.1.n := tab_n0 rfl
  unfold delB
  rw [hn]
  simp only [decide_true, Bool.true_and]
  refine all_i fun j hj => ?_
  have hg : (pctS x p).g j = pctY x p j := tab_g0 rfl hj
  have hr := rep_in hx hj
  have hb := hp j hj
  simp only [pctB, Bool.or_eq_false_iff, decide_eq_false_iff_not] at hb
  obtain ⟨q1, q2, q3⟩ := part_p (x := (x.2.1.g j).2.2.2.2.1 - (x.2.1.g j).2.2.2.1) (p := (p.g j).1) (by omega) (by omega)
  unfold delC
  rw [hg]
  unfold pctY
  rw [q1, W_id ⟨by omega, by omega⟩]
  exact decide_eq_true (by omega)
theorem M16xe (w : wT) (m : Int) (u p : rowI) : M16 (no_index (w, (m, (u, (p, ()))))) = some (true, ()) := by
  unfold M16 Q16
  simp only [M17xe, cl_some, known_M]
  cases hs : shortB w with
  | false => rfl
  | true =>
  by_cases hn : u.n ≤ 12
  case neg =>
    have : (12 : Int) < (u.n : Int) := by omega
    simp only [this, decide_true, cond_true, Bool.not_true, cond_false]
  by_cases hpn : p.n ≤ 12
  case neg =>
    have h1 : ¬ (12 : Int) < (u.n : Int) := by omega
    have h2 : (12 : Int) < (p.n : Int) := by omega
    simp only [h1, h2, decide_true, decide_false, cond_true, Bool.not_true, cond_false]
  have hn' : ¬ (12 : Int) < (u.n : Int) := by omega
  have hpn' : ¬ (12 : Int) < (p.n : Int) := by omega
  simp only [hn', hpn', decide_false, M20xe hs, M27xe, M46xe w (show u.n ≤ 1000 by omega), M44xe hs (show u.n ≤ 1000 by omega), cl_some, Bool.not_true, cond_false]
  cases hw : watchB w with
  | false => rfl
  | true =>
  cases hm : inB m 0 20000 with
  | false => rfl
  | true =>
  cases hu : urgB w u with
  | false => rfl
  | true =>
  by_cases hpw : p.n = w.2.1.n
  case neg =>
    have : ¬ ((p.n : Int) = (w.2.1.n : Int)) := by omega
    simp only [this, decide_false, Bool.not_false, Bool.not_true, cond_false, cond_true]
  have hpw' : ((p.n : Int) = (w.2.1.n : Int)) := by omega
  have h9 := (small hw).1
  simp only [hpw', decide_true, Bool.not_true, cond_false, cond_true, Bool.and_self]
  rcases M45xe hw hm with ⟨r1, r2⟩ | ⟨l, c, r1, r2⟩
  · have ev : urgB w (evrS w) = true := (urg_inc (w := w) (by omega)).2 (evr_inc w)
    have en : (evrS w).n ≤ 1000 := by have : (evrS w).n = w.2.1.n := tab_n0 rfl; omega
    have e44 := M44xe hs en m
    rw [hw, hm, ev, r1 _ ev] at e44
    have h50 : ¬ ((5 : Int) = 0) := by decide
    simp only [r2, r1 u hu, cl_some, h50, decide_false, Bool.not_false, cond_true]
    refine (congrArg (fun o => onExit o 0 _ _) (L16a_e (w := w) (by omega) m (5 : Int) false)).trans ?_
    refine (xe16x0e0 _ _ _).trans ?_
    refine (congrArg (fun o => cl (r44).dflt o _ _) e44).trans ?_
    rfl
  · have il := (urg_inc (w := w) (by omega)).1 r2.urg
    have ll := il.len
    have lin := urg_in (w := w) (by omega) r2.urg
    have hx := watch_sp hw lin
    have hxn : (spW w l).2.1.n = w.2.1.n := spL_n _ _ _
    have h12 : ¬ (12 : Int) < (l.n : Int) := by omega
    have e44 := M44xe hs (show l.n ≤ 1000 by omega) m
    rw [hw, hm, r2.urg, r2.suf] at e44
    have e50 := M50xe hw lin (show l.n ≤ 1000 by omega)
    have e50u := M50xe hw (urg_in (w := w) (by omega) hu) (show u.n ≤ 1000 by omega)
    have e51 := M51xe (w := w) (by omega) lin (show l.n ≤ 1000 by omega)
    simp only [r1, h12, M46xe w (show l.n ≤ 1000 by omega), r2.urg, e50, e51, r2.cost, cl_some, decide_true, decide_false, Bool.not_true, cond_false]
    have eL := L16b_e (x := spW w l) (by rw [hxn]; omega) (p := p) (by rw [hxn]; exact hpw) m (cstI w l) u l (sufB w u m) w
    cases hf : fstN (pctB p) (spW w l).2.1.n with
    | some k =>
      rw [hf] at eL
      refine (congrArg (fun o => onExit o 2 _ (onRet o _ _)) eL).trans ?_
      rfl
    | none =>
      rw [hf] at eL
      have hd := pct_del hx (p := p) (fstN_none hf)
      have d0 := endS_del hx false
      have d1 := endS_del hx true
      have suf := r2.suf
      simp only [sufB, Bool.and_eq_true, decide_eq_true_eq] at suf
      obtain ⟨s1, s2⟩ := suf
      have s1 : 0 ≤ fstR (spW w l) (endS (spW w l) true) := s1
      have s2 : fstR (spW w l) (endS (spW w l) true) ≤ m := s2
      have t0 := fst_mono hx d0 d1 (fun i hi => by have := del_le d0 hi; omega) s1
      have t1 := fst_mono hx hd d1 (fun i hi => (del_le hd hi).2) s1
      refine (congrArg (fun o => onExit o 2 _ (onRet o _ _)) eL).trans ?_
      refine (xe16x1e2 _ _ _).trans ?_
      have e23 := M23xe hx
      have n0 : ¬ fstR (spW w l) (endS (spW w l) false) < 0 := by omega
      have n1 : ¬ fstR (spW w l) (endS (spW w l) true) < 0 := by omega
      have n2 : ¬ fstR (spW w l) (pctS (spW w l) p) < 0 := by omega
      have n3 : ¬ m < fstR (spW w l) (endS (spW w l) true) := by omega
      have n4 : ¬ m < fstR (spW w l) (pctS (spW w l) p) := by omega
      unfold seeV at e23
      simp only [n0, n1, decide_false, cond_false] at e23
      have sx := small hx
      have e19 := M19xe (w := spW w l) (by omega) (by omega) (pctS (spW w l) p)
      simp only [hx, hd, n2, decide_false, cond_false, Bool.not_true] at e19
      have e44' : M44 (no_index (w, (l, (m, ())))) = some (true, ((0 : Int), ())) := e44
      simp only [e44', e23, e19, e50u, cl_some, n1, n3, n4, decide_true, decide_false, Bool.not_true, cond_false]
      cases hsu : sufB w u m with
      | false => rfl
      | true =>
        have top := r2.top u hu hsu
        rw [r2.cost] at top
        unfold Bet at top
        simp only [Bool.not_true, cond_false]
        by_cases c1 : cstI w l < cstI w u
        · simp only [c1, decide_true, cond_true]
        · have c2 : cstI w u = cstI w l := by omega
          have c1' : ¬ cstI w l < cstI w l := by omega
          simp only [c2, c1', decide_true, decide_false, cond_true, cond_false]
          by_cases n5 : l.n < u.n
          · have : (l.n : Int) < (u.n : Int) := by omega
            simp only [this, decide_true, cond_true]
          · have n6 : u.n = l.n := by omega
            have n7 : ¬ (l.n : Int) < (u.n : Int) := by omega
            have n8 : ((u.n : Int) = (l.n : Int)) := by omega
            have iu := (urg_inc (w := w) (by omega)).1 hu
            have e52 := M52xe n6 (show u.n ≤ 1000 by omega)
            rw [lexB_e (iu.dig (by omega)) (fun j hj => il.dig (by omega) j (by omega)), decide_eq_false (by rw [← n6] at top; omega)] at e52
            simp only [n7, n8, e52, cl_some, decide_true, decide_false, cond_true, cond_false, Bool.not_false]
            cases decide (((l.n : Nat) : Int) < ((l.n : Nat) : Int)) <;> rfl
theorem law16 (x : (a16).den) : M16 x = some (true, ()) := by
  obtain ⟨w, m, u, p, ⟨⟩⟩ := x
  exact M16xe w m u p
end Go.Dm

/- More is never seen later. -/
import Derived.Test.YtlfifailjikhaaaL9CP13
set_option linter.unusedVariables false
set_option linter.unusedSimpArgs false
namespace Go.Dm
set_option maxRecDepth 100000

def zB (w : wT) (g : Int) (j : Nat) : wT := (w.1, (w.2.1, (zL w.2.2.1 g j, (w.2.2.2.1, (mn 99999 (W (w.2.2.2.2.1 + g)), w.2.2.2.2.2)))))
theorem L9b_e {w : wT} (hw : watchB w = true) (a1 : rowI) (a2 g : Int) (a5 : rowI) (b1 b2 : wT) :
    L9x1 (no_index (a1, (a2, (g, ((), (a5, ((), ((), ((), (w, (b1, (b2, ())))))))))))) (no_index ((0 : Int), (zB w g 0, ()))) = LQ.exit (wy := wv9x1) 2 (zW w g, ()) := by
  obtain ⟨h1, h2, h3⟩ := small hw
  unfold L9x1
  refine iterQ_steps (ps := vs9x1) w.2.2.1.n big (fun j => ((j : Int), (zB w g j, ()))) (big_lt (by omega)) (fun j hj => ?_) ?_
  · unfold S9x1 Z9x1
    simp only [zB, zL_n, lt_ok hj, idx_ok hj, W_nat hj (show w.2.2.1.n ≤ _ by omega), decide_true, cond_true, and_self, Int.toNat_natCast]
    rfl
  · unfold S9x1 Z9x1
    simp only [zB, zL_n, Int.lt_irrefl, decide_false, cond_false]
    rfl
theorem M9xe (w : wT) (d : rowI) (p : Int) (r : repT) (e l g : Int) : M9 (no_index (w, (d, (p, (r, (e, (l, (g, ())))))))) = some (true, ()) := by
  unfold M9 Q9
  simp only [M17xe, cl_some, known_M]
  cases hs : shortB w with
  | false => rfl
  | true =>
  by_cases hn : d.n ≤ 12
  case neg =>
    have : (12 : Int) < (d.n : Int) := by omega
    simp only [this, decide_true, cond_true, Bool.not_true, cond_false]
  have hn' : ¬ (12 : Int) < (d.n : Int) := by omega
  obtain ⟨s1, s2, s3⟩ := shortB_t hs
  simp only [hn', decide_false, M20xe hs, M21xe (show w.2.1.n ≤ _ by omega) (show d.n ≤ _ by omega), cl_some, Bool.not_true, cond_false]
  cases hw : watchB w with
  | false => rfl
  | true =>
  cases hd : delB w d with
  | false => rfl
  | true =>
  by_cases l1 : p < 0
  · simp only [l1, decide_true, cond_true, Bool.not_true, cond_false]
  by_cases l2 : 100 < p
  · simp only [l1, l2, decide_true, decide_false, cond_true, Bool.not_true, cond_false]
  by_cases l3 : l < 0
  · simp only [l1, l2, l3, decide_true, decide_false, cond_true, Bool.not_true, cond_false]
  by_cases l4 : 2880 < l
  · simp only [l1, l2, l3, l4, decide_true, decide_false, cond_true, Bool.not_true, cond_false]
  by_cases l5 : g < 0
  · simp only [l1, l2, l3, l4, l5, decide_true, decide_false, cond_true, Bool.not_true, cond_false]
  by_cases l6 : 99999 < g
  · simp only [l1, l2, l3, l4, l5, l6, decide_true, decide_false, cond_true, Bool.not_true, cond_false]
  obtain ⟨w1, w2, w3⟩ := small hw
  have dn := del_n hd
  have hp : 0 ≤ p ∧ p ≤ 100 := by omega
  have hl : 0 ≤ l ∧ l ≤ 2880 := by omega
  have hg : 0 ≤ g ∧ g ≤ 99999 := by omega
  have c1 : w.2.1.n * 56 ≤ 140737488355328 := by omega
  have c2 : (w.2.1.n + 1) * 56 ≤ 140737488355328 := by omega
  have c3 : w.2.2.1.n * 24 ≤ 140737488355328 := by omega
  have c4 : d.n * 8 ≤ 140737488355328 := by omega
  have c5 : (d.n + 1) * 8 ≤ 140737488355328 := by omega
  simp only [l1, l2, l3, l4, l5, l6, decide_false, cond_false, Bool.not_true]
  refine (congrArg (fun o => onExit o 0 _ _) (L9a_e hw dn p e l g r)).trans ?_
  simp only [xe9x0e0, c1, c2, c3, c4, c5, decide_true, cond_true]
  refine (congrArg (fun o => onExit o 2 _ _) (L9b_e hw d e g (lessS w d p) (xW w r) (yW w l))).trans ?_
  simp only [xe9x1e2]
  refine (congrArg (fun o => cl (r19).dflt o _ _) (M19xp hw hd)).trans ?_
  simp only [cl_some]
  refine (congrArg (fun o => cl (r19).dflt o _ _) (M19xp hw (less_del hw hd hp))).trans ?_
  simp only [cl_some]
  refine (congrArg (fun o => cl (r19).dflt o _ _) (M19xp (watch_y hw hl) (show delB (yW w l) d = true from hd))).trans ?_
  simp only [cl_some]
  refine (congrArg (fun o => cl (r19).dflt o _ _) (M19xp (watch_z hw hg) (show delB (zW w g) d = true from hd))).trans ?_
  simp only [cl_some]
  refine (congrArg (fun o => cl (r33).dflt o _ _) (M33xp hw hw hd (less_del hw hd hp) (fst_less hw hd hp))).trans ?_
  simp only [cl_some, Bool.not_true, cond_false]
  refine (congrArg (fun o => cl (r33).dflt o _ _) (M33xp hw (watch_y hw hl) hd (show delB (yW w l) d = true from hd) (fst_y hw hl hd))).trans ?_
  simp only [cl_some, Bool.not_true, cond_false]
  refine (congrArg (fun o => cl (r33).dflt o _ _) (M33xp (watch_z hw hg) hw (show delB (zW w g) d = true from hd) hd (fst_z hw hg hd))).trans ?_
  simp only [cl_some, Bool.not_true, cond_false]
  have xs : shortB (xW w r) = true := by
    have a1 : decide (w.2.1.n + 1 ≤ 12) = true := decide_eq_true (by omega)
    have a2 : decide (w.2.2.1.n ≤ 12) = true := decide_eq_true (by omega)
    have a3 : decide (w.2.2.2.1.n ≤ 8) = true := decide_eq_true (by omega)
    show (decide (w.2.1.n + 1 ≤ 12) && (decide (w.2.2.1.n ≤ 12) && decide (w.2.2.2.1.n ≤ 8))) = true
    rw [a1, a2, a3]; rfl
  refine (congrArg (fun o => cl (r20).dflt o _ _) (M20xe xs)).trans ?_
  simp only [cl_some]
  cases hx : watchB (xW w r) with
  | false => rfl
  | true =>
  simp only [Bool.not_true, cond_false]
  refine (congrArg (fun o => cl (r21).dflt o _ _) (M21xe (w := xW w r) (show w.2.1.n + 1 ≤ _ by omega) (d := snoc d (e, ())) (show d.n + 1 ≤ _ by omega))).trans ?_
  simp only [cl_some]
  cases hdx : delB (xW w r) (snoc d (e, ())) with
  | false => rfl
  | true =>
  simp only [Bool.not_true, cond_false]
  refine (congrArg (fun o => cl (r19).dflt o _ _) (M19xp hx hdx)).trans ?_
  simp only [cl_some]
  refine (congrArg (fun o => cl (r33).dflt o _ _) (M33xp hw hx hd hdx (fst_x hw hx hd hdx))).trans ?_
  rfl
theorem law9 (x : (a9).den) : M9 x = some (true, ()) := by
  obtain ⟨w, d, p, r, e, l, g, ⟨⟩⟩ := x
  exact M9xe w d p r e l g
end Go.Dm

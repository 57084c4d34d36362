/- Suffice. -/
import Derived.Test.YtlfifailjikhaaaL16CP17
set_option linter.unusedVariables false
set_option linter.unusedSimpArgs false
namespace Go.Dm
set_option maxRecDepth 100000

theorem fst_none {w : wT} (h : w.2.1.n = 0) (d : rowI) : fstR w d = -1 := by
  unfold fstR
  rw [h]
  rfl
theorem R113x0 {s : Sl repT} (h : s.n = 0) : ∃ t : Sl repT, t.n = 0 ∧ R113 (no_index (s, ())) = some t := by
  obtain ⟨n, f⟩ := s
  have h' : n = 0 := h
  subst h'
  exact ⟨⟨0, fun _ => Ty.dflt T7⟩, rfl, rfl⟩
theorem map_none {w w' : wT} (h : w.2.1.n = 0) (h' : w'.2.1.n = 0) (a b a' b' : Nat) : mapAt w a b = mapAt w' a' b' := by
  funext ⟨p, q, ⟨⟩⟩
  unfold mapAt
  have e1 : ¬ (0 ≤ p ∧ p < q ∧ q < (w.2.1.n : Int) ∧ (p < (a : Int) ∨ (p = (a : Int) ∧ q < (b : Int)))) := by omega
  have e2 : ¬ (0 ≤ p ∧ p < q ∧ q < (w'.2.1.n : Int) ∧ (p < (a' : Int) ∨ (p = (a' : Int) ∧ q < (b' : Int)))) := by omega
  simp only [e1, e2, decide_false, Bool.false_and, cond_false]
theorem M73x0 {w : wT} (h : w.2.1.n = 0) {u : rowI} (hu : u.n = 0) (m : Int) : M73 (no_index (lookK w, (u, (m, ())))) = some (false, ()) := by
  obtain ⟨t, t1, t2⟩ := R113x0 h
  have t1' : ((w.1, (t, w.2.2)) : wT).2.1.n = 0 := t1
  have e0 : M103 (no_index (w, (u, ()))) = some ((w.1, (t, w.2.2)), ()) := by
    have : ∀ b4 z : wT, L103x0 (no_index ((), ((), (u, (((u.n : Nat) : Int), (b4, ())))))) (no_index ((0 : Int), (z, ()))) = LQ.exit (wy := wv103x0) 0 (z, ()) := fun b4 z => by
      unfold L103x0
      refine iterQ_steps (ps := vs103x0) 0 big (fun j => ((j : Int), (z, ()))) (by unfold big; omega) (fun j hj => by omega) ?_
      unfold S103x0 Z103x0
      simp only [hu, Int.lt_irrefl, decide_false, cond_false]
    unfold M103 Q103
    refine (congrArg (fun o => cl _ o _ _) t2).trans ?_
    simp only [cl_some]
    refine (congrArg (fun o => onExit o 0 _ _) (this _ (w.1, (t, w.2.2)))).trans ?_
    rfl
  have em : kW (w.1, (t, w.2.2)) (mapAt w w.2.1.n (w.2.1.n + 1)) = lookK (w.1, (t, w.2.2)) := by
    unfold lookK
    rw [map_none h t1' _ _ _ _]
  unfold M73 Q73
  refine (congrArg (fun o => cl (r103).dflt o _ _) e0).trans ?_
  simp only [cl_some]
  have e1 : M62 (no_index (kW (w.1, (t, w.2.2)) (mapAt w w.2.1.n (w.2.1.n + 1)), ())) = some ((endS (w.1, (t, w.2.2)) false, (endS (w.1, (t, w.2.2)) true, ())), ()) := by
    rw [em]; exact M62xe (by omega)
  have e2 : M58 (no_index (kW (w.1, (t, w.2.2)) (mapAt w w.2.1.n (w.2.1.n + 1)), (endS (w.1, (t, w.2.2)) true, ()))) = some ((0 : Int), (false, ())) := by
    rw [em, M58xe (by omega) (endS_n _ _), fst_none t1']; rfl
  refine (congrArg (fun o => cl (r62).dflt o _ _) e1).trans ?_
  simp only [cl_some]
  refine (congrArg (fun o => cl (r58).dflt o _ _) e2).trans ?_
  rfl
theorem M73xa {w : wT} (hw : watchB w = true) {u : rowI} (hu : inU w u) (hn : u.n ≤ 1000) (m : Int) : M73 (no_index (lookK w, (u, (m, ())))) = some (sufB w u m, ()) := by
  by_cases h : w.2.1.n = 0
  · have h0 : u.n = 0 := by
      by_cases e : u.n = 0
      · exact e
      · have := hu 0 (by omega); omega
    rw [M73x0 h h0]
    unfold sufB sufI
    rw [fst_none (show (spW w u).2.1.n = 0 from (spL_n _ _ _).trans h)]
    rfl
  · exact M73xe hw (by omega) hu hn m
theorem M44xe {w : wT} (hs : shortB w = true) {u : rowI} (hn : u.n ≤ 1000) (m : Int) : M44 (no_index (w, (u, (m, ())))) = some (bif watchB w && (inB m 0 20000 && urgB w u) then (sufB w u m, ((0 : Int), ())) else (false, ((2 : Int), ()))) := by
  obtain ⟨s1, s2, s3⟩ := shortB_t hs
  unfold M44 Q44
  simp only [M55xe, M63xe, cl_some]
  cases hw : watchB w with
  | false => rfl
  | true =>
  cases inB m 0 20000 with
  | false => rfl
  | true =>
  simp only [L44xe (w := w) (show w.2.1.n ≤ 1000 by omega) (show u.n ≤ _ by omega) m, Bool.not_true, cond_false]
  cases hu : urgB w u with
  | false => simp
  | true =>
    simp only [cond_true, xe44x0e0, M57xe (show w.2.2.1.n ≤ _ by omega) (show w.2.1.n ≤ _ by omega), M73xa hw (urg_in (show w.2.1.n ≤ 1000 by omega) hu) hn, cl_some, Bool.and_self]
end Go.Dm

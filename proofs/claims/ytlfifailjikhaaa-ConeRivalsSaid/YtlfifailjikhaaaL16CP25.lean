/- Any urgent reports, and the best ones. -/
import Derived.Test.YtlfifailjikhaaaL16CP24
set_option linter.unusedVariables false
set_option linter.unusedSimpArgs false
namespace Go.Dm
set_option maxRecDepth 100000

theorem M15xe (w : wT) (u : rowI) (m : Int) : M15 (no_index (w, (u, (m, ())))) = some (true, ()) := by
  unfold M15 Q15
  simp only [M17xe, cl_some, known_M]
  cases hs : shortB w with
  | false => rfl
  | true =>
  by_cases hn : u.n ≤ 12
  case neg =>
    have : (12 : Int) < (u.n : Int) := by omega
    simp only [this, decide_true, cond_true, Bool.not_true, cond_false]
  have hn' : ¬ (12 : Int) < (u.n : Int) := by omega
  simp only [hn', decide_false, M44xe hs (show u.n ≤ 1000 by omega), M20xe hs, M27xe, M46xe w (show u.n ≤ 1000 by omega), cl_some, Bool.not_true, cond_false]
  cases hw : watchB w with
  | false => simp only [M45xn m (.inl hw), cl_some]; rfl
  | true =>
  cases hm : inB m 0 20000 with
  | false => simp only [M45xn m (.inr hm), cl_some]; rfl
  | true =>
  have h9 := (small hw).1
  have h47 := fun hu : urgB w u = true => M47xe hw (urg_in (w := w) (by omega) hu) (show u.n ≤ 1000 by omega) m
  rcases M45xe hw hm with ⟨r1, r2⟩ | ⟨l, c, r1, r2⟩
  · rcases M48xe hw m with ⟨s1, z, s2⟩ | ⟨z, s1, s2⟩
    · simp only [r2, s2, cl_some]
      cases hu : urgB w u with
      | false => rfl
      | true =>
        simp only [h47 hu, cl_some]
        cases sufB w u m <;> rfl
    · have := r1 z s2.urg
      rw [s2.suf] at this; cases this
  · rcases M48xe hw m with ⟨s1, z, s2⟩ | ⟨z, s1, s2⟩
    · have := s1 l r2.urg
      rw [r2.suf] at this; cases this
    · obtain ⟨q1, q2⟩ := r2.uniq h9 s2
      have i2 := (urg_inc (w := w) (by omega)).1 s2.urg
      have i1 := (urg_inc (w := w) (by omega)).1 r2.urg
      have e49 := M49xe (by have := i1.len; omega) q2
      have e50 := M50xe hw (urg_in (w := w) (by omega) s2.urg) (by have := i2.len; omega)
      simp only [r1, s1, e49, e50, q1, cl_some]
      cases hu : urgB w u with
      | false => simp
      | true =>
        simp only [h47 hu, cl_some]
        cases sufB w u m <;> simp
theorem law15 (x : (a15).den) : M15 x = some (true, ()) := by
  obtain ⟨w, u, m, ⟨⟩⟩ := x
  exact M15xe w u m
end Go.Dm

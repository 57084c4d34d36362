/- All links of a suite. -/
import Derived.Test.YtadkaccpacpklaaL4LP4
set_option linter.unusedVariables false
set_option linter.unusedSimpArgs false
namespace Go.Dm
set_option maxRecDepth 100000
open Go.Low
variable {s : tS.den} {same : sameT} {can : canT}
def z0 : Sl tKy.den := ⟨0, fun i => (((⟨0, fun i => ((0 : Int), ((⟨0, fun i => ((0 : Int), ((0 : Int), ((0 : Int), ((0 : Int), ((0 : Int), ((0 : Int), ()))))))⟩ : Sl _), ()))⟩ : Sl _), ((0 : Int), ((0 : Int), ((0 : Int), ((0 : Int), ((⟨0, fun i => ((⟨0, fun i => ((0 : Int), ())⟩ : Sl _), ())⟩ : Sl _), ())))))), ())⟩
def rS (k : Nat) : Sl tL1.den := ⟨k, fun _ => ((0 : Int), ())⟩
def rC (k : Nat) : Sl tB6.den := ⟨k, fun _ => ((0 : Int), ((0 : Int), ((0 : Int), ((0 : Int), ((0 : Int), ((0 : Int), ()))))))⟩
def nx0 (s : tS.den) (q : Int) (A : sameT) (B : canT) : RQ vs108x0 wv108x0 := .next (q, (((), ()), (lookS s, (((), ()), (A, (B, ()))))))
def nx1 (s : tS.den) (q : Int) (A : sameT) (B : canT) : RQ vs108x1 wv108x1 := .next (q, (((), ()), (lookS s, (((), ()), (A, (B, ()))))))
theorem L108x0_e (hs : (ofS s).Ok) :
    ∃ (same : sameT) (can : canT), same.n = s.1.n ∧ can.n = s.1.n ∧ (∀ t, t < s.1.n → (same.g t).n = (s.1.g t).2.1.n ∧ (can.g t).n = (s.1.g t).2.1.n) ∧
      L108x0 (z0, (s, ((), ((), ((), (s.1, ((s.1.n : Int), ()))))))) ((0 : Int), (((), ()), (lookS s, (((), ()), ((⟨s.1.n, fun _ => (⟨0, fun i => ((0 : Int), ())⟩ : Sl _)⟩ : sameT), ((⟨s.1.n, fun _ => (⟨0, fun i => ((0 : Int), ((0 : Int), ((0 : Int), ((0 : Int), ((0 : Int), ((0 : Int), ()))))))⟩ : Sl _)⟩ : canT), ())))))) =
        .exit 0 (((), ()), (lookS s, (((), ()), (same, (can, ()))))) := by
  have hn4 := small_n hs
  unfold L108x0
  obtain ⟨v, ⟨same, can, hv, h1, h2, h3⟩, h4⟩ := iterQ_rel (step := S108x0 (z0, (s, ((), ((), ((), (s.1, ((s.1.n : Int), ())))))))) (N := big)
    (P := fun j v => ∃ (same : sameT) (can : canT), v = ((j : Int), (((), ()), (lookS s, (((), ()), (same, (can, ())))))) ∧ same.n = s.1.n ∧ can.n = s.1.n ∧ (∀ t, t < j → (same.g t).n = (s.1.g t).2.1.n ∧ (can.g t).n = (s.1.g t).2.1.n))
    (q := fun v => .exit 0 v.2) s.1.n (by unfold big; omega) (fun j v hj hp => by
      obtain ⟨same, can, rfl, g1, g2, g3⟩ := hp
      have hk := small_k hs hj
      refine ⟨(((j + 1 : Nat) : Int), (((), ()), (lookS s, (((), ()), (setSl same j (rS (s.1.g j).2.1.n), (setSl can j (rC (s.1.g j).2.1.n), ())))))), ?_, _, _, rfl, g1, g2, fun t ht => ?_⟩
      · unfold S108x0 Z108x0
        have w1 : W ((j : Int) + 1) = ((j + 1 : Nat) : Int) := by rw [W_id ⟨by omega, by omega⟩]; rfl
        have a8 : (0 : Int) ≤ (((s.1.g j).2.1.n : Nat) : Int) ∧ ((((s.1.g j).2.1.n : Nat) : Int) ≤ 281474976710656 ∧ (((s.1.g j).2.1.n : Nat) : Int) * 8 ≤ 281474976710656) := by omega
        have a48 : (0 : Int) ≤ (((s.1.g j).2.1.n : Nat) : Int) ∧ ((((s.1.g j).2.1.n : Nat) : Int) ≤ 281474976710656 ∧ (((s.1.g j).2.1.n : Nat) : Int) * 48 ≤ 281474976710656) := by omega
        refine (bif_t (decide_eq_true (lt_ok hj))).trans ?_
        refine (bif_t (decide_eq_true (idx_ok hj))).trans ?_
        refine (bif_t (decide_eq_true a8)).trans ?_
        refine (bif_t (decide_eq_true a48)).trans ?_
        refine (bif_t (decide_eq_true (idx_ok (n := same.n) (by omega)))).trans ?_
        refine (bif_t (decide_eq_true (idx_ok (n := can.n) (by omega)))).trans ?_
        exact congrArg (fun q : Int => nx0 s q (setSl same j (rS (s.1.g j).2.1.n)) (setSl can j (rC (s.1.g j).2.1.n))) w1
      · by_cases e : t = j
        · subst e; rw [setSl_eq, setSl_eq]; exact ⟨rfl, rfl⟩
        · rw [setSl_ne _ e, setSl_ne _ e]; exact g3 t (by omega)) (fun v hp => by
      obtain ⟨same, can, rfl, g1, g2, g3⟩ := hp
      unfold S108x0 Z108x0
      have : ¬ ((s.1.n : Int) < (s.1.n : Int)) := by omega
      exact (bif_f (decide_eq_false this)).trans rfl) ((0 : Int), (((), ()), (lookS s, (((), ()), ((⟨s.1.n, fun _ => (⟨0, fun i => ((0 : Int), ())⟩ : Sl _)⟩ : sameT), ((⟨s.1.n, fun _ => (⟨0, fun i => ((0 : Int), ((0 : Int), ((0 : Int), ((0 : Int), ((0 : Int), ((0 : Int), ()))))))⟩ : Sl _)⟩ : canT), ())))))) ⟨_, _, rfl, rfl, rfl, fun t ht => by omega⟩
  refine ⟨same, can, h1, h2, h3, h4.trans ?_⟩
  rw [hv]
theorem L108x1_e (hs : (ofS s).Ok) (h1 : same.n = s.1.n) (h2 : can.n = s.1.n) (h3 : ∀ t, t < s.1.n → (same.g t).n = (s.1.g t).2.1.n ∧ (can.g t).n = (s.1.g t).2.1.n) :
    ∃ (same' : sameT) (can' : canT), Inv s [first (ofS s)] [] same' can' ∧
      L108x1 (z0, (s, ((), ((), ((), ((((s.1.g 0).2.1.n : Nat) : Int), ())))))) ((0 : Int), (((), ()), (lookS s, (((), ()), (same, (can, ())))))) = .exit 2 (((), ()), (lookS s, (((), ()), (same', (can', ()))))) := by
  have hn4 := small_n hs
  have hn1 : 0 < s.1.n := hs.n1
  have hk := small_k hs hn1
  unfold L108x1
  obtain ⟨v, ⟨same', can', hv, g1, g2, g3, g4⟩, g5⟩ := iterQ_rel (step := S108x1 (z0, (s, ((), ((), ((), ((((s.1.g 0).2.1.n : Nat) : Int), ()))))))) (N := big)
    (P := fun j v => ∃ (same : sameT) (can : canT), v = ((j : Int), (((), ()), (lookS s, (((), ()), (same, (can, ())))))) ∧ same.n = s.1.n ∧ can.n = s.1.n ∧ (∀ t, t < s.1.n → (same.g t).n = (s.1.g t).2.1.n ∧ (can.g t).n = (s.1.g t).2.1.n) ∧
      ∀ i, i < j → (same.g 0).g i = ((-1 : Int), ()) ∧ (can.g 0).g i = (s.1.g 0).2.1.g i)
    (q := fun v => .exit 2 v.2) (s.1.g 0).2.1.n (by unfold big; omega) (fun j v hj hp => by
      obtain ⟨same, can, rfl, g1, g2, g3, g4⟩ := hp
      refine ⟨(((j + 1 : Nat) : Int), (((), ()), (lookS s, (((), ()), (setSl same 0 (setSl (same.g 0) j ((-1 : Int), ())), (setSl can 0 (setSl (can.g 0) j ((s.1.g 0).2.1.g j)), ())))))), ?_, _, _, rfl, g1, g2, fun t ht => ?_, fun i hi' => ?_⟩
      · unfold S108x1 Z108x1
        have w1 : W ((j : Int) + 1) = ((j + 1 : Nat) : Int) := by rw [W_id ⟨by omega, by omega⟩]; rfl
        have b1 : (0 : Int) ≤ 0 ∧ (0 : Int) < (same.n : Int) := by omega
        have b2 : (0 : Int) ≤ 0 ∧ (0 : Int) < (can.n : Int) := by omega
        refine (bif_t (decide_eq_true (lt_ok hj))).trans ?_
        refine (bif_t (decide_eq_true b1)).trans ?_
        refine (bif_t (decide_eq_true b2)).trans ?_
        refine (cl_of (M94xe (t := 0) hn1 hj)).trans ?_
        refine (bif_t (decide_eq_true (idx_ok (n := (same.g 0).n) (by rw [(g3 0 hn1).1]; exact hj)))).trans ?_
        refine (bif_t (decide_eq_true (idx_ok (n := (can.g 0).n) (by rw [(g3 0 hn1).2]; exact hj)))).trans ?_
        exact congrArg (fun q : Int => nx1 s q (setSl same 0 (setSl (same.g 0) j ((-1 : Int), ()))) (setSl can 0 (setSl (can.g 0) j ((s.1.g 0).2.1.g j)))) w1
      · by_cases e : t = 0
        · subst e; rw [setSl_eq, setSl_eq]; exact g3 0 ht
        · rw [setSl_ne _ e, setSl_ne _ e]; exact g3 t ht
      · rw [setSl_eq, setSl_eq]
        by_cases e : i = j
        · subst e; rw [setSl_eq, setSl_eq]; exact ⟨rfl, rfl⟩
        · rw [setSl_ne _ e, setSl_ne _ e]; exact g4 i (by omega)) (fun v hp => by
      obtain ⟨same, can, rfl, g1, g2, g3, g4⟩ := hp
      unfold S108x1 Z108x1
      have : ¬ ((((s.1.g 0).2.1.n : Nat) : Int) < (((s.1.g 0).2.1.n : Nat) : Int)) := by omega
      exact (bif_f (decide_eq_false this)).trans rfl) ((0 : Int), (((), ()), (lookS s, (((), ()), (same, (can, ())))))) ⟨same, can, rfl, h1, h2, h3, fun i hi' => by omega⟩
  refine ⟨same', can', ⟨g1, g2, fun t ht => (g3 t ht).1, fun t ht => (g3 t ht).2, fun t ht i hi' => ?_, fun i hi' => by simp at hi', fun t ht i hi' => ?_, fun i hi' => by simp at hi'⟩, g5.trans ?_⟩
  · have : t = 0 := by simp at ht; exact ht
    subst this
    rw [(g4 i hi').1]
    show (-1 : Int) = (first (ofS s)).getD i (-1)
    simp only [first, List.getD_eq_getElem?_getD, List.getElem?_replicate]
    rw [if_pos (show i < (ofS s).k 0 from hi')]
    rfl
  · have : t = 0 := by simp at ht; exact ht
    subst this
    exact (g4 i hi').2
  · rw [hv]
theorem meas_small (hs : (ofS s).Ok) : measL (ofS s) (s.1.n - 1) 1 ≤ 20 := by
 have hn4 := small_n hs
 have h : ∀ m t, t + m ≤ s.1.n → measL (ofS s) m t ≤ 4 * m + 1 := by
  intro m
  induction m with
  | zero => intro t _; exact Nat.le_refl _
  | succ m ih =>
   intro t ht
   have h1 := ih (t + 1) (by omega)
   have h2 := small_k hs (t := t) (by omega)
   have h3 : (ofS s).k t = (s.1.g t).2.1.n := rfl
   simp only [measL, h3]
   omega
 have hn1 : 0 < s.1.n := hs.n1
 have := h (s.1.n - 1) 1 (by omega)
 omega
theorem M81xe (hs : (ofS s).Ok) : ∃ z : Sl tKy.den, M81 (no_index (s, ())) = some (z, ()) ∧ z.list.map toL = links (ofS s) ∧ ∀ it ∈ z.list, Good s it := by
 have hn4 := small_n hs
 have hn1 : 0 < s.1.n := hs.n1
 obtain ⟨same, can, h1, h2, h3, h4⟩ := L108x0_e hs
 obtain ⟨same', can', g1, g2⟩ := L108x1_e hs h1 h2 h3
 have hsh : Shape s [first (ofS s)] [] := ⟨by simp, hn1, fun t ht => by
   have : t = 0 := by simp at ht; exact ht
   subst this; simp [first]; rfl, fun t i x ht => by simp at ht, fun _ => Nat.zero_le _, fun _ => rfl, fun i x hx => by simp at hx⟩
 obtain ⟨z', same2, can2, items, f1, f2, f3, f4, f5⟩ := F109xe hs 20 [first (ofS s)] [] z0 0 0 same' can' (meas_small hs) hsh g1 (Int.le_refl _) hs.bn.1 (Int.le_refl _) hs.gn.1
 have hz : z0.list = [] := rfl
 rw [hz, List.nil_append] at f2
 refine ⟨z', ?_, by rw [f2, f3]; exact gen_links hs (meas_small hs), by rw [f2]; exact f4⟩
 have hu : u108 () (s, ()) = some z' := by
  unfold u108 Q108
  have a24 : (0 : Int) < (s.1.n : Int) ∧ ((s.1.n : Int) ≤ 281474976710656 ∧ (s.1.n : Int) * 24 ≤ 281474976710656) := by omega
  have a0 : (0 : Int) ≤ 0 ∧ (0 : Int) < (s.1.n : Int) := by omega
  refine (bif_t (decide_eq_true a24)).trans ?_
  refine (bif_t (decide_eq_true a24)).trans ?_
  refine (onExit_of h4).trans ?_
  refine (bif_t (decide_eq_true a0)).trans ?_
  refine (onExit_of g2).trans ?_
  refine (cl_of f1).trans ?_
  rfl
 unfold M81 Q81
 have hp : ip108 () (s, ()) = true := by show (u108 () (s, ())).isSome = true; rw [hu]; rfl
 refine (bif_t hp).trans ?_
 show some ((u108 () (s, ())).getD _, ()) = _
 rw [hu]
 rfl
end Go.Dm

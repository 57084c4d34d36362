/- The least and the greatest delays. -/
import Derived.Test.YtlfifailjikhaaaL15CP5
set_option linter.unusedVariables false
set_option linter.unusedSimpArgs false
namespace Go.Dm
set_option maxRecDepth 100000

def endI (w : wT) (b : Bool) (i : Nat) : Int × Unit := (bif b then (w.2.1.g i).2.2.2.2.1 else (w.2.1.g i).2.2.2.1, ())
def row0 : rowI := ⟨0, fun _ => ((0 : Int), ())⟩
def endS (w : wT) (b : Bool) : rowI := tab row0 (endI w b) w.2.1.n
theorem endS_n (w : wT) (b : Bool) : (endS w b).n = w.2.1.n := tab_n0 rfl
theorem endS_g (w : wT) (b : Bool) {i : Nat} (h : i < w.2.1.n) : (endS w b).g i = endI w b i := tab_g0 rfl h
theorem endS_del {w : wT} (hw : watchB w = true) (b : Bool) : delB w (endS w b) = true := by
  unfold delB
  rw [endS_n]
  simp only [decide_true, Bool.true_and]
  refine all_i fun j hj => ?_
  unfold delC
  rw [endS_g w b hj]
  have := rep_in hw hj
  unfold inB endI
  cases b
  · exact decide_eq_true ⟨Int.le_refl _, by show (w.2.1.g j).2.2.2.1 ≤ _; omega⟩
  · exact decide_eq_true ⟨by show _ ≤ (w.2.1.g j).2.2.2.2.1; omega, Int.le_refl _⟩
theorem M24xe {w : wT} (h : w.2.1.n ≤ 1000) (b : Bool) : M24 (no_index (w, (b, ()))) = some (endS w b, ()) := by
  have : L24x0 (no_index (b, ((), (w, ())))) (no_index (row0, ((0 : Int), ()))) = .exit 0 (endS w b, ()) := by
    unfold L24x0
    refine iterQ_steps (ps := vs24x0) w.2.1.n big (fun j => (tab row0 (endI w b) j, ((j : Int), ()))) (big_lt (by omega)) (fun j hj => ?_) ?_
    · have hb : ((tab row0 (endI w b) j).n + 1) * 8 ≤ 140737488355328 := by rw [tab_n0 rfl]; omega
      unfold S24x0 Z24x0
      simp only [lt_ok hj, idx_ok hj, W_nat hj (show w.2.1.n ≤ _ by omega), decide_true, cond_true, and_self, Int.toNat_natCast, hb]
      cases b <;> rfl
    · unfold S24x0 Z24x0
      simp only [Int.lt_irrefl, decide_false, cond_false]
      rfl
  unfold M24 Q24
  refine (congrArg (fun o => onExit o 0 _ _) this).trans ?_
  rfl
theorem L62a_e {n : Nat} (hn : n ≤ 1000) (F : Int × Unit → Bool × (Int × Unit)) (y : Nat → Int × Unit) (hF : ∀ j, j < n → F ((j : Int), ()) = (true, y j)) (p2 : (Ty.den T75)) (k : kT) (bx2 : (rowI × rowI × Unit) × Unit) (r2 : rowI) :
    L62x0_0v0 (no_index ((), ((), ((), ((), (F, (p2, ((0 : Int), ((n : Int), (k, bx2)))))))))) (no_index ((0 : Int), ((row0, (r2, ())), ()))) = .exit 2 ((tab row0 y n, (r2, ())), ()) := by
  unfold L62x0_0v0
  refine iterQ_steps (ps := vs62x0_0v0) n big (fun j => ((j : Int), ((tab row0 y j, (r2, ())), ()))) (big_lt (by omega)) (fun j hj => ?_) ?_
  · have hb : ((tab row0 y j).n + 1) * 8 ≤ 140737488355328 := by rw [tab_n0 rfl]; omega
    unfold S62x0_0v0 Z62x0_0v0
    simp only [lt_ok hj, W_nat hj (show n ≤ _ by omega), hF j hj, decide_true, cond_true, hb]
    rfl
  · unfold S62x0_0v0 Z62x0_0v0
    simp only [Int.lt_irrefl, decide_false, cond_false]
theorem L62b_e {n : Nat} (hn : n ≤ 1000) (F : Int × Unit → Bool × (Int × Unit)) (y : Nat → Int × Unit) (hF : ∀ j, j < n → F ((j : Int), ()) = (true, y j)) (p2 : (Ty.den T75)) (k : kT) (bx2 : (rowI × rowI × Unit) × Unit) (r1 : rowI) :
    L62x0_0v1 (no_index ((), ((), ((), ((), (F, (p2, ((1 : Int), ((n : Int), (k, bx2)))))))))) (no_index ((0 : Int), ((r1, (row0, ())), ()))) = .exit 2 ((r1, (tab row0 y n, ())), ()) := by
  unfold L62x0_0v1
  refine iterQ_steps (ps := vs62x0_0v1) n big (fun j => ((j : Int), ((r1, (tab row0 y j, ())), ()))) (big_lt (by omega)) (fun j hj => ?_) ?_
  · have hb : ((tab row0 y j).n + 1) * 8 ≤ 140737488355328 := by rw [tab_n0 rfl]; omega
    unfold S62x0_0v1 Z62x0_0v1
    simp only [lt_ok hj, W_nat hj (show n ≤ _ by omega), hF j hj, decide_true, cond_true, hb]
    rfl
  · unfold S62x0_0v1 Z62x0_0v1
    simp only [Int.lt_irrefl, decide_false, cond_false]
theorem M97xe {w : wT} {j : Nat} (hj : j < w.2.1.n) : M97 (no_index (lookK w, ((j : Int), ()))) = some (endI w false j) := by
  unfold M97 Q97
  simp only [lookK, kW, idx_ok hj, and_self, decide_true, cond_true, Int.toNat_natCast]
  rfl
theorem M98xe {w : wT} {j : Nat} (hj : j < w.2.1.n) : M98 (no_index (lookK w, ((j : Int), ()))) = some (endI w true j) := by
  unfold M98 Q98
  simp only [lookK, kW, idx_ok hj, and_self, decide_true, cond_true, Int.toNat_natCast]
  rfl
theorem M62xe {w : wT} (h : w.2.1.n ≤ 1000) : M62 (no_index (lookK w, ())) = some ((endS w false, (endS w true, ())), ()) := by
  have f1 : ∀ j, j < w.2.1.n → (fun y1 : Int × Unit => ((p97 (lookK w, y1)), (v97 (lookK w, y1)))) ((j : Int), ()) = (true, endI w false j) := fun j hj => by
    simp only [p97, v97, M97xe hj]; rfl
  have f2 : ∀ j, j < w.2.1.n → (fun y1 : Int × Unit => ((p98 (lookK w, y1)), (v98 (lookK w, y1)))) ((j : Int), ()) = (true, endI w true j) := fun j hj => by
    simp only [p98, v98, M98xe hj]; rfl
  unfold M62 Q62
  refine (congrArg (fun o => onExit o 2 _ _) (L62a_e h _ _ f1 _ (lookK w) _ row0)).trans ?_
  refine (congrArg (fun o => onExit o 2 _ _) (L62b_e h _ _ f2 _ (lookK w) _ (endS w false))).trans ?_
  rfl
def seeV (w : wT) : Int × Int × Int × Unit := bif decide (fstR w (endS w false) < 0) then ((0 : Int), ((0 : Int), ((5 : Int), ()))) else (fstR w (endS w false), (bif decide (fstR w (endS w true) < 0) then (-1 : Int) else fstR w (endS w true), ((0 : Int), ())))
theorem M23xe {w : wT} (hw : watchB w = true) : M23 (no_index (w, ())) = some (seeV w) := by
  obtain ⟨h1, h2, h3⟩ := small hw
  unfold M23 Q23 seeV
  simp only [M55xe, hw, cl_some, M57xe (show w.2.2.1.n ≤ _ by omega) (show w.2.1.n ≤ _ by omega), M62xe (show w.2.1.n ≤ _ by omega), M58xe (show w.2.1.n ≤ _ by omega) (endS_n w false), M58xe (show w.2.1.n ≤ _ by omega) (endS_n w true), Bool.not_true, cond_false]
  cases decide (fstR w (endS w false) < 0) with
  | true => rfl
  | false => cases decide (fstR w (endS w true) < 0) <;> rfl
theorem M23xn {w : wT} (hw : watchB w = false) : M23 (no_index (w, ())) = some ((0 : Int), ((0 : Int), ((2 : Int), ()))) := by
  unfold M23 Q23
  simp only [M55xe, hw, cl_some, Bool.not_false, cond_true]
theorem neg1 {x : Int} (h : x = -1 ∨ 0 ≤ x) (hx : x < 0) : x = -1 := by omega

/-! later delays, later sights -/
theorem mx_mono {a b c d : Int} (h1 : a ≤ c) (h2 : b ≤ d) : mx a b ≤ mx c d := by
  have := mx_or a b
  have := mx_or c d
  omega
theorem fst_mono {w : wT} (hw : watchB w = true) {d d' : rowI} (hd : delB w d = true) (hd' : delB w d' = true) (h : ∀ i, i < w.2.1.n → (d.g i).1 ≤ (d'.g i).1) (h0 : 0 ≤ fstR w d') : 0 ≤ fstR w d ∧ fstR w d ≤ fstR w d' := by
  rcases fstR_min hw hd' with ⟨e, _⟩ | ⟨_, ⟨i, j, h1, h2, h3, h4, h5⟩, _⟩
  · omega
  have m1 : mI w d i ≤ mI w d' i := by rw [mI_e hw hd h1, mI_e hw hd' h1]; have := h i h1; omega
  have m2 : mI w d j ≤ mI w d' j := by rw [mI_e hw hd h2, mI_e hw hd' h2]; have := h j h2; omega
  have hle : loI w d (prN i j) ≤ loI w d' (prN i j) := mx_mono m1 m2
  have hs : SeenP w d (loI w d (prN i j)) := ⟨i, j, h1, h2, h3, by omega, rfl⟩
  rcases fstR_min hw hd with ⟨_, n⟩ | ⟨p1, _, p3⟩
  · exact absurd hs (n _)
  · have := p3 _ hs
    exact ⟨p1, by omega⟩
theorem del_le {w : wT} {d : rowI} (h : delB w d = true) {i : Nat} (hi : i < w.2.1.n) : ((endS w false).g i).1 ≤ (d.g i).1 ∧ (d.g i).1 ≤ ((endS w true).g i).1 := by
  simp only [delB, Bool.and_eq_true] at h
  have := inB_t (all_t h.2 hi)
  rw [endS_g w false hi, endS_g w true hi]
  exact this

theorem M4xe (w : wT) : M4 (no_index (w, ())) = some (true, ()) := by
  unfold M4 Q4
  simp only [M17xe, cl_some, known_M]
  cases hs : shortB w with
  | false => rfl
  | true =>
  simp only [M20xe hs, cl_some, Bool.not_true, cond_false]
  cases hw : watchB w with
  | false => simp only [M23xn hw, cl_some]; rfl
  | true =>
  obtain ⟨h1, h2, h3⟩ := small hw
  have d0 := endS_del hw false
  have d1 := endS_del hw true
  simp only [M23xe hw, M24xe (show w.2.1.n ≤ 1000 by omega), M22xe hw (endS_n w _), fst_eq hw d0, fst_eq hw d1, cl_some, Bool.not_true, cond_false]
  unfold seeV
  rcases fst_lt hw d0 with e | e
  · rw [e]; rfl
  · have n0 : ¬ fstR w (endS w false) < 0 := by omega
    simp only [n0, decide_false, cond_false]
    rcases fst_lt hw d1 with f | f
    · rw [f]; simp
    · have n1 : ¬ fstR w (endS w true) < 0 := by omega
      simp [n1]
theorem M6xe (w : wT) : M6 (no_index (w, ())) = some (true, ()) := by
  unfold M6 Q6
  simp only [M17xe, cl_some, known_M]
  cases hs : shortB w with
  | false => rfl
  | true =>
  simp only [M20xe hs, cl_some, Bool.not_true, cond_false]
  cases hw : watchB w with
  | false => rfl
  | true =>
  obtain ⟨h1, h2, h3⟩ := small hw
  have d0 := endS_del hw false
  have d1 := endS_del hw true
  simp only [M23xe hw, M24xe (show w.2.1.n ≤ 1000 by omega), M19xe (show w.2.1.n ≤ _ by omega) (show w.2.2.1.n ≤ _ by omega), hw, d0, d1, cl_some, Bool.not_true, cond_false]
  unfold seeV
  rcases fst_lt hw d0 with e | e
  · have q : fstR w (endS w true) = -1 := by
      rcases fst_lt hw d1 with f | f
      · exact f
      · have := (fst_mono hw d0 d1 (fun i hi => by have := del_le d0 hi; omega) f).1
        omega
    rw [e, q]; rfl
  · have n0 : ¬ fstR w (endS w false) < 0 := by omega
    simp only [n0, decide_false, cond_false]
    rcases fst_lt hw d1 with f | f
    · rw [f]; simp
    · have n1 : ¬ fstR w (endS w true) < 0 := by omega
      simp [n1]
theorem M5xe (w : wT) (d : rowI) : M5 (no_index (w, (d, ()))) = some (true, ()) := by
  unfold M5 Q5
  simp only [M17xe, cl_some, known_M]
  cases hs : shortB w with
  | false => rfl
  | true =>
  by_cases hn : d.n ≤ 12
  case neg =>
    have : (12 : Int) < (d.n : Int) := by omega
    simp only [this, decide_true, cond_true, Bool.not_true, cond_false]
  have hn' : ¬ (12 : Int) < (d.n : Int) := by omega
  obtain ⟨s1, s2, s3⟩ := shortB_t hs
  simp only [hn', decide_false, M20xe hs, M21xe (show w.2.1.n ≤ _ by omega) (show d.n ≤ _ by omega), cl_some, Bool.not_true, cond_false]
  cases hw : watchB w with
  | false => rfl
  | true =>
  cases hd : delB w d with
  | false => rfl
  | true =>
  have d0 := endS_del hw false
  have d1 := endS_del hw true
  have l0 : 0 ≤ fstR w d → 0 ≤ fstR w (endS w false) ∧ fstR w (endS w false) ≤ fstR w d := fst_mono hw d0 hd fun i hi => (del_le hd hi).1
  have l1 : 0 ≤ fstR w (endS w true) → 0 ≤ fstR w d ∧ fstR w d ≤ fstR w (endS w true) := fst_mono hw hd d1 fun i hi => (del_le hd hi).2
  simp only [M23xe hw, M19xe (show w.2.1.n ≤ _ by omega) (show w.2.2.1.n ≤ _ by omega), hw, hd, cl_some, Bool.not_true, cond_false]
  unfold seeV
  rcases fst_lt hw d0 with e | e
  · have q : fstR w d = -1 := by
      rcases fst_lt hw hd with f | f
      · exact f
      · have := (l0 f).1; omega
    rw [e, q]; rfl
  · have n0 : ¬ fstR w (endS w false) < 0 := by omega
    simp only [n0, decide_false, cond_false]
    rcases fst_lt hw d1 with f | f
    · rw [f]
      rcases fst_lt hw hd with g | g
      · rw [g]; simp [e]
      · have n2 : ¬ fstR w d < 0 := by omega
        simp [n2, e, (l0 g).2]
    · obtain ⟨g1, g2⟩ := l1 f
      have n1 : ¬ fstR w (endS w true) < 0 := by omega
      have n2 : ¬ fstR w d < 0 := by omega
      have n3 : ¬ fstR w (endS w true) < fstR w d := by omega
      have n4 : ¬ fstR w (endS w true) < fstR w (endS w false) := by have := (l0 g1).2; omega
      have n5 : ¬ fstR w (endS w true) = -1 := by omega
      simp [n1, n2, n3, n4, n5, e, (l0 g1).2]
theorem law4 (x : (a4).den) : M4 x = some (true, ()) := by
  obtain ⟨w, ⟨⟩⟩ := x
  exact M4xe w
theorem law5 (x : (a5).den) : M5 x = some (true, ()) := by
  obtain ⟨w, d, ⟨⟩⟩ := x
  exact M5xe w d
theorem law6 (x : (a6).den) : M6 x = some (true, ()) := by
  obtain ⟨w, ⟨⟩⟩ := x
  exact M6xe w
end Go.Dm

/- Urgent reports: the watch with them. -/
import Derived.Test.YtlfifailjikhaaaL16CP6
set_option linter.unusedVariables false
set_option linter.unusedSimpArgs false
namespace Go.Dm
set_option maxRecDepth 100000

def least (a b : Int) : Int := mn a b
def upU (r : repT) : repT := (r.1, (r.2.1, (r.2.2.1, (mn r.2.2.2.1 r.2.2.2.2.2.1, (mn r.2.2.2.2.1 r.2.2.2.2.2.1, r.2.2.2.2.2)))))
def spL (s : Sl repT) (u : rowI) : Nat → Sl repT
  | 0 => s
  | j + 1 => setSl (spL s u j) (u.g j).1.toNat (upU ((spL s u j).g (u.g j).1.toNat))
theorem spL_n (s : Sl repT) (u : rowI) : ∀ k, (spL s u k).n = s.n
  | 0 => rfl
  | k + 1 => spL_n s u k
def spV (w : wT) (u : rowI) (j : Nat) : wT := (w.1, (spL w.2.1 u j, w.2.2))
def spW (w : wT) (u : rowI) : wT := spV w u u.n
def inU (w : wT) (u : rowI) : Prop := ∀ j, j < u.n → 0 ≤ (u.g j).1 ∧ (u.g j).1 < (w.2.1.n : Int)
theorem M51xe {w : wT} (h : w.2.1.n ≤ 1000) {u : rowI} (hu : inU w u) (hn : u.n ≤ 1000) : M51 (no_index (w, (u, ()))) = some (spW w u, ()) := by
  have hb : w.2.1.n * 56 ≤ 140737488355328 := by omega
  have : ∀ b4 : wT, L51x0 (no_index (u, ((), ((), (b4, ()))))) (no_index ((0 : Int), (spV w u 0, ()))) = LQ.exit (wy := wv51x0) 0 (spW w u, ()) := fun b4 => by
    unfold L51x0
    refine iterQ_steps (ps := vs51x0) u.n big (fun j => ((j : Int), (spV w u j, ()))) (big_lt (by omega)) (fun j hj => ?_) ?_
    · have hx : 0 ≤ (u.g j).1 ∧ (u.g j).1 < ((spL w.2.1 u j).n : Int) := by rw [spL_n]; exact hu j hj
      unfold S51x0 Z51x0
      simp only [spV, lt_ok hj, idx_ok hj, W_nat hj (show u.n ≤ _ by omega), hx, decide_true, cond_true, and_self, Int.toNat_natCast]
      rfl
    · unfold S51x0 Z51x0
      simp only [Int.lt_irrefl, decide_false, cond_false]
      rfl
  unfold M51 Q51
  simp only [hb, decide_true, cond_true]
  refine (congrArg (fun o => onExit o 0 _ _) (this _)).trans ?_
  rfl
theorem R113xe {s : Sl repT} (h0 : 0 < s.n) (h : s.n ≤ 1000) : R113 (no_index (s, ())) = some s := by
  have hb : s.n * 56 ≤ 140737488355328 := by omega
  have h1 : Nat.blt 0 s.n = true := by rw [Nat.blt_eq]; exact h0
  unfold R113 X113
  simp only [h1, hb, decide_true, cond_true]
  rfl
theorem M103xe {w : wT} (h0 : 0 < w.2.1.n) (h : w.2.1.n ≤ 1000) {u : rowI} (hu : inU w u) (hn : u.n ≤ 1000) : M103 (no_index (w, (u, ()))) = some (spW w u, ()) := by
  have : ∀ b4 : wT, L103x0 (no_index ((), ((), (u, (((u.n : Nat) : Int), (b4, ())))))) (no_index ((0 : Int), (spV w u 0, ()))) = LQ.exit (wy := wv103x0) 0 (spW w u, ()) := fun b4 => by
    unfold L103x0
    refine iterQ_steps (ps := vs103x0) u.n big (fun j => ((j : Int), (spV w u j, ()))) (big_lt (by omega)) (fun j hj => ?_) ?_
    · have hx : 0 ≤ (u.g j).1 ∧ (u.g j).1 < ((spL w.2.1 u j).n : Int) := by rw [spL_n]; exact hu j hj
      unfold S103x0 Z103x0
      simp only [spV, lt_ok hj, idx_ok hj, W_nat hj (show u.n ≤ _ by omega), hx, decide_true, cond_true, and_self, Int.toNat_natCast]
      rfl
    · unfold S103x0 Z103x0
      simp only [Int.lt_irrefl, decide_false, cond_false]
      rfl
  unfold M103 Q103
  refine (congrArg (fun o => cl _ o _ _) (R113xe h0 h)).trans ?_
  simp only [cl_some]
  refine (congrArg (fun o => onExit o 0 _ _) (this _)).trans ?_
  rfl

/-! what stays, and what is good -/
def same (r s : repT) : Prop := r.1 = s.1 ∧ r.2.1 = s.2.1 ∧ r.2.2.1 = s.2.2.1 ∧ r.2.2.2.2.2 = s.2.2.2.2.2
theorem spL_same (s : Sl repT) (u : rowI) : ∀ (k i : Nat), same ((spL s u k).g i) (s.g i)
  | 0, i => ⟨rfl, rfl, rfl, rfl⟩
  | k + 1, i => by
    show same (bif Nat.beq i (u.g k).1.toNat then upU ((spL s u k).g (u.g k).1.toNat) else (spL s u k).g i) (s.g i)
    cases h : Nat.beq i (u.g k).1.toNat with
    | false => exact spL_same s u k i
    | true =>
      have e := Nat.eq_of_beq_eq_true h
      rw [← e]
      exact spL_same s u k i
theorem alM_sp (w : wT) (u : rowI) (i j : Nat) : alM (spW w u) i j = alM w i j := by
  obtain ⟨a1, a2, a3, _⟩ := spL_same w.2.1 u u.n i
  obtain ⟨b1, b2, b3, _⟩ := spL_same w.2.1 u u.n j
  show alB (spW w u) ((spL w.2.1 u u.n).g i) ((spL w.2.1 u u.n).g j) = alB w (w.2.1.g i) (w.2.1.g j)
  unfold alB fallB linkA diffB betw
  rw [a1, a2, a3, b1, b2, b3]
  rfl
theorem map_sp (w : wT) (u : rowI) (a b : Nat) : mapAt (spW w u) a b = mapAt w a b := by
  funext y
  unfold mapAt
  rw [alM_sp, show (spW w u).2.1.n = w.2.1.n from spL_n _ _ _]
theorem look_sp (w : wT) (u : rowI) : kW (spW w u) (mapAt w w.2.1.n (w.2.1.n + 1)) = lookK (spW w u) := by
  unfold lookK
  rw [map_sp, show (spW w u).2.1.n = w.2.1.n from spL_n _ _ _]
end Go.Dm

/- Truths of flights: how long they take, and how far they come. -/
import Derived.Test.YtlfgdpjompacjaaL11NP6
set_option linter.unusedVariables false
set_option linter.unusedSimpArgs false
namespace Go.Dm
set_option maxRecDepth 100000

abbrev flyT : Type := Sl layerT × Int × Int × Int × Int × Int × Int × Int × Int × Int × Int × Int × Int × Int × Int × Int × Unit
/-- A flight with its speeds and its top. -/
def fly (f : flightT) (up down top : Int) : flyT := (f.1, (f.2.1, (f.2.2.1, (f.2.2.2.1, (f.2.2.2.2.1, (f.2.2.2.2.2.1, (f.2.2.2.2.2.2.1, (f.2.2.2.2.2.2.2.1, (f.2.2.2.2.2.2.2.2.1, (f.2.2.2.2.2.2.2.2.2.1, (f.2.2.2.2.2.2.2.2.2.2.1, (f.2.2.2.2.2.2.2.2.2.2.2.1, (f.2.2.2.2.2.2.2.2.2.2.2.2.1, (up, (down, (top, ()))))))))))))))))
/-- For how many minutes a balloon is in a layer. -/
def mins (l : Sl layerT) (up down top : Int) (j : Nat) : Int := bif decide (top ≤ (j : Int)) then 0 else W ((W (Int.tdiv (W ((W ((l.g j).1 + up)) - (1 : Int))) up)) + (W (Int.tdiv (W ((W ((l.g j).1 + down)) - (1 : Int))) down)))
theorem M118xe (f : flightT) {up down top : Int} (hu : up ≠ 0) (hd : down ≠ 0) {j : Nat} (hj : j < f.1.n) : M118 (fly f up down top, ((j : Int), ())) = some (mins f.1 up down top j, ()) := by
  have e1 : ((j : Int) < ((f.1.n : Nat) : Int)) := by omega
  unfold M118 Q118 fly mins
  by_cases h : top ≤ (j : Int)
  · simp [h]
  · simp [h, e1, hu, hd]
theorem p118xe (f : flightT) {up down top : Int} (hu : up ≠ 0) (hd : down ≠ 0) {j : Nat} (hj : j < f.1.n) : p118 (fly f up down top, ((j : Int), ())) = true := by simp [p118, M118xe f hu hd hj]
theorem v118xe (f : flightT) {up down top : Int} (hu : up ≠ 0) (hd : down ≠ 0) {j : Nat} (hj : j < f.1.n) : v118 (fly f up down top, ((j : Int), ())) = (mins f.1 up down top j, ()) := by simp [v118, M118xe f hu hd hj]

/-- Sums, one behind the other. -/
def sums (g : Nat → Int) : Nat → Int
  | 0 => 0
  | j + 1 => W (sums g j + g j)
theorem sums_congr {g h : Nat → Int} : ∀ {n : Nat}, (∀ j, j < n → g j = h j) → sums g n = sums h n
  | 0, _ => rfl
  | n + 1, e => by simp only [sums]; rw [sums_congr fun j hj => e j (by omega), e n (by omega)]

def drift (f : flightT) (up down top : Int) (w : rowI) : Int := sums (fun j => W ((w.g j).1 * mins f.1 up down top j)) w.n
theorem M95xe (f : flightT) {up down top : Int} {w : rowI} (hu : up ≠ 0) (hd : down ≠ 0) (hw : w.n = f.1.n) (h : f.1.n ≤ 140737488355328) :
    M95 (fly f up down top, (w, ())) = some (drift f up down top w, ()) := by
  have : L95x0 ((), (w, (((w.n : Nat) : Int), (fly f up down top, ())))) ((0 : Int), ((0 : Int), ())) = .exit 0 (drift f up down top w, ()) := by
    unfold L95x0
    refine iterQ_steps (ps := vs95x0) w.n big (fun j => (sums (fun j => W ((w.g j).1 * mins f.1 up down top j)) j, ((j : Int), ()))) (big_lt (by omega)) (fun j hj => ?_) ?_
    · have e1 : ((j : Int) < ((w.n : Nat) : Int)) := by omega
      have e3 : W ((j : Int) + 1) = ((j + 1 : Nat) : Int) := by rw [W_id ⟨by omega, by omega⟩]; rfl
      have hj' : j < f.1.n := by omega
      unfold S95x0 Z95x0
      simp only [cq118, p118xe f (top := top) hu hd hj', v118xe f (top := top) hu hd hj', e1, e3, decide_true, cond_true, Int.toNat_natCast, Int.natCast_nonneg, and_self, sums]
    · unfold S95x0 Z95x0
      simp [cq118, drift]
  unfold M95 Q95
  simp only [cq118, this]
  simp
def flown (f : flightT) (up down top : Int) : Int := sums (mins f.1 up down top) f.1.n
theorem M96xe (f : flightT) {up down top : Int} (hu : up ≠ 0) (hd : down ≠ 0) (h : f.1.n ≤ 140737488355328) :
    M96 (fly f up down top, ()) = some (flown f up down top, ()) := by
  have : L96x0 ((), (((f.1.n : Nat) : Int), (fly f up down top, ()))) ((0 : Int), ((0 : Int), ())) = .exit 0 (flown f up down top, ()) := by
    unfold L96x0
    refine iterQ_steps (ps := vs96x0) f.1.n big (fun j => (sums (mins f.1 up down top) j, ((j : Int), ()))) (big_lt (by omega)) (fun j hj => ?_) ?_
    · have e1 : ((j : Int) < ((f.1.n : Nat) : Int)) := by omega
      have e3 : W ((j : Int) + 1) = ((j + 1 : Nat) : Int) := by rw [W_id ⟨by omega, by omega⟩]; rfl
      unfold S96x0 Z96x0
      simp only [cq118, p118xe f (top := top) hu hd hj, v118xe f (top := top) hu hd hj, e1, e3, decide_true, cond_true, sums]
    · unfold S96x0 Z96x0
      simp [cq118, flown]
  unfold M96 Q96
  have e : (fly f up down top).1.n = f.1.n := rfl
  simp only [cq118, e, this]
  simp
/-! the reference -/
def times (f : flightT) (up down top : Int) (j : Nat) : rowI := tab ⟨0, fun _ => ((0 : Int), ())⟩ (fun i => (mins f.1 up down top i, ())) j
theorem times_n (f : flightT) (up down top : Int) (j : Nat) : (times f up down top j).n = j := by unfold times; rw [tab_n]; show 0 + j = j; omega
theorem times_g (f : flightT) {up down top : Int} {i j : Nat} (h : i < j) : (times f up down top j).g i = (mins f.1 up down top i, ()) := tab_g0 (s0 := ⟨0, fun _ => ((0 : Int), ())⟩) rfl h
theorem M99xe (f : flightT) {up down top : Int} (hu : up ≠ 0) (hd : down ≠ 0) (h : f.1.n ≤ 8) :
    M99 (f, (up, (down, (top, ())))) = some (times f up down top f.1.n, ()) := by
  have : L99x0 (up, (down, (top, ((), (f, ()))))) ((⟨0, fun _ => ((0 : Int), ())⟩ : rowI), ((0 : Int), ())) = .exit 0 (times f up down top f.1.n, ()) := by
    unfold L99x0
    refine iterQ_steps (ps := vs99x0) f.1.n big (fun j => (times f up down top j, ((j : Int), ()))) (big_lt (by omega)) (fun j hj => ?_) ?_
    · have e1 : ((j : Int) < ((f.1.n : Nat) : Int)) := by omega
      have e3 : W ((j : Int) + 1) = ((j + 1 : Nat) : Int) := by rw [W_id ⟨by omega, by omega⟩]; rfl
      have e6 : (times f up down top j).n + 1 ≤ 17 := by rw [times_n]; omega
      have e7 : ((times f up down top j).n + 1) * 8 ≤ 140737488355328 := by omega
      unfold S99x0 Z99x0
      by_cases ht : top ≤ (j : Int)
      · have h1 : ¬ ((j : Int) < top) := by omega
        have h2 : mins f.1 up down top j = 0 := by unfold mins; simp [ht]
        have h3 : times f up down top (j + 1) = snoc (times f up down top j) ((0 : Int), ()) := by unfold times; rw [tab, h2]
        simp only [h1, e1, e3, e7, decide_true, decide_false, cond_true, cond_false, h3]
        rfl
      · have h1 : (j : Int) < top := by omega
        have h3 : times f up down top (j + 1) = snoc (times f up down top j) (mins f.1 up down top j, ()) := by unfold times; rw [tab]
        have h2 : mins f.1 up down top j = W ((W (Int.tdiv (W ((W ((f.1.g j).1 + up)) - (1 : Int))) up)) + (W (Int.tdiv (W ((W ((f.1.g j).1 + down)) - (1 : Int))) down))) := by unfold mins; simp [ht]
        simp only [h1, e1, e3, e7, hu, hd, decide_true, decide_false, cond_true, cond_false, h3, h2, Int.toNat_natCast, Int.natCast_nonneg, and_self]
        rfl
    · unfold S99x0 Z99x0
      simp
  unfold M99 Q99
  simp only [this]
  simp
theorem M101xe {a : rowI} (hb : a.n ≤ 140737488355328) : M101 (a, ()) = some (sums (fun j => (a.g j).1) a.n, ()) := by
  have : L101x0 (a, ()) ((0 : Int), ((0 : Int), ())) = .exit 0 (sums (fun j => (a.g j).1) a.n, ()) := by
    unfold L101x0
    refine iterQ_steps (ps := vs101x0) a.n big (fun j => (sums (fun j => (a.g j).1) j, ((j : Int), ()))) (big_lt (by omega)) (fun j hj => ?_) ?_
    · have e1 : ((j : Int) < ((a.n : Nat) : Int)) := by omega
      have e3 : W ((j : Int) + 1) = ((j + 1 : Nat) : Int) := by rw [W_id ⟨by omega, by omega⟩]; rfl
      unfold S101x0 Z101x0
      simp only [e1, e3, decide_true, cond_true, Int.toNat_natCast, Int.natCast_nonneg, and_self, sums]
    · unfold S101x0 Z101x0
      simp
  unfold M101 Q101
  simp only [this]
  simp
end Go.Dm


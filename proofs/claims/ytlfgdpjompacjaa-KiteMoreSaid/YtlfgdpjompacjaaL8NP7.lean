/- Truths of flights: how long they take, and how far they come. -/
import Derived.Test.YtlfgdpjompacjaaL8NP6
set_option linter.unusedVariables false
set_option linter.unusedSimpArgs false
namespace Go.Dm
set_option maxRecDepth 100000

abbrev flyT : Type := Sl layerT × Int × Int × Int × Int × Int × Int × Int × Int × Int × Int × Int × Int × Int × Int × Int × Unit
abbrev truthT : Type := Int × Int × Int × rowI × rowI × Unit
/-- A flight with its speeds and its top. -/
def fly (f : flightT) (up down top : Int) : flyT := (f.1, (f.2.1, (f.2.2.1, (f.2.2.2.1, (f.2.2.2.2.1, (f.2.2.2.2.2.1, (f.2.2.2.2.2.2.1, (f.2.2.2.2.2.2.2.1, (f.2.2.2.2.2.2.2.2.1, (f.2.2.2.2.2.2.2.2.2.1, (f.2.2.2.2.2.2.2.2.2.2.1, (f.2.2.2.2.2.2.2.2.2.2.2.1, (f.2.2.2.2.2.2.2.2.2.2.2.2.1, (up, (down, (top, ()))))))))))))))))
/-- For how many minutes a balloon is in a layer. -/
def mins (l : Sl layerT) (up down top : Int) (j : Nat) : Int := bif decide (top ≤ (j : Int)) then 0 else W ((W (Int.tdiv (W ((W ((l.g j).1 + up)) - (1 : Int))) up)) + (W (Int.tdiv (W ((W ((l.g j).1 + down)) - (1 : Int))) down)))
theorem M118xe (f : flightT) {up down top : Int} (hu : up ≠ 0) (hd : down ≠ 0) {j : Nat} (hj : j < f.1.n) : M118 (fly f up down top, ((j : Int), ())) = some (mins f.1 up down top j, ()) := by
  have e1 : ((j : Int) < ((f.1.n : Nat) : Int)) := by omega
  unfold M118 Q118 fly mins
  by_cases h : top ≤ (j : Int)
  · simp [h]
  · simp [h, e1, hu, hd]
theorem p118xe (f : flightT) {up down top : Int} (hu : up ≠ 0) (hd : down ≠ 0) {j : Nat} (hj : j < f.1.n) : p118 (fly f up down top, ((j : Int), ())) = true := by simp [p118, M118xe f hu hd hj]
theorem v118xe (f : flightT) {up down top : Int} (hu : up ≠ 0) (hd : down ≠ 0) {j : Nat} (hj : j < f.1.n) : v118 (fly f up down top, ((j : Int), ())) = (mins f.1 up down top j, ()) := by simp [v118, M118xe f hu hd hj]

/-- Sums, one behind the other. -/
def sums (g : Nat → Int) : Nat → Int
  | 0 => 0
  | j + 1 => W (sums g j + g j)
theorem sums_congr {g h : Nat → Int} : ∀ {n : Nat}, (∀ j, j < n → g j = h j) → sums g n = sums h n
  | 0, _ => rfl
  | n + 1, e => by simp only [sums]; rw [sums_congr fun j hj => e j (by omega), e n (by omega)]

def drift (f : flightT) (up down top : Int) (w : rowI) : Int := sums (fun j => W ((w.g j).1 * mins f.1 up down top j)) w.n
def flown (f : flightT) (up down top : Int) : Int := sums (mins f.1 up down top) f.1.n
theorem M96xe (f : flightT) {up down top : Int} (hu : up ≠ 0) (hd : down ≠ 0) (h : f.1.n ≤ 140737488355328) :
    M96 (fly f up down top, ()) = some (flown f up down top, ()) := by
  have : L96x0 ((), (((f.1.n : Nat) : Int), (fly f up down top, ()))) ((0 : Int), ((0 : Int), ())) = .exit 0 (flown f up down top, ()) := by
    unfold L96x0
    refine iterQ_steps (ps := vs96x0) f.1.n big (fun j => (sums (mins f.1 up down top) j, ((j : Int), ()))) (big_lt (by omega)) (fun j hj => ?_) ?_
    · have e1 : ((j : Int) < ((f.1.n : Nat) : Int)) := by omega
      have e3 : W ((j : Int) + 1) = ((j + 1 : Nat) : Int) := by rw [W_id ⟨by omega, by omega⟩]; rfl
      unfold S96x0 Z96x0
      simp only [cq118, p118xe f (top := top) hu hd hj, v118xe f (top := top) hu hd hj, e1, e3, decide_true, cond_true, sums]
    · unfold S96x0 Z96x0
      simp [cq118, flown]
  unfold M96 Q96
  have e : (fly f up down top).1.n = f.1.n := rfl
  simp only [cq118, e, this]
  simp
/-! the reference -/
def fitsB (f : flightT) (up down top : Int) (e n : rowI) : Bool := inB (drift f up down top e) f.2.2.2.2.2.2.2.1 f.2.2.2.2.2.2.2.2.1 && (inB (drift f up down top n) f.2.2.2.2.2.2.2.2.2.1 f.2.2.2.2.2.2.2.2.2.2.1 && inB (flown f up down top) f.2.2.2.2.2.2.2.2.2.2.2.1 f.2.2.2.2.2.2.2.2.2.2.2.2.1)
end Go.Dm


/- A flight with all its speeds and tops, in order. -/
import Derived.Test.YtlfgdpjompacjaaL15NP9
set_option linter.unusedVariables false
set_option linter.unusedSimpArgs false
namespace Go.Dm
set_option maxRecDepth 100000

def rng : Nat → Int → List Int
  | 0, _ => []
  | n + 1, t => t :: rng n (t + 1)
def lens (lo hi : Int) : Nat := (hi + 1 - lo).toNat
def span3 (lo hi : Int) : List Int := rng (lens lo hi) lo
def trips (f : flightT) : List (Int × Int × Int) := (span3 f.2.1 f.2.2.1).flatMap fun u => (span3 f.2.2.2.1 f.2.2.2.2.1).flatMap fun d => (span3 f.2.2.2.2.2.1 f.2.2.2.2.2.2.1).map fun t => (u, d, t)
theorem acc4xlist (f : flightT) (u d : Int) : ∀ (n : Nat) (t : Int) (tr : Sl fl_eF.den), (fl_acc4 f u d n t tr).list = tr.list ++ (rng n t).map fun t => (fly f u d t, ())
  | 0, _, _ => by simp [fl_acc4, rng]
  | n + 1, t, tr => by
    rw [fl_acc4, acc4xlist f u d n, fl_push_list, rng, List.map_cons, List.append_assoc]
    rfl
theorem acc2xlist (f : flightT) (u : Int) : ∀ (n : Nat) (d : Int) (tr : Sl fl_eF.den), (fl_acc2 f u n d tr).list = tr.list ++ (rng n d).flatMap fun d => (span3 f.2.2.2.2.2.1 f.2.2.2.2.2.2.1).map fun t => (fly f u d t, ())
  | 0, _, _ => by simp [fl_acc2, rng]
  | n + 1, d, tr => by
    rw [fl_acc2, acc2xlist f u n, fl_a5, acc4xlist, rng, List.flatMap_cons, List.append_assoc]
    rfl
theorem acc0xlist (f : flightT) : ∀ (n : Nat) (u : Int) (tr : Sl fl_eF.den), (fl_acc0 f n u tr).list = tr.list ++ (rng n u).flatMap fun u => (span3 f.2.2.2.1 f.2.2.2.2.1).flatMap fun d => (span3 f.2.2.2.2.2.1 f.2.2.2.2.2.2.1).map fun t => (fly f u d t, ())
  | 0, _, _ => by simp [fl_acc0, rng]
  | n + 1, u, tr => by
    rw [fl_acc0, acc0xlist f n, fl_a4, acc2xlist, rng, List.flatMap_cons, List.append_assoc]
    rfl
theorem flights_list (f : flightT) : (fl_flights f).list = (trips f).map fun x => (fly f x.1 x.2.1 x.2.2, ()) := by
  unfold fl_flights trips
  rw [acc0xlist]
  simp only [List.map_flatMap, List.map_map]
  rfl
theorem rng_mem {n : Nat} {lo x : Int} (h : x ∈ rng n lo) : lo ≤ x ∧ x < lo + n := by
  induction n generalizing lo with
  | zero => cases h
  | succ n ih =>
    rcases List.mem_cons.1 h with e | e
    · omega
    · have := ih e; omega
theorem span3xmem {lo hi x : Int} (h : x ∈ span3 lo hi) : lo ≤ x ∧ x ≤ hi := by
  have := rng_mem h
  unfold lens at this
  omega
theorem M93xe {f : flightT} (h : flightB f = true) : M93 (f, ()) = some (fl_flights f, ()) := by
  obtain ⟨_, h1, h2, h3, h4⟩ := flightB_t h
  have : ip115 () (f, ()) = true := by
    unfold ip115 fl_okk fl_ok5 fl_hi3 fl_lo3 fl_hi4 fl_lo4 fl_hi5 fl_lo5
    simp only [Bool.and_eq_true, decide_eq_true_eq]
    omega
  unfold M93 Q93
  simp only [this, cond_true]
  rfl
end Go.Dm


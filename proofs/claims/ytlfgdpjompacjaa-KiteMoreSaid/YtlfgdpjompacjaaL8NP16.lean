/- Blow, and the reference's list. -/
import Derived.Test.YtlfgdpjompacjaaL8NP15
set_option linter.unusedVariables false
set_option linter.unusedSimpArgs false
namespace Go.Dm
set_option maxRecDepth 100000

/-- Where a balloon was found, in a direction. -/
def fnd (f : flightT) (north : Bool) : spanI := bif north then (f.2.2.2.2.2.2.2.2.2.1, (f.2.2.2.2.2.2.2.2.2.2.1, ())) else (f.2.2.2.2.2.2.2.1, (f.2.2.2.2.2.2.2.2.1, ()))
def wayI (north : Bool) : Int := bif north then 1 else 0
theorem M123xe (f : flightT) (u d t : Int) (north : Bool) : M123 (no_index (fly f u d t, (wayI north, ()))) = some (fnd f north, ()) := by
  unfold M123 Q123
  cases north <;> rfl
/-- The first winds of spans with which a trip comes to where the balloon was found, in a direction. -/
def goD (f : flightT) (u d t : Int) (north : Bool) (sp : Nat → spanI) : Option (List Int) := goW sp (mins f.1 u d t) (fnd f north).1 (fnd f north).2.1 f.1.n 0 0
/-- A row of these numbers. -/
def IsRow (V : rowI) (l : List Int) : Prop := V.n = l.length ∧ ∀ i, i < V.n → V.g i = (l.getD i 0, ())
def spOK (f : flightT) (sp : Sl spanI) : Prop := sp.n = f.1.n ∧ ∀ j, j < sp.n → -100 ≤ (sp.g j).1 ∧ (sp.g j).2.1 ≤ 100
theorem goD_len {f : flightT} {u d t : Int} {north : Bool} {sp : Nat → spanI} {l : List Int} (h : goD f u d t north sp = some l) : l.length = f.1.n := val_len (goW_val h)
theorem M122xe {f : flightT} (hf : flightB f = true) {u d t : Int} (hu : 50 ≤ u ∧ u ≤ 1000) (hd : 50 ≤ d ∧ d ≤ 1000) (north : Bool) {sp : Sl spanI} (hs : spOK f sp) :
    ∃ V : rowI, M122 (no_index (fly f u d t, (wayI north, (sp, ())))) = some (V, ((goD f u d t north sp.g).isSome, ())) ∧ ∀ l, goD f u d t north sp.g = some l → IsRow V l := by
  have hn4 := (flightB_t hf).2.1
  have hsn := hs.1
  obtain ⟨V, D, e, h1, _, _, h4⟩ := F124xe (t := t) (fd := fnd f north) hf hu hd hs.1 hs.2 sp.n 6 0 0 ⟨(Int.toNat ((sp.n : Nat) : Int)), fun i => ((0 : Int), ())⟩ (fun _ => none) (by omega) (by omega) (by omega) (by show Int.toNat ((sp.n : Nat) : Int) = sp.n; omega) (fun k s _ h => by simp at h)
  refine ⟨V, ?_, fun l hl => ?_⟩
  · have i1 : ((0 : Int) ≤ ((sp.n : Nat) : Int)) ∧ ((((sp.n : Nat) : Int) ≤ (281474976710656 : Int)) ∧ ((((sp.n : Nat) : Int) * (8 : Int)) ≤ (281474976710656 : Int))) := by omega
    unfold M122 Q122
    simp only [M123xe, cl_some, i1, and_self, decide_true, cond_true]
    refine (congrArg (fun o => onOk o _ _) e).trans ?_
    unfold bOut goD
    rw [hsn]
    rfl
  · have hl' : goW sp.g (mins f.1 u d t) (fnd f north).1 (fnd f north).2.1 sp.n 0 0 = some l := by rw [hsn]; exact hl
    have := h4 l hl'
    refine ⟨by rw [goD_len hl]; omega, fun i hi => ?_⟩
    have := this i (by omega) (by omega)
    rwa [Nat.sub_zero] at this

/-! the reference -/
section
variable {f : flightT} {u d t : Int} {sp : Sl spanI} {fd : spanI} {tm : rowI}
end
end Go.Dm


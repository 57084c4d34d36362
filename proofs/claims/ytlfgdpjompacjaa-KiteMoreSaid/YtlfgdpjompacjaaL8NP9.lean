/- KitePlays. -/
import Derived.Test.YtlfgdpjompacjaaL8NP8
set_option linter.unusedVariables false
set_option linter.unusedSimpArgs false
namespace Go.Dm
set_option maxRecDepth 100000

def listB (f : flightT) (a : rowI) (sp : Nat → spanI) : Bool := decide (a.n = f.1.n) && (List.range a.n).all (eachIn a sp)
def fineB (f : flightT) (up down top : Int) (e n : rowI) : Bool := flightB f && (inB up f.2.1 f.2.2.1 && (inB down f.2.2.2.1 f.2.2.2.2.1 && (inB top f.2.2.2.2.2.1 f.2.2.2.2.2.2.1 && (listB f e (spE f) && listB f n (spN f)))))
theorem fineB_t {f : flightT} {up down top : Int} {e n : rowI} (h : fineB f up down top e n = true) : flightB f = true ∧ up ≠ 0 ∧ down ≠ 0 ∧ e.n = f.1.n ∧ n.n = f.1.n := by
  simp only [fineB, listB, Bool.and_eq_true, decide_eq_true_eq] at h
  obtain ⟨h1, h2, h3, _, h5, h6⟩ := h
  obtain ⟨_, _, h7, h8, _⟩ := flightB_t h1
  have h2 := inB_t h2
  have h3 := inB_t h3
  exact ⟨h1, by omega, by omega, h5.1, h6.1⟩
end Go.Dm


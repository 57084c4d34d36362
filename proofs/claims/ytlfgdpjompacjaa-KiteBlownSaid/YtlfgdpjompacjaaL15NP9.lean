/- KitePlays. -/
import Derived.Test.YtlfgdpjompacjaaL15NP8
set_option linter.unusedVariables false
set_option linter.unusedSimpArgs false
namespace Go.Dm
set_option maxRecDepth 100000

theorem p94x0 (f : flightT) (up down top : Int) (h : f.1.n ≤ 8) : p94 (fly f up down top, ((0 : Int), ())) = true := by simp [p94, M94x0 f up down top h]
theorem v94x0 (f : flightT) (up down top : Int) (h : f.1.n ≤ 8) : v94 (fly f up down top, ((0 : Int), ())) = (tab s0I (spE f) f.1.n, ()) := by simp [v94, M94x0 f up down top h]
theorem p94x1 (f : flightT) (up down top : Int) (h : f.1.n ≤ 8) : p94 (fly f up down top, ((1 : Int), ())) = true := by simp [p94, M94x1 f up down top h]
theorem v94x1 (f : flightT) (up down top : Int) (h : f.1.n ≤ 8) : v94 (fly f up down top, ((1 : Int), ())) = (tab s0I (spN f) f.1.n, ()) := by simp [v94, M94x1 f up down top h]

def listB (f : flightT) (a : rowI) (sp : Nat → spanI) : Bool := decide (a.n = f.1.n) && (List.range a.n).all (eachIn a sp)
theorem list_e (f : flightT) (a : rowI) (sp : Nat → spanI) : (decide (a.n = (tab s0I sp f.1.n).n) && (List.range a.n).all (eachIn a (tab s0I sp f.1.n).g)) = listB f a sp := by
  unfold listB
  have e : (tab s0I sp f.1.n).n = f.1.n := by rw [tab_n]; show 0 + f.1.n = f.1.n; omega
  rw [e]
  by_cases h : a.n = f.1.n
  · simp only [h, decide_true, Bool.true_and]
    refine all_congr f.1.n fun j hj _ => ?_
    unfold eachIn
    rw [tab_g0 (s0 := s0I) rfl hj]
  · simp [h]
def fineB (f : flightT) (up down top : Int) (e n : rowI) : Bool := flightB f && (inB up f.2.1 f.2.2.1 && (inB down f.2.2.2.1 f.2.2.2.2.1 && (inB top f.2.2.2.2.2.1 f.2.2.2.2.2.2.1 && (listB f e (spE f) && listB f n (spN f)))))
theorem M103xe (f : flightT) {up down top : Int} {e n : rowI} (h : f.1.n ≤ 8) (he : e.n ≤ 140737488355328) (hn : n.n ≤ 140737488355328) :
    M103 (f, ((up, (down, (top, (e, (n, ()))))), ())) = some (fly f up down top, (fineB f up down top e n, ())) := by
  have q : f.1.n ≤ 140737488355328 := by omega
  have E1 : M103 (f, ((up, (down, (top, (e, (n, ()))))), ())) = bif (p92 (f, ())) then bif (!(v92 (f, ())).1) then (some (fly f up down top, (false, ()))) else bif (p73 (up, ((f.2.1, (f.2.2.1, ())), ()))) then bif (!(v73 (up, ((f.2.1, (f.2.2.1, ())), ()))).1) then (some (fly f up down top, (false, ()))) else bif (p73 (down, ((f.2.2.2.1, (f.2.2.2.2.1, ())), ()))) then bif (!(v73 (down, ((f.2.2.2.1, (f.2.2.2.2.1, ())), ()))).1) then (some (fly f up down top, (false, ()))) else bif (p73 (top, ((f.2.2.2.2.2.1, (f.2.2.2.2.2.2.1, ())), ()))) then bif (!(v73 (top, ((f.2.2.2.2.2.1, (f.2.2.2.2.2.2.1, ())), ()))).1) then (some (fly f up down top, (false, ()))) else bif (p94 (fly f up down top, ((0 : Int), ()))) then bif (p120 (e, ((v94 (fly f up down top, ((0 : Int), ()))).1, ((fun y1 => ((p119 y1), (v119 y1))), ())))) then bif (v120 (e, ((v94 (fly f up down top, ((0 : Int), ()))).1, ((fun y1 => ((p119 y1), (v119 y1))), ())))).1 then bif (p94 (fly f up down top, ((1 : Int), ()))) then bif (p120 (n, ((v94 (fly f up down top, ((1 : Int), ()))).1, ((fun y1 => ((p119 y1), (v119 y1))), ())))) then (some (fly f up down top, (v120 (n, ((v94 (fly f up down top, ((1 : Int), ()))).1, ((fun y1 => ((p119 y1), (v119 y1))), ())))))) else none else none else (some (fly f up down top, (false, ()))) else none else none else none else none else none else none := rfl
  rw [E1]
  have hF : ∀ (x : Int) (s : spanI), (fun y1 : (Ty.den T7) => ((p119 y1), (v119 y1))) (x, (s, ())) = (true, (inB x s.1 s.2.1, ())) := fun x s => by simp only [cq73, cq92, cq94, cq119, cq120, p119xe, v119xe]
  simp only [cq73, cq92, cq94, cq119, cq120, p92xe (x := (f, ())) q, v92xe (x := (f, ())) q, p73xe, v73xe, p94x0 f up down top h, v94x0 f up down top h, p94x1 f up down top h, v94x1 f up down top h, cond_true]
  rw [p120xe hF he, v120xe hF he, p120xe hF hn, v120xe hF hn, list_e, list_e]
  unfold fineB
  cases flightB f with
  | false => simp
  | true =>
  cases inB up f.2.1 f.2.2.1 with
  | false => simp
  | true =>
  cases inB down f.2.2.2.1 f.2.2.2.2.1 with
  | false => simp
  | true =>
  cases inB top f.2.2.2.2.2.1 f.2.2.2.2.2.2.1 with
  | false => simp
  | true =>
  cases listB f e (spE f) <;> simp
theorem p103xe (f : flightT) {up down top : Int} {e n : rowI} (h : f.1.n ≤ 8) (he : e.n ≤ 140737488355328) (hn : n.n ≤ 140737488355328) : p103 (f, ((up, (down, (top, (e, (n, ()))))), ())) = true := by simp [p103, M103xe f h he hn]
theorem v103xe (f : flightT) {up down top : Int} {e n : rowI} (h : f.1.n ≤ 8) (he : e.n ≤ 140737488355328) (hn : n.n ≤ 140737488355328) : v103 (f, ((up, (down, (top, (e, (n, ()))))), ())) = (fly f up down top, (fineB f up down top e n, ())) := by simp [v103, M103xe f h he hn]

theorem fineB_t {f : flightT} {up down top : Int} {e n : rowI} (h : fineB f up down top e n = true) : flightB f = true ∧ up ≠ 0 ∧ down ≠ 0 ∧ e.n = f.1.n ∧ n.n = f.1.n := by
  simp only [fineB, listB, Bool.and_eq_true, decide_eq_true_eq] at h
  obtain ⟨h1, h2, h3, _, h5, h6⟩ := h
  obtain ⟨_, _, h7, h8, _⟩ := flightB_t h1
  have h2 := inB_t h2
  have h3 := inB_t h3
  exact ⟨h1, by omega, by omega, h5.1, h6.1⟩
theorem fineB_e (f : flightT) (up down top : Int) (e n : rowI) : fineB f up down top e n = (flightB f && truthF f up down top e n) := by
  unfold fineB truthF listB
  cases flightB f with
  | false => rfl
  | true =>
  simp only [Bool.true_and]
  by_cases h1 : e.n = f.1.n
  · by_cases h2 : n.n = f.1.n
    · simp only [h1, h2, decide_true, Bool.true_and]
      have : (List.range f.1.n).all (truthFC f e n) = ((List.range f.1.n).all (eachIn e (spE f)) && (List.range f.1.n).all (eachIn n (spN f))) := by
        rw [Bool.eq_iff_iff]
        simp only [Bool.and_eq_true, List.all_eq_true, truthFC]
        exact ⟨fun k => ⟨fun j hj => (k j hj).1, fun j hj => (k j hj).2⟩, fun k j hj => ⟨k.1 j hj, k.2 j hj⟩⟩
      rw [this]
      cases inB up f.2.1 f.2.2.1 <;> cases inB down f.2.2.2.1 f.2.2.2.2.1 <;> cases inB top f.2.2.2.2.2.1 f.2.2.2.2.2.2.1 <;> cases (List.range f.1.n).all (eachIn e (spE f)) <;> simp
    · simp [h2]
  · simp [h1]
theorem M60xe (f : flightT) {up down top : Int} {e n : rowI} (h : f.1.n ≤ 8) (he : e.n ≤ 140737488355328) (hn : n.n ≤ 140737488355328) :
    M60 (f, ((up, (down, (top, (e, (n, ()))))), ())) = some (bif fineB f up down top e n then (fitsB f up down top e n, ((0 : Int), ())) else (false, ((2 : Int), ()))) := by
  unfold M60 Q60
  simp only [cq73, cq95, cq96, cq103, p103xe f h he hn, v103xe f h he hn, cond_true]
  cases hb : fineB f up down top e n with
  | false => simp
  | true =>
    obtain ⟨_, hu, hd, h1, h2⟩ := fineB_t hb
    have q : f.1.n ≤ 140737488355328 := by omega
    simp only [cq73, cq95, cq96, cq103, p95xe f hu hd h1 q, v95xe f hu hd h1 q, p95xe f hu hd h2 q, v95xe f hu hd h2 q, p96xe f hu hd q, v96xe f hu hd q, p73xe, v73xe, cond_true, Bool.not_true, cond_false]
    unfold fitsB
    cases inB (drift f up down top e) f.2.2.2.2.2.2.2.1 f.2.2.2.2.2.2.2.2.1 with
    | false => simp
    | true => cases inB (drift f up down top n) f.2.2.2.2.2.2.2.2.2.1 f.2.2.2.2.2.2.2.2.2.2.1 <;> simp
end Go.Dm


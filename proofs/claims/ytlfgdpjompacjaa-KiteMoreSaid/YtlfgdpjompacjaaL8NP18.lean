/- first, and the reference's search. -/
import Derived.Test.YtlfgdpjompacjaaL8NP17
set_option linter.unusedVariables false
set_option linter.unusedSimpArgs false
namespace Go.Dm
set_option maxRecDepth 100000

/-- The first of a list for which something is found. -/
def fsm {α β : Type} (g : α → Option β) : List α → Option β
  | [] => none
  | a :: l => match g a with
    | some b => some b
    | none => fsm g l
theorem fsm_append {α β : Type} {g : α → Option β} : ∀ (l l' : List α), fsm g (l ++ l') = match fsm g l with | some b => some b | none => fsm g l'
  | [], _ => rfl
  | a :: l, l' => by
    simp only [List.cons_append, fsm]
    cases g a with
    | some b => rfl
    | none => exact fsm_append l l'
theorem fsm_map {α γ β : Type} {g : α → Option β} {h : γ → α} : ∀ l : List γ, fsm g (l.map h) = fsm (fun x => g (h x)) l
  | [] => rfl
  | a :: l => by simp only [List.map_cons, fsm, fsm_map l]
theorem fsm_flatMap {α γ β : Type} {g : α → Option β} {h : γ → List α} : ∀ l : List γ, fsm g (l.flatMap h) = fsm (fun x => fsm g (h x)) l
  | [] => rfl
  | a :: l => by rw [List.flatMap_cons, fsm_append, fsm_flatMap l, fsm]
theorem fsm_rng {β : Type} {g : Int → Option β} : ∀ (c : Nat) (w : Int), fsm g (rng c w) = fstV g c w
  | 0, _ => rfl
  | c + 1, w => by simp only [rng, fsm, fstV, fsm_rng c]; cases g w <;> rfl
/-- The first truth that fits. -/
def fstT (f : flightT) (se sn : Nat → spanI) : Option tripT := fsm (tryT f se sn) (trips f)
theorem fstT_e (f : flightT) (se sn : Nat → spanI) : fstT f se sn = fstV (fun u => fstV (fun d => fstV (fun t => tryT f se sn (u, d, t)) (lens f.2.2.2.2.2.1 f.2.2.2.2.2.2.1) f.2.2.2.2.2.1) (lens f.2.2.2.1 f.2.2.2.2.1) f.2.2.2.1) (lens f.2.1 f.2.2.1) f.2.1 := by
  unfold fstT trips span3
  rw [fsm_flatMap, fsm_rng]
  congr 1
  funext u
  rw [fsm_flatMap, fsm_rng]
  congr 1
  funext d
  rw [fsm_map, fsm_rng]
def zeroT : truthT := ((0 : Int), ((0 : Int), ((0 : Int), ((⟨0, fun _ => ((0 : Int), ())⟩ : rowI), ((⟨0, fun _ => ((0 : Int), ())⟩ : rowI), ())))))
def st79 (w : Int × Int × Int × Int × Unit) : (patsTy mp79x0).den := ((), ((), ((), (w, (zeroT, ((false, ()), ()))))))
theorem trip_bd {f : flightT} (hf : flightB f = true) {x : Int × Int × Int} (hx : x ∈ trips f) : (50 ≤ x.1 ∧ x.1 ≤ 1000) ∧ (50 ≤ x.2.1 ∧ x.2.1 ≤ 1000) := by
  obtain ⟨_, _, h2, h3, _⟩ := flightB_t hf
  unfold trips at hx
  simp only [List.mem_flatMap, List.mem_map] at hx
  obtain ⟨u, hu, d, hd, t, ht, rfl⟩ := hx
  have := span3xmem hu
  have := span3xmem hd
  simp only
  omega
theorem L79xe {f : flightT} (hf : flightB f = true) {w : Int × Int × Int × Int × Unit} (hw : wishOK f w) : ∀ (l : List (Int × Int × Int)), (∀ x ∈ l, (50 ≤ x.1 ∧ x.1 ≤ 1000) ∧ (50 ≤ x.2.1 ∧ x.2.1 ≤ 1000)) →
    (fsm (tryT f (wishR f false w).g (wishR f true w).g) l = none ∧ L79x0 (st79 w) (l.map fun x => (fly f x.1 x.2.1 x.2.2, ())) = .next (st79 w)) ∨
      ∃ (V : truthT) (r : tripT), fsm (tryT f (wishR f false w).g (wishR f true w).g) l = some r ∧ IsTruth V r ∧ L79x0 (st79 w) (l.map fun x => (fly f x.1 x.2.1 x.2.2, ())) = .pan 152 T71 V (st79 w)
  | [], _ => .inl ⟨rfl, rfl⟩
  | x :: l, h => by
    have hx := h x (List.mem_cons_self ..)
    have ih := L79xe hf hw l fun y hy => h y (List.mem_cons_of_mem _ hy)
    rcases U109xe hf (t := x.2.2) hx.1 hx.2 hw with ⟨t1, t2⟩ | ⟨V, r, t1, t2, t3⟩
    · have st : S79x0 (st79 w) (fly f x.1 x.2.1 x.2.2, ()) = .next (st79 w) := by
        unfold S79x0 Z79x0
        refine (congrArg (fun o => onGPan o 152 T71 _ (onOk o _ _)) t2).trans ?_
        rfl
      have e : fsm (tryT f (wishR f false w).g (wishR f true w).g) (x :: l) = fsm (tryT f (wishR f false w).g (wishR f true w).g) l := by
        simp only [fsm]
        have t1 : tryT f (wishR f false w).g (wishR f true w).g x = none := t1
        rw [t1]
      have e2 : L79x0 (st79 w) ((x :: l).map fun x => (fly f x.1 x.2.1 x.2.2, ())) = L79x0 (st79 w) (l.map fun x => (fly f x.1 x.2.1 x.2.2, ())) := by
        unfold L79x0
        simp only [List.map_cons, runAllD, st]
      rw [e, e2]
      exact ih
    · have st : S79x0 (st79 w) (fly f x.1 x.2.1 x.2.2, ()) = .pan 152 T71 V (st79 w) := by
        unfold S79x0 Z79x0
        refine (congrArg (fun o => onGPan o 152 T71 _ (onOk o _ _)) t3).trans ?_
        refine (onGPan_pan _ _ _ _ _ _).trans ?_
        rfl
      refine .inr ⟨V, r, ?_, t2, ?_⟩
      · simp only [fsm]
        have t1 : tryT f (wishR f false w).g (wishR f true w).g x = some r := t1
        rw [t1]
      · unfold L79x0
        simp only [List.map_cons, runAllD, st]
/-- A flight with other tops. -/
def setTop (f : flightT) (lo hi : Int) : flightT := (f.1, (f.2.1, (f.2.2.1, (f.2.2.2.1, (f.2.2.2.2.1, (lo, (hi, f.2.2.2.2.2.2.2)))))))
/-- What first comes to. -/
def FstOK (g : Option tripT) (o : Option (truthT × Bool × Unit)) : Prop := (g = none ∧ o = some (zeroT, (false, ()))) ∨ ∃ V r, g = some r ∧ IsTruth V r ∧ o = some (V, (true, ()))
theorem M79xe {f : flightT} {tl th : Int} (hf : flightB (setTop f tl th) = true) {w : Int × Int × Int × Int × Unit} (hw : wishOK (setTop f tl th) w) :
    FstOK (fstT (setTop f tl th) (wishR (setTop f tl th) false w).g (wishR (setTop f tl th) true w).g) (M79 (no_index (f, (w, ((tl, (th, ())), ()))))) := by
  have e93 : M93 (no_index (setTop f tl th, ())) = some (fl_flights (setTop f tl th), ()) := M93xe hf
  have key : ∀ l : List (Ty.den T58), l = (trips (setTop f tl th)).map (fun x => (fly (setTop f tl th) x.1 x.2.1 x.2.2, ())) → _ := fun l hl => by
    have := L79xe hf hw (trips (setTop f tl th)) fun x hx => trip_bd hf hx
    rw [← hl] at this
    exact this
  have k := key (Sl.list (fl_flights (setTop f tl th))) (flights_list _)
  unfold M79 Q79
  refine (show ∀ o, o = some (fl_flights (setTop f tl th), ()) → FstOK _ (cl (r93).dflt o _ _) from fun o ho => ?_) _ e93
  subst ho
  simp only [cl_some]
  rcases k with ⟨k1, k2⟩ | ⟨V, r, k1, k2, k3⟩
  · refine .inl ⟨k1, ?_⟩
    refine (congrArg (fun o => onNext o _ (onRetO o _ (onPan o 152 T71 _ _))) k2).trans ?_
    rfl
  · refine .inr ⟨V, r, k1, k2, ?_⟩
    refine (congrArg (fun o => onNext o _ (onRetO o _ (onPan o 152 T71 _ _))) k3).trans ?_
    rfl

/-! the reference -/
section
variable {f : flightT} {se sn : Sl spanI}
end
end Go.Dm


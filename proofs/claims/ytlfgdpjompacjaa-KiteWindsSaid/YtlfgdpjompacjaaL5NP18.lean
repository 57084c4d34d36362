/- first, and the reference's search. -/
import Derived.Test.YtlfgdpjompacjaaL5NP17
set_option linter.unusedVariables false
set_option linter.unusedSimpArgs false
namespace Go.Dm
set_option maxRecDepth 100000

/-- The first of a list for which something is found. -/
def fsm {α β : Type} (g : α → Option β) : List α → Option β
  | [] => none
  | a :: l => match g a with
    | some b => some b
    | none => fsm g l
theorem fsm_append {α β : Type} {g : α → Option β} : ∀ (l l' : List α), fsm g (l ++ l') = match fsm g l with | some b => some b | none => fsm g l'
  | [], _ => rfl
  | a :: l, l' => by
    simp only [List.cons_append, fsm]
    cases g a with
    | some b => rfl
    | none => exact fsm_append l l'
theorem fsm_map {α γ β : Type} {g : α → Option β} {h : γ → α} : ∀ l : List γ, fsm g (l.map h) = fsm (fun x => g (h x)) l
  | [] => rfl
  | a :: l => by simp only [List.map_cons, fsm, fsm_map l]
theorem fsm_flatMap {α γ β : Type} {g : α → Option β} {h : γ → List α} : ∀ l : List γ, fsm g (l.flatMap h) = fsm (fun x => fsm g (h x)) l
  | [] => rfl
  | a :: l => by rw [List.flatMap_cons, fsm_append, fsm_flatMap l, fsm]
theorem fsm_rng {β : Type} {g : Int → Option β} : ∀ (c : Nat) (w : Int), fsm g (rng c w) = fstV g c w
  | 0, _ => rfl
  | c + 1, w => by simp only [rng, fsm, fstV, fsm_rng c]; cases g w <;> rfl
/-- The first truth that fits. -/
def fstT (f : flightT) (se sn : Nat → spanI) : Option tripT := fsm (tryT f se sn) (trips f)
theorem fstT_e (f : flightT) (se sn : Nat → spanI) : fstT f se sn = fstV (fun u => fstV (fun d => fstV (fun t => tryT f se sn (u, d, t)) (lens f.2.2.2.2.2.1 f.2.2.2.2.2.2.1) f.2.2.2.2.2.1) (lens f.2.2.2.1 f.2.2.2.2.1) f.2.2.2.1) (lens f.2.1 f.2.2.1) f.2.1 := by
  unfold fstT trips span3
  rw [fsm_flatMap, fsm_rng]
  congr 1
  funext u
  rw [fsm_flatMap, fsm_rng]
  congr 1
  funext d
  rw [fsm_map, fsm_rng]
def zeroT : truthT := ((0 : Int), ((0 : Int), ((0 : Int), ((⟨0, fun _ => ((0 : Int), ())⟩ : rowI), ((⟨0, fun _ => ((0 : Int), ())⟩ : rowI), ())))))
def st79 (w : Int × Int × Int × Int × Unit) : (patsTy mp79x0).den := ((), ((), ((), (w, (zeroT, ((false, ()), ()))))))
theorem trip_bd {f : flightT} (hf : flightB f = true) {x : Int × Int × Int} (hx : x ∈ trips f) : (50 ≤ x.1 ∧ x.1 ≤ 1000) ∧ (50 ≤ x.2.1 ∧ x.2.1 ≤ 1000) := by
  obtain ⟨_, _, h2, h3, _⟩ := flightB_t hf
  unfold trips at hx
  simp only [List.mem_flatMap, List.mem_map] at hx
  obtain ⟨u, hu, d, hd, t, ht, rfl⟩ := hx
  have := span3xmem hu
  have := span3xmem hd
  simp only
  omega
theorem L79xe {f : flightT} (hf : flightB f = true) {w : Int × Int × Int × Int × Unit} (hw : wishOK f w) : ∀ (l : List (Int × Int × Int)), (∀ x ∈ l, (50 ≤ x.1 ∧ x.1 ≤ 1000) ∧ (50 ≤ x.2.1 ∧ x.2.1 ≤ 1000)) →
    (fsm (tryT f (wishR f false w).g (wishR f true w).g) l = none ∧ L79x0 (st79 w) (l.map fun x => (fly f x.1 x.2.1 x.2.2, ())) = .next (st79 w)) ∨
      ∃ (V : truthT) (r : tripT), fsm (tryT f (wishR f false w).g (wishR f true w).g) l = some r ∧ IsTruth V r ∧ L79x0 (st79 w) (l.map fun x => (fly f x.1 x.2.1 x.2.2, ())) = .pan 152 T71 V (st79 w)
  | [], _ => .inl ⟨rfl, rfl⟩
  | x :: l, h => by
    have hx := h x (List.mem_cons_self ..)
    have ih := L79xe hf hw l fun y hy => h y (List.mem_cons_of_mem _ hy)
    rcases U109xe hf (t := x.2.2) hx.1 hx.2 hw with ⟨t1, t2⟩ | ⟨V, r, t1, t2, t3⟩
    · have st : S79x0 (st79 w) (fly f x.1 x.2.1 x.2.2, ()) = .next (st79 w) := by
        unfold S79x0 Z79x0
        refine (congrArg (fun o => onGPan o 152 T71 _ (onOk o _ _)) t2).trans ?_
        rfl
      have e : fsm (tryT f (wishR f false w).g (wishR f true w).g) (x :: l) = fsm (tryT f (wishR f false w).g (wishR f true w).g) l := by
        simp only [fsm]
        have t1 : tryT f (wishR f false w).g (wishR f true w).g x = none := t1
        rw [t1]
      have e2 : L79x0 (st79 w) ((x :: l).map fun x => (fly f x.1 x.2.1 x.2.2, ())) = L79x0 (st79 w) (l.map fun x => (fly f x.1 x.2.1 x.2.2, ())) := by
        unfold L79x0
        simp only [List.map_cons, runAllD, st]
      rw [e, e2]
      exact ih
    · have st : S79x0 (st79 w) (fly f x.1 x.2.1 x.2.2, ()) = .pan 152 T71 V (st79 w) := by
        unfold S79x0 Z79x0
        refine (congrArg (fun o => onGPan o 152 T71 _ (onOk o _ _)) t3).trans ?_
        refine (onGPan_pan _ _ _ _ _ _).trans ?_
        rfl
      refine .inr ⟨V, r, ?_, t2, ?_⟩
      · simp only [fsm]
        have t1 : tryT f (wishR f false w).g (wishR f true w).g x = some r := t1
        rw [t1]
      · unfold L79x0
        simp only [List.map_cons, runAllD, st]
/-- A flight with other tops. -/
def setTop (f : flightT) (lo hi : Int) : flightT := (f.1, (f.2.1, (f.2.2.1, (f.2.2.2.1, (f.2.2.2.2.1, (lo, (hi, f.2.2.2.2.2.2.2)))))))
/-- What first comes to. -/
def FstOK (g : Option tripT) (o : Option (truthT × Bool × Unit)) : Prop := (g = none ∧ o = some (zeroT, (false, ()))) ∨ ∃ V r, g = some r ∧ IsTruth V r ∧ o = some (V, (true, ()))
theorem M79xe {f : flightT} {tl th : Int} (hf : flightB (setTop f tl th) = true) {w : Int × Int × Int × Int × Unit} (hw : wishOK (setTop f tl th) w) :
    FstOK (fstT (setTop f tl th) (wishR (setTop f tl th) false w).g (wishR (setTop f tl th) true w).g) (M79 (no_index (f, (w, ((tl, (th, ())), ()))))) := by
  have e93 : M93 (no_index (setTop f tl th, ())) = some (fl_flights (setTop f tl th), ()) := M93xe hf
  have key : ∀ l : List (Ty.den T58), l = (trips (setTop f tl th)).map (fun x => (fly (setTop f tl th) x.1 x.2.1 x.2.2, ())) → _ := fun l hl => by
    have := L79xe hf hw (trips (setTop f tl th)) fun x hx => trip_bd hf hx
    rw [← hl] at this
    exact this
  have k := key (Sl.list (fl_flights (setTop f tl th))) (flights_list _)
  unfold M79 Q79
  refine (show ∀ o, o = some (fl_flights (setTop f tl th), ()) → FstOK _ (cl (r93).dflt o _ _) from fun o ho => ?_) _ e93
  subst ho
  simp only [cl_some]
  rcases k with ⟨k1, k2⟩ | ⟨V, r, k1, k2, k3⟩
  · refine .inl ⟨k1, ?_⟩
    refine (congrArg (fun o => onNext o _ (onRetO o _ (onPan o 152 T71 _ _))) k2).trans ?_
    rfl
  · refine .inr ⟨V, r, k1, k2, ?_⟩
    refine (congrArg (fun o => onNext o _ (onRetO o _ (onPan o 152 T71 _ _))) k3).trans ?_
    rfl

/-! the reference -/
theorem iterQ_fst {ps : List Pat} {wy : Ways} {step : (patsTy ps).den → RQ ps wy} {N : Nat} {β : Type} {G : Int → Option β} {lo hi : Int} {mk : Int → (patsTy ps).den} {QN : LQ wy → Prop} {QS : β → LQ wy → Prop} (hN : lens lo hi < N)
    (h1 : ∀ x, lo ≤ x → x ≤ hi → (G x = none ∧ step (mk x) = .next (mk (x + 1))) ∨ ∃ b q, G x = some b ∧ step (mk x) = .out q ∧ QS b q) (h2 : ∀ x, hi < x → ∃ q, step (mk x) = .out q ∧ QN q) :
    (fstV G (lens lo hi) lo = none ∧ QN (iterQ step N (mk lo))) ∨ ∃ b, fstV G (lens lo hi) lo = some b ∧ QS b (iterQ step N (mk lo)) := by
  refine iterQ_rel2 (P := fun j x => x = mk (lo + (j : Int)) ∧ ∀ i : Nat, i < j → G (lo + (i : Int)) = none)
    (Q := fun q => (fstV G (lens lo hi) lo = none ∧ QN q) ∨ ∃ b, fstV G (lens lo hi) lo = some b ∧ QS b q) (lens lo hi) hN ?_ ?_ _ ⟨by simp, fun i hi => by omega⟩
  · rintro j x hj ⟨rfl, hn⟩
    have hle : lo + (j : Int) ≤ hi := by unfold lens at hj; omega
    rcases h1 (lo + (j : Int)) (by omega) hle with ⟨a, b⟩ | ⟨b, q, a1, a2, a3⟩
    · refine .inl ⟨_, b, by congr 1; omega, fun i hi => ?_⟩
      by_cases e : i = j
      · subst e; exact a
      · exact hn i (by omega)
    · exact .inr ⟨q, a2, .inr ⟨b, fstV_at hj a1 hn, a3⟩⟩
  · rintro x ⟨rfl, hn⟩
    obtain ⟨q, q1, q2⟩ := h2 (lo + ((lens lo hi : Nat) : Int)) (by unfold lens; omega)
    exact ⟨q, q1, .inl ⟨fstV_all hn, q2⟩⟩
section
variable {f : flightT} {se sn : Sl spanI}
theorem total_e (f : flightT) (u d t : Int) : sums (fun j => ((times f u d t f.1.n).g j).1) f.1.n = flown f u d t := by
  unfold flown
  exact sums_congr fun j hj => by rw [times_g f hj]
theorem L85c_e (hf : flightB f = true) (hse : spOK f se) (hsn : spOK f sn) (hle : ∀ j, j < se.n → (se.g j).1 ≤ (se.g j).2.1) (hln : ∀ j, j < sn.n → (sn.g j).1 ≤ (sn.g j).2.1) {u d : Int} (hu : 50 ≤ u ∧ u ≤ 1000) (hd : 50 ≤ d ∧ d ≤ 1000) :
    (fstV (fun t => tryT f se.g sn.g (u, d, t)) (lens f.2.2.2.2.2.1 f.2.2.2.2.2.2.1) f.2.2.2.2.2.1 = none ∧ (fun q => q = LQ.exit (wy := wv85x0x0x0) 4 ()) (L85x0x0x0 (no_index (se, (sn, ((), ((), (u, (d, (f, (zeroT, ()))))))))) (no_index (f.2.2.2.2.2.1, ())))) ∨
      ∃ r, fstV (fun t => tryT f se.g sn.g (u, d, t)) (lens f.2.2.2.2.2.1 f.2.2.2.2.2.2.1) f.2.2.2.2.2.1 = some r ∧ (fun (r : tripT) q => ∃ V : truthT, IsTruth V r ∧ q = LQ.ret (wy := wv85x0x0x0) (true, (V, ()))) r (L85x0x0x0 (no_index (se, (sn, ((), ((), (u, (d, (f, (zeroT, ()))))))))) (no_index (f.2.2.2.2.2.1, ()))) := by
  obtain ⟨hl, hn4, h2, h3, h4⟩ := flightB_t hf
  unfold L85x0x0x0
  refine iterQ_fst (ps := vs85x0x0x0) (lo := f.2.2.2.2.2.1) (hi := f.2.2.2.2.2.2.1) (G := fun t => tryT f se.g sn.g (u, d, t)) (mk := fun t => (t, ())) (QN := fun q => q = LQ.exit (wy := wv85x0x0x0) 4 ()) (QS := fun (r : tripT) q => ∃ V : truthT, IsTruth V r ∧ q = LQ.ret (wy := wv85x0x0x0) (true, (V, ()))) (big_lt (n := lens f.2.2.2.2.2.1 f.2.2.2.2.2.2.1) (by unfold lens; omega)) (fun t ht1 ht2 => ?_) fun t ht => ?_
  · have e99 : M99 (no_index (f, (u, (d, (t, ()))))) = some (times f u d t f.1.n, ()) := M99xe f (by omega) (by omega) (by omega)
    have e101 : M101 (no_index (times f u d t f.1.n, ())) = some (flown f u d t, ()) := by
      have := M101xe (a := times f u d t f.1.n) (by rw [times_n]; omega)
      rw [times_n, total_e] at this
      exact this
    have e75 : M75 (no_index (flown f u d t, f.2.2.2.2.2.2.2.2.2.2.2)) = some (minB f (u, d, t), ()) := M75xe _
    obtain ⟨V0, m0, _, h0⟩ := M111xe hf (t := t) hu hd false hse hle
    obtain ⟨V1, m1, _, h1⟩ := M111xe hf (t := t) hu hd true hsn hln
    have m0 : M111 (no_index (se, (times f u d t f.1.n, ((f.2.2.2.2.2.2.2.1, (f.2.2.2.2.2.2.2.2.1, ())), ((⟨0, fun i => ((0 : Int), ())⟩ : rowI), ()))))) = some (V0, ((goD f u d t false se.g).isSome, ())) := m0
    have m1 : M111 (no_index (sn, (times f u d t f.1.n, ((f.2.2.2.2.2.2.2.2.2.1, (f.2.2.2.2.2.2.2.2.2.2.1, ())), ((⟨0, fun i => ((0 : Int), ())⟩ : rowI), ()))))) = some (V1, ((goD f u d t true sn.g).isSome, ())) := m1
    have q4 : W (t + 1) = t + 1 := W_id ⟨by omega, by omega⟩
    have st : S85x0x0x0 (no_index (se, (sn, ((), ((), (u, (d, (f, (zeroT, ()))))))))) (no_index (t, ())) = bif minB f (u, d, t) then bif (goD f u d t false se.g).isSome then bif (goD f u d t true sn.g).isSome then .out (.ret (true, ((u, (d, (t, (V0, (V1, ()))))), ()))) else .next (t + 1, ()) else .next (t + 1, ()) else .next (t + 1, ()) := by
      unfold S85x0x0x0 Z85x0x0x0
      simp only [ht2, decide_true, cond_true, e99, cl_some, e101, e75, m0, m1, q4]
      cases minB f (u, d, t) <;> cases (goD f u d t false se.g).isSome <;> cases (goD f u d t true sn.g).isSome <;> rfl
    unfold tryT
    rw [st]
    cases minB f (u, d, t) with
    | false => exact .inl ⟨rfl, rfl⟩
    | true =>
      cases g0 : goD f u d t false se.g with
      | none => exact .inl ⟨rfl, rfl⟩
      | some a =>
        cases g1 : goD f u d t true sn.g with
        | none => exact .inl ⟨rfl, rfl⟩
        | some b => exact .inr ⟨_, _, rfl, rfl, _, ⟨rfl, rfl, rfl, h0 a g0, h1 b g1⟩, rfl⟩
  · have ht' : ¬ t ≤ f.2.2.2.2.2.2.1 := by omega
    refine ⟨_, ?_, rfl⟩
    unfold S85x0x0x0 Z85x0x0x0
    simp only [ht', decide_false, cond_false]
end
end Go.Dm


/- Watches: which are as defined. -/
import Derived.Test.YtlfifailjikhaaaL15CP0
set_option linter.unusedVariables false
set_option linter.unusedSimpArgs false
namespace Go.Dm
set_option maxRecDepth 100000

abbrev repT : Type := Int × Int × Int × Int × Int × Int × Int × Unit
abbrev linkT : Type := Int × Int × Int × Unit
abbrev portT : Type := Int × Int × Int × Int × Unit
abbrev wT : Type := Int × Sl repT × Sl linkT × Sl portT × Int × Int × Int × Int × Int × Unit
abbrev rowI : Type := Sl (Int × Unit)

theorem M63xe (x lo hi : Int) : M63 (no_index (x, (lo, (hi, ())))) = some (inB x lo hi, ()) := by
  unfold M63 Q63 inB
  by_cases h1 : lo ≤ x <;> simp [h1]
theorem M60xe (x lo hi : Int) : M60 (no_index (x, (lo, (hi, ())))) = some (inB x lo hi, ()) := by
  unfold M60 Q60 inB
  by_cases h1 : lo ≤ x <;> simp [h1]
def spB (a b m : Int) : Bool := decide (0 ≤ a ∧ a ≤ b ∧ b ≤ m)
theorem M67xe (a b m : Int) : M67 (no_index ((a, (b, ())), (m, ()))) = some (spB a b m, ()) := by
  unfold M67 Q67 spB
  by_cases h1 : 0 ≤ a <;> by_cases h2 : a ≤ b <;> simp [h1, h2]
theorem M61xe (a b m : Int) : M61 (no_index ((a, (b, ())), (m, ()))) = some (spB a b m, ()) := by
  unfold M61 Q61 spB
  by_cases h1 : 0 ≤ a <;> by_cases h2 : a ≤ b <;> simp [h1, h2]
theorem M59xe (w : wT) (x : Int) : M59 (no_index (w, (x, ()))) = some (inB x 0 (W (w.1 - 1)), ()) := by
  unfold M59 Q59; simp only [M60xe, cl_some]

def repC (n : Int) (r : repT) : Bool := inB r.1 0 (W (n - 1)) && (inB r.2.1 0 10080 && (inB r.2.2.1 0 99999 && (spB r.2.2.2.1 r.2.2.2.2.1 2880 && (inB r.2.2.2.2.2.1 0 2880 && inB r.2.2.2.2.2.2.1 0 10000))))
def linkC (n : Int) (l : linkT) : Bool := inB l.1 0 (W (n - 1)) && (inB l.2.1 0 (W (n - 1)) && (!decide (l.1 = l.2.1) && inB l.2.2.1 1 99999))
def portC (p : portT) : Bool := spB p.1 p.2.1 2880 && (decide (W (p.2.1 - p.1) ≤ 300) && (inB p.2.2.1 0 50000 && inB p.2.2.2.1 0 50000))
def numC (w : wT) : Bool := inB w.1 1 6 && (decide (w.2.1.n ≤ 9) && (decide (w.2.2.1.n ≤ 8) && (decide (w.2.2.2.1.n ≤ 4) && (inB w.2.2.2.2.1 1 99999 && (inB w.2.2.2.2.2.1 1 2880 && (inB w.2.2.2.2.2.2.1 1 2880 && decide (0 ≤ w.2.2.2.2.2.2.2.1 ∧ w.2.2.2.2.2.2.2.1 ≤ w.2.2.2.2.2.2.2.2.1 ∧ w.2.2.2.2.2.2.2.2.1 ≤ 1440)))))))
def watchB (w : wT) : Bool := numC w && ((List.range w.2.1.n).all (fun j => repC w.1 (w.2.1.g j)) && ((List.range w.2.2.1.n).all (fun j => linkC w.1 (w.2.2.1.g j)) && (List.range w.2.2.2.1.n).all (fun j => portC (w.2.2.2.1.g j))))

theorem M85xe (w : wT) (r : repT) : M85 (no_index (w, (r, ()))) = some (repC w.1 r, ()) := by
  unfold M85 Q85 repC
  simp only [M63xe, M67xe, cl_some]
  cases inB r.1 0 (W (w.1 - 1)) <;> cases inB r.2.1 0 10080 <;> cases inB r.2.2.1 0 99999 <;> cases spB r.2.2.2.1 r.2.2.2.2.1 2880 <;> cases inB r.2.2.2.2.2.1 0 2880 <;> rfl
theorem M88xe (w : wT) (l : linkT) : M88 (no_index (w, (l, ()))) = some (linkC w.1 l, ()) := by
  unfold M88 Q88 linkC
  simp only [M63xe, cl_some]
  cases inB l.1 0 (W (w.1 - 1)) <;> cases inB l.2.1 0 (W (w.1 - 1)) <;> cases decide (l.1 = l.2.1) <;> rfl
theorem M91xe (p : portT) : M91 (no_index (p, ())) = some (portC p, ()) := by
  unfold M91 Q91 portC
  simp only [M63xe, M67xe, cl_some]
  cases spB p.1 p.2.1 2880 <;> cases decide (W (p.2.1 - p.1) ≤ 300) <;> cases inB p.2.2.1 0 50000 <;> rfl
theorem M84xe (r : repT) (w : wT) : M84 (no_index (r, (w, ()))) = some (!repC w.1 r, ()) := by unfold M84 Q84; simp only [M85xe, cl_some]
theorem M87xe (l : linkT) (w : wT) : M87 (no_index (l, (w, ()))) = some (!linkC w.1 l, ()) := by unfold M87 Q87; simp only [M88xe, cl_some]
theorem M90xe (p : portT) : M90 (no_index (p, ())) = some (!portC p, ()) := by unfold M90 Q90; simp only [M91xe, cl_some]

/-- The first of a row for which something holds. -/
def fstI (c : Nat → Bool) (n : Nat) : Int := match fstN c n with
  | some k => k
  | none => -1
theorem fstI_dec (c : Nat → Bool) (n : Nat) : decide ((0 : Int) ≤ fstI c n) = (List.range n).any c := by
  unfold fstI
  cases h : fstN c n with
  | none =>
    have : (List.range n).any c = false := by
      rw [List.any_eq_false]
      intro j hj
      simp [fstN_none h j (by simpa using hj)]
    simp [this]
  | some k =>
    obtain ⟨k1, k2, _⟩ := fstN_some h
    have : (List.range n).any c = true := List.any_eq_true.2 ⟨k, by simpa using k1, k2⟩
    simp [this]
theorem not_any {c : Nat → Bool} (n : Nat) : (List.range n).any (fun j => !c j) = !(List.range n).all c := by
  rw [List.any_eq_not_all_not]; simp
theorem M107xe {s : Sl repT} {F : repT × Unit → Bool × (Bool × Unit)} {c : repT → Bool} (hF : ∀ y, F (y, ()) = (true, (c y, ()))) (h : s.n ≤ 140737488355328) :
    M107 (s, (F, ())) = some (fstI (fun j => c (s.g j)) s.n, ()) := by
  have : L107x0 (no_index (s, (F, (((s.n : Nat) : Int), ())))) (no_index ((0 : Int), ())) = match fstN (fun j => c (s.g j)) s.n with | some k => .ret ((k : Int), ()) | none => .exit 0 () := by
    unfold L107x0
    refine iterQ_find (ps := vs107x0) (f := fun j => ((j : Int), ())) (big_lt h) (fun j hj _ => ?_) fun _ => ?_
    · unfold S107x0 Z107x0
      simp only [lt_ok hj, idx_ok hj, W_nat hj h, hF, decide_true, cond_true, and_self, Int.toNat_natCast]
    · unfold S107x0 Z107x0
      simp
  unfold M107 Q107 fstI
  simp only [this]
  cases fstN (fun j => c (s.g j)) s.n <;> simp
theorem M83xe {s : Sl repT} (F : repT × Unit → Bool × (Bool × Unit)) {c : repT → Bool} (hF : ∀ y, F (y, ()) = (true, (c y, ()))) (h : s.n ≤ 140737488355328) :
    M83 (no_index (s, (F, ()))) = some ((List.range s.n).any (fun j => c (s.g j)), ()) := by
  unfold M83 Q83
  rw [M107xe hF h]
  simp only [cl_some, fstI_dec]
theorem M108xe {s : Sl linkT} {F : linkT × Unit → Bool × (Bool × Unit)} {c : linkT → Bool} (hF : ∀ y, F (y, ()) = (true, (c y, ()))) (h : s.n ≤ 140737488355328) :
    M108 (s, (F, ())) = some (fstI (fun j => c (s.g j)) s.n, ()) := by
  have : L108x0 (no_index (s, (F, (((s.n : Nat) : Int), ())))) (no_index ((0 : Int), ())) = match fstN (fun j => c (s.g j)) s.n with | some k => .ret ((k : Int), ()) | none => .exit 0 () := by
    unfold L108x0
    refine iterQ_find (ps := vs108x0) (f := fun j => ((j : Int), ())) (big_lt h) (fun j hj _ => ?_) fun _ => ?_
    · unfold S108x0 Z108x0
      simp only [lt_ok hj, idx_ok hj, W_nat hj h, hF, decide_true, cond_true, and_self, Int.toNat_natCast]
    · unfold S108x0 Z108x0
      simp
  unfold M108 Q108 fstI
  simp only [this]
  cases fstN (fun j => c (s.g j)) s.n <;> simp
theorem M86xe {s : Sl linkT} (F : linkT × Unit → Bool × (Bool × Unit)) {c : linkT → Bool} (hF : ∀ y, F (y, ()) = (true, (c y, ()))) (h : s.n ≤ 140737488355328) :
    M86 (no_index (s, (F, ()))) = some ((List.range s.n).any (fun j => c (s.g j)), ()) := by
  unfold M86 Q86
  rw [M108xe hF h]
  simp only [cl_some, fstI_dec]
theorem M109xe {s : Sl portT} {F : portT × Unit → Bool × (Bool × Unit)} {c : portT → Bool} (hF : ∀ y, F (y, ()) = (true, (c y, ()))) (h : s.n ≤ 140737488355328) :
    M109 (s, (F, ())) = some (fstI (fun j => c (s.g j)) s.n, ()) := by
  have : L109x0 (no_index (s, (F, (((s.n : Nat) : Int), ())))) (no_index ((0 : Int), ())) = match fstN (fun j => c (s.g j)) s.n with | some k => .ret ((k : Int), ()) | none => .exit 0 () := by
    unfold L109x0
    refine iterQ_find (ps := vs109x0) (f := fun j => ((j : Int), ())) (big_lt h) (fun j hj _ => ?_) fun _ => ?_
    · unfold S109x0 Z109x0
      simp only [lt_ok hj, idx_ok hj, W_nat hj h, hF, decide_true, cond_true, and_self, Int.toNat_natCast]
    · unfold S109x0 Z109x0
      simp
  unfold M109 Q109 fstI
  simp only [this]
  cases fstN (fun j => c (s.g j)) s.n <;> simp
theorem M89xe {s : Sl portT} (F : portT × Unit → Bool × (Bool × Unit)) {c : portT → Bool} (hF : ∀ y, F (y, ()) = (true, (c y, ()))) (h : s.n ≤ 140737488355328) :
    M89 (no_index (s, (F, ()))) = some ((List.range s.n).any (fun j => c (s.g j)), ()) := by
  unfold M89 Q89
  rw [M109xe hF h]
  simp only [cl_some, fstI_dec]
theorem le_nat (n m : Nat) : decide ((n : Int) ≤ (m : Int)) = decide (n ≤ m) := by simp
theorem M83xw (w : wT) (h : w.2.1.n ≤ 140737488355328) (F : repT × Unit → Bool × (Bool × Unit)) (hF : F = fun y1 => ((p84 (y1.1, (w, ()))), (v84 (y1.1, (w, ()))))) : M83 (no_index (w.2.1, (F, ()))) = some (!(List.range w.2.1.n).all (fun j => repC w.1 (w.2.1.g j)), ()) := by
  rw [M83xe (c := fun y => !repC w.1 y) F (fun y => by rw [hF]; simp only [p84, v84, M84xe]; rfl) h, not_any]
theorem M86xw (w : wT) (h : w.2.2.1.n ≤ 140737488355328) (F : linkT × Unit → Bool × (Bool × Unit)) (hF : F = fun y1 => ((p87 (y1.1, (w, ()))), (v87 (y1.1, (w, ()))))) : M86 (no_index (w.2.2.1, (F, ()))) = some (!(List.range w.2.2.1.n).all (fun j => linkC w.1 (w.2.2.1.g j)), ()) := by
  rw [M86xe (c := fun y => !linkC w.1 y) F (fun y => by rw [hF]; simp only [p87, v87, M87xe]; rfl) h, not_any]
theorem M89xw (w : wT) (h : w.2.2.2.1.n ≤ 140737488355328) (F : portT × Unit → Bool × (Bool × Unit)) (hF : F = fun y1 => ((p90 y1), (v90 y1))) : M89 (no_index (w.2.2.2.1, (F, ()))) = some (!(List.range w.2.2.2.1.n).all (fun j => portC (w.2.2.2.1.g j)), ()) := by
  rw [M89xe (c := fun y => !portC y) F (fun y => by rw [hF]; simp only [p90, v90, M90xe]; rfl) h, not_any]
theorem and3 {a b c d : Int} : decide (a ≤ b ∧ b ≤ c ∧ c ≤ d) = (decide (a ≤ b) && (decide (b ≤ c) && decide (c ≤ d))) := by
  by_cases h1 : a ≤ b <;> by_cases h2 : b ≤ c <;> by_cases h3 : c ≤ d <;> simp [h1, h2, h3]
theorem le9 (n : Nat) : decide ((n : Int) ≤ (9 : Int)) = decide (n ≤ 9) := by
  by_cases h : n ≤ 9
  · have h' : (n : Int) ≤ 9 := by omega
    simp [h, h']
  · have h' : ¬ (n : Int) ≤ 9 := by omega
    simp [h, h']
theorem le8 (n : Nat) : decide ((n : Int) ≤ (8 : Int)) = decide (n ≤ 8) := by
  by_cases h : n ≤ 8
  · have h' : (n : Int) ≤ 8 := by omega
    simp [h, h']
  · have h' : ¬ (n : Int) ≤ 8 := by omega
    simp [h, h']
theorem le4 (n : Nat) : decide ((n : Int) ≤ (4 : Int)) = decide (n ≤ 4) := by
  by_cases h : n ≤ 4
  · have h' : (n : Int) ≤ 4 := by omega
    simp [h, h']
  · have h' : ¬ (n : Int) ≤ 4 := by omega
    simp [h, h']
theorem le12 (n : Nat) : decide ((n : Int) ≤ (12 : Int)) = decide (n ≤ 12) := by
  by_cases h : n ≤ 12
  · have h' : (n : Int) ≤ 12 := by omega
    simp [h, h']
  · have h' : ¬ (n : Int) ≤ 12 := by omega
    simp [h, h']
theorem M55xe (w : wT) : M55 (no_index (w, ())) = some (watchB w, ()) := by
  unfold M55 Q55 watchB numC
  simp only [M63xe, cl_some, le9, le8, le4, and3]
  cases inB w.1 1 6 with
  | false => rfl
  | true =>
  by_cases h1 : w.2.1.n ≤ 9
  case neg => simp [h1]
  by_cases h2 : w.2.2.1.n ≤ 8
  case neg => simp [h1, h2]
  by_cases h3 : w.2.2.2.1.n ≤ 4
  case neg => simp [h1, h2, h3]
  simp only [h1, h2, h3, decide_true, cond_true, Bool.true_and]
  cases inB w.2.2.2.2.1 1 99999 with
  | false => rfl
  | true =>
  cases inB w.2.2.2.2.2.1 1 2880 with
  | false => rfl
  | true =>
  cases inB w.2.2.2.2.2.2.1 1 2880 with
  | false => rfl
  | true =>
  cases decide ((0 : Int) ≤ w.2.2.2.2.2.2.2.1) with
  | false => rfl
  | true =>
  cases decide (w.2.2.2.2.2.2.2.1 ≤ w.2.2.2.2.2.2.2.2.1) with
  | false => rfl
  | true =>
  cases decide (w.2.2.2.2.2.2.2.2.1 ≤ (1440 : Int)) with
  | false => rfl
  | true =>
  simp only [cond_true, M83xw w (by omega) _ rfl, M86xw w (by omega) _ rfl, M89xw w (by omega) _ rfl, cl_some, Bool.not_not]
  cases (List.range w.2.1.n).all (fun j => repC w.1 (w.2.1.g j)) <;> cases (List.range w.2.2.1.n).all (fun j => linkC w.1 (w.2.2.1.g j)) <;> rfl
theorem L20x0_e (w : wT) (h : w.2.1.n ≤ 140737488355328) : L20x0 (no_index ((), (w, ()))) (no_index ((0 : Int), ())) = bif (List.range w.2.1.n).all (fun j => repC w.1 (w.2.1.g j)) then .exit 0 () else .ret (false, ()) := by
  unfold L20x0
  refine iterQ_all (ps := vs20x0) (f := fun j => ((j : Int), ())) (big_lt h) (fun j hj _ => ?_) fun _ => ?_
  · unfold S20x0 Z20x0 repC
    simp only [lt_ok hj, idx_ok hj, W_nat hj h, decide_true, cond_true, and_self, Int.toNat_natCast, M60xe, M59xe, M61xe, cl_some]
    generalize w.2.1.g j = r
    cases inB r.1 0 (W (w.1 - 1)) <;> cases inB r.2.1 0 10080 <;> cases inB r.2.2.1 0 99999 <;> cases spB r.2.2.2.1 r.2.2.2.2.1 2880 <;> cases inB r.2.2.2.2.2.1 0 2880 <;> cases inB r.2.2.2.2.2.2.1 0 10000 <;> rfl
  · unfold S20x0 Z20x0
    simp
theorem L20x1_e (w : wT) (h : w.2.2.1.n ≤ 140737488355328) : L20x1 (no_index ((), (w, ()))) (no_index ((0 : Int), ())) = bif (List.range w.2.2.1.n).all (fun j => linkC w.1 (w.2.2.1.g j)) then .exit 2 () else .ret (false, ()) := by
  unfold L20x1
  refine iterQ_all (ps := vs20x1) (f := fun j => ((j : Int), ())) (big_lt h) (fun j hj _ => ?_) fun _ => ?_
  · unfold S20x1 Z20x1 linkC
    simp only [lt_ok hj, idx_ok hj, W_nat hj h, decide_true, cond_true, and_self, Int.toNat_natCast, M60xe, M59xe, M61xe, cl_some]
    cases inB (w.2.2.1.g j).1 0 (W (w.1 - 1)) <;> cases inB (w.2.2.1.g j).2.1 0 (W (w.1 - 1)) <;> cases decide ((w.2.2.1.g j).1 = (w.2.2.1.g j).2.1) <;> cases inB (w.2.2.1.g j).2.2.1 1 99999 <;> rfl
  · unfold S20x1 Z20x1
    simp
theorem lt300 (x : Int) : decide ((300 : Int) < x) = !decide (x ≤ 300) := by
  by_cases h : x ≤ 300
  · have h' : ¬ (300 : Int) < x := by omega
    simp [h, h']
  · have h' : (300 : Int) < x := by omega
    simp [h, h']
theorem L20x2_e (w : wT) (h : w.2.2.2.1.n ≤ 140737488355328) : L20x2 (no_index ((), (w, ()))) (no_index ((0 : Int), ())) = bif (List.range w.2.2.2.1.n).all (fun j => portC (w.2.2.2.1.g j)) then .exit 4 () else .ret (false, ()) := by
  unfold L20x2
  refine iterQ_all (ps := vs20x2) (f := fun j => ((j : Int), ())) (big_lt h) (fun j hj _ => ?_) fun _ => ?_
  · unfold S20x2 Z20x2 portC
    simp only [lt_ok hj, idx_ok hj, W_nat hj h, decide_true, cond_true, and_self, Int.toNat_natCast, M60xe, M59xe, M61xe, cl_some, lt300]
    generalize w.2.2.2.1.g j = r
    cases spB r.1 r.2.1 2880 <;> cases decide (W (r.2.1 - r.1) ≤ 300) <;> cases inB r.2.2.1 0 50000 <;> cases inB r.2.2.2.1 0 50000 <;> rfl
  · unfold S20x2 Z20x2
    simp
/-- What the laws take: lists that are not long. -/
def shortB (w : wT) : Bool := decide (w.2.1.n ≤ 12) && (decide (w.2.2.1.n ≤ 12) && decide (w.2.2.2.1.n ≤ 8))
theorem M17xe (w : wT) : M17 (no_index (w, ())) = some (shortB w, ()) := by
  unfold M17 Q17 shortB
  simp only [le12, le8]
  cases decide (w.2.1.n ≤ 12) <;> cases decide (w.2.2.1.n ≤ 12) <;> rfl
theorem shortB_t {w : wT} (h : shortB w = true) : w.2.1.n ≤ 12 ∧ w.2.2.1.n ≤ 12 ∧ w.2.2.2.1.n ≤ 8 := by
  simp only [shortB, Bool.and_eq_true, decide_eq_true_eq] at h
  exact ⟨h.1, h.2.1, h.2.2⟩
theorem M20xe {w : wT} (h : shortB w = true) : M20 (no_index (w, ())) = some (watchB w, ()) := by
  obtain ⟨h1, h2, h3⟩ := shortB_t h
  unfold M20 Q20 watchB numC
  simp only [L20x0_e w (by omega), L20x1_e w (by omega), L20x2_e w (by omega), M60xe, cl_some, le9, le8, le4, and3]
  cases (List.range w.2.1.n).all (fun j => repC w.1 (w.2.1.g j)) with
  | false => simp
  | true =>
  cases (List.range w.2.2.1.n).all (fun j => linkC w.1 (w.2.2.1.g j)) with
  | false => simp
  | true =>
  cases (List.range w.2.2.2.1.n).all (fun j => portC (w.2.2.2.1.g j)) with
  | false => simp
  | true =>
  simp only [cond_true, xe20x0e0, xe20x1e2, xe20x2e4, Bool.and_true]
  cases inB w.1 1 6 <;> cases decide (w.2.1.n ≤ 9) <;> cases decide (w.2.2.1.n ≤ 8) <;> cases decide (w.2.2.2.1.n ≤ 4) <;> cases inB w.2.2.2.2.1 1 99999 <;> cases inB w.2.2.2.2.2.1 1 2880 <;> cases inB w.2.2.2.2.2.2.1 1 2880 <;>
    cases decide ((0 : Int) ≤ w.2.2.2.2.2.2.2.1) <;> cases decide (w.2.2.2.2.2.2.2.1 ≤ w.2.2.2.2.2.2.2.2.1) <;> rfl
end Go.Dm

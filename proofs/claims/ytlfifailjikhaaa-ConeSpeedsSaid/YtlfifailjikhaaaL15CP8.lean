/- Whether a cone is up, as far as is known. -/
import Derived.Test.YtlfifailjikhaaaL15CP7
set_option linter.unusedVariables false
set_option linter.unusedSimpArgs false
namespace Go.Dm
set_option maxRecDepth 100000

theorem fstN_isSome {c : Nat → Bool} : ∀ n, (fstN c n).isSome = (List.range n).any c
  | 0 => rfl
  | n + 1 => by
    rw [List.range_succ, List.any_append, ← fstN_isSome n]
    simp only [fstN]
    cases fstN c n with
    | some k => rfl
    | none => cases h : c n <;> simp [h]
/-- The first number from one to another one for which something holds, or none. -/
theorem M80xe {lo hi : Int} (h0 : 0 ≤ lo) (h1 : lo ≤ hi) (h2 : hi ≤ 100000) {F : Int × Unit → Bool × (Bool × Unit)} {c : Nat → Bool} (hF : ∀ j : Nat, j < (hi - lo + 1).toNat → F (lo + (j : Int), ()) = (true, (c j, ()))) :
    M80 (no_index (lo, (hi, (F, ())))) = some (match fstN c (hi - lo + 1).toNat with | some k => (lo + (k : Int), (true, ())) | none => ((0 : Int), (false, ()))) := by
  obtain ⟨n, hn⟩ : ∃ n : Nat, n = (hi - lo + 1).toNat := ⟨_, rfl⟩
  have hn' : hi - lo + 1 = (n : Int) := by omega
  rw [← hn] at hF ⊢
  have : L80x0 (no_index (lo, (F, ((n : Int), ())))) (no_index ((0 : Int), ())) = match fstN c n with | some k => .ret (lo + (k : Int), (true, ())) | none => .exit 0 () := by
    unfold L80x0
    refine iterQ_find (ps := vs80x0) (f := fun j => ((j : Int), ())) (big_lt (show n ≤ _ by omega)) (fun j hj _ => ?_) fun _ => ?_
    · have hw : W (lo + (j : Int)) = lo + (j : Int) := W_id ⟨by omega, by omega⟩
      unfold S80x0 Z80x0
      simp only [lt_ok hj, W_nat hj (show n ≤ _ by omega), hw, hF j hj, decide_true, cond_true]
    · unfold S80x0 Z80x0
      simp only [Int.lt_irrefl, decide_false, cond_false]
  have e : W (W (hi - lo) + 1) = (n : Int) := by rw [W_id (n := hi - lo) ⟨by omega, by omega⟩, W_id ⟨by omega, by omega⟩, hn']
  unfold M80 Q80
  simp only [e]
  rw [this]
  cases fstN c n <;> rfl
def sA (w : wT) (b : Bool) (lo m : Int) (j : Nat) : Bool := seesB w (endS w b) (W (m - (lo + (j : Int))))
theorem port_in {w : wT} (hw : watchB w = true) {p : Int} (hp : 0 ≤ p ∧ p < (w.2.2.2.1.n : Int)) : 0 ≤ (portA w p).1 ∧ (portA w p).1 ≤ (portA w p).2.1 ∧ (portA w p).2.1 ≤ 2880 := by
  simp only [watchB, Bool.and_eq_true] at hw
  have := all_t hw.2.2.2 (show p.toNat < w.2.2.2.1.n by omega)
  simp only [portC, Bool.and_eq_true] at this
  exact of_decide_eq_true this.1
def numO (w : wT) (p : Int) : Nat := ((portA w p).2.1 - (portA w p).1 + 1).toNat
def someB (w : wT) (p m : Int) : Bool := (List.range (numO w p)).any (sA w false (portA w p).1 m)
def allB (w : wT) (p m : Int) : Bool := (List.range (numO w p)).all (sA w true (portA w p).1 m)
theorem M65xe {w : wT} (hw : watchB w = true) {p : Int} (hp : 0 ≤ p ∧ p < (w.2.2.2.1.n : Int)) (m : Int) : M65 (no_index (lookK w, (p, (m, ())))) = some (someB w p m, (someB w p m && allB w p m, ())) := by
  obtain ⟨h1, h2, h3⟩ := small hw
  obtain ⟨p1, p2, p3⟩ := port_in hw hp
  have fA : ∀ j : Nat, j < ((portA w p).2.1 - (portA w p).1 + 1).toNat → (fun y1 : Int × Unit => ((p99 (y1.1, (lookK w, ((endS w false, (endS w true, ())), ((m, ()), ()))))), (v99 (y1.1, (lookK w, ((endS w false, (endS w true, ())), ((m, ()), ()))))))) ((portA w p).1 + (j : Int), ()) = (true, (sA w false (portA w p).1 m j, ())) := fun j _ => by
    simp only [p99, v99, M99, Q99, M72xe (show w.2.1.n ≤ _ by omega) (endS_n w false), cl_some]; rfl
  have fB : ∀ j : Nat, j < ((portA w p).2.1 - (portA w p).1 + 1).toNat → (fun y1 : Int × Unit => ((p100 (y1.1, (lookK w, ((endS w false, (endS w true, ())), ((m, ()), ()))))), (v100 (y1.1, (lookK w, ((endS w false, (endS w true, ())), ((m, ()), ()))))))) ((portA w p).1 + (j : Int), ()) = (true, (!sA w true (portA w p).1 m j, ())) := fun j _ => by
    simp only [p100, v100, M100, Q100, M72xe (show w.2.1.n ≤ _ by omega) (endS_n w true), cl_some]; rfl
  have e1 := M80xe p1 p2 (show _ ≤ (100000 : Int) by omega) (F := fun y1 : Int × Unit => ((p99 (y1.1, (lookK w, ((endS w false, (endS w true, ())), ((m, ()), ()))))), (v99 (y1.1, (lookK w, ((endS w false, (endS w true, ())), ((m, ()), ()))))))) fA
  have e2 := M80xe p1 p2 (show _ ≤ (100000 : Int) by omega) (F := fun y1 : Int × Unit => ((p100 (y1.1, (lookK w, ((endS w false, (endS w true, ())), ((m, ()), ()))))), (v100 (y1.1, (lookK w, ((endS w false, (endS w true, ())), ((m, ()), ()))))))) fB
  have a1 : someB w p m = (fstN (sA w false (portA w p).1 m) ((portA w p).2.1 - (portA w p).1 + 1).toNat).isSome := (fstN_isSome _).symm
  have a2 : allB w p m = !(fstN (fun j => !sA w true (portA w p).1 m j) ((portA w p).2.1 - (portA w p).1 + 1).toNat).isSome := by
    rw [fstN_isSome, not_any, Bool.not_not]; rfl
  have hq : (0 ≤ p ∧ p < ((lookK w).2.2.2.1.n : Int)) := hp
  unfold M65 Q65
  simp only [M62xe (show w.2.1.n ≤ 1000 by omega), cl_some, hq, and_self, decide_true, cond_true]
  refine (congrArg (fun o => cl (r80).dflt o _ _) e1).trans ?_
  rw [a1, a2]
  cases fstN (sA w false (portA w p).1 m) ((portA w p).2.1 - (portA w p).1 + 1).toNat with
  | none => rfl
  | some k =>
    refine (congrArg (fun o => cl (r80).dflt o (fun u2 => some (true, ((!u2.2.1), ()))) none) e2).trans ?_
    cases fstN (fun j => !sA w true (portA w p).1 m j) ((portA w p).2.1 - (portA w p).1 + 1).toNat <;> rfl
theorem sees_mono {w : wT} (hw : watchB w = true) {d d' : rowI} (hd : delB w d = true) (hd' : delB w d' = true) (h : ∀ i, i < w.2.1.n → (d.g i).1 ≤ (d'.g i).1) {m : Int} (hs : seesB w d' m = true) : seesB w d m = true := by
  obtain ⟨i, j, h1, h2, h3, h4, h5⟩ := sees_iff.1 hs
  have m1 : mI w d i ≤ mI w d' i := by rw [mI_e hw hd h1, mI_e hw hd' h1]; have := h i h1; omega
  have m2 : mI w d j ≤ mI w d' j := by rw [mI_e hw hd h2, mI_e hw hd' h2]; have := h j h2; omega
  have hle : loI w d (prN i j) ≤ loI w d' (prN i j) := mx_mono m1 m2
  exact sees_iff.2 ⟨i, j, h1, h2, h3, by omega, h5⟩
theorem sA_mono {w : wT} (hw : watchB w = true) {lo m : Int} {j : Nat} (h : sA w true lo m j = true) : sA w false lo m j = true :=
  sees_mono hw (endS_del hw false) (endS_del hw true) (fun i hi => by have := del_le (endS_del hw false) hi; omega) h
theorem all_some {w : wT} (hw : watchB w = true) {p : Int} (hp : 0 ≤ p ∧ p < (w.2.2.2.1.n : Int)) {m : Int} (h : allB w p m = true) : someB w p m = true := by
  obtain ⟨p1, p2, p3⟩ := port_in hw hp
  have h0 : 0 < numO w p := by unfold numO; omega
  exact List.any_eq_true.2 ⟨0, by simpa using h0, sA_mono hw (all_t h h0)⟩
def wordI (s a : Bool) : Int := bif a then 3 else bif s then 2 else 1
theorem M64xe (s a : Bool) : M64 (no_index (s, (a, ()))) = some (wordI s a, ()) := by
  unfold M64 Q64 wordI
  cases s <;> cases a <;> rfl
theorem M66xe (a s : Bool) : M66 (no_index (a, (s, ()))) = some (wordI s a, ()) := by
  unfold M66 Q66 wordI
  cases s <;> cases a <;> rfl
theorem M28xe {w : wT} (hw : watchB w = true) {p : Int} (hp : 0 ≤ p ∧ p < (w.2.2.2.1.n : Int)) (m : Int) : M28 (no_index (w, (p, (m, ())))) = some (wordI (someB w p m) (allB w p m), ()) := by
  obtain ⟨h1, h2, h3⟩ := small hw
  obtain ⟨p1, p2, p3⟩ := port_in hw hp
  have hn : numO w p ≤ 100000 := by unfold numO; omega
  have hN : ((numO w p : Nat) : Int) = (portA w p).2.1 - (portA w p).1 + 1 := by unfold numO; omega
  have : L28x0 (no_index (m, ((), ((), (endS w false, (endS w true, (w, (((portA w p).1, ((portA w p).2.1, ())), ())))))))) (no_index (true, (false, ((portA w p).1, ())))) = .exit 0 (allB w p m, (someB w p m, ())) := by
    unfold L28x0
    refine (congrArg (iterQ (ps := vs28x0) _ big) ?_).trans (iterQ_steps (ps := vs28x0) (numO w p) big (fun j => ((List.range j).all (sA w true (portA w p).1 m), ((List.range j).any (sA w false (portA w p).1 m), ((portA w p).1 + (j : Int), ())))) (big_lt (by omega)) (fun j hj => ?_) ?_)
    · show (true, (false, ((portA w p).1, ()))) = (true, (false, ((portA w p).1 + ((0 : Nat) : Int), ())))
      simp
    · have a1 : (portA w p).1 + (j : Int) ≤ (portA w p).2.1 := by omega
      have a2 : W ((portA w p).1 + (j : Int) + 1) = (portA w p).1 + ((j + 1 : Nat) : Int) := by rw [W_id ⟨by omega, by omega⟩]; omega
      have b1 : sA w true (portA w p).1 m j = seesB w (endS w true) (W (m - ((portA w p).1 + (j : Int)))) := rfl
      have b2 : sA w false (portA w p).1 m j = seesB w (endS w false) (W (m - ((portA w p).1 + (j : Int)))) := rfl
      unfold S28x0 Z28x0
      simp only [a1, a2, b1, b2, decide_true, cond_true, M40xe hw (endS_n w false), M40xe hw (endS_n w true), cl_some, List.range_succ, List.all_append, List.any_append, List.all_cons, List.all_nil, List.any_cons, List.any_nil, Bool.and_true, Bool.or_false]
      cases (List.range j).all (sA w true (portA w p).1 m) <;> cases (List.range j).any (sA w false (portA w p).1 m) <;> rfl
    · have a1 : ¬ (portA w p).1 + ((numO w p : Nat) : Int) ≤ (portA w p).2.1 := by omega
      unfold S28x0 Z28x0
      simp only [a1, decide_false, cond_false]
      rfl
  unfold M28 Q28
  simp only [hp, and_self, decide_true, cond_true, M24xe (show w.2.1.n ≤ 1000 by omega), cl_some]
  refine (congrArg (fun o => onExit o 0 _ _) this).trans ?_
  simp only [xe28x0e0, M66xe, cl_some]
theorem M25xe {w : wT} (hs : shortB w = true) (p m : Int) : M25 (no_index (w, (p, (m, ())))) = some (bif watchB w && (portI w p && inB m 0 20000) then (wordI (someB w p m) (allB w p m), ((0 : Int), ())) else ((0 : Int), ((2 : Int), ()))) := by
  obtain ⟨s1, s2, s3⟩ := shortB_t hs
  unfold M25 Q25
  simp only [M55xe, M63xe, cl_some]
  cases hw : watchB w with
  | false => rfl
  | true =>
  show (bif !portI w p then _ else _) = _
  cases hp : portI w p with
  | false => rfl
  | true =>
  cases inB m 0 20000 with
  | false => rfl
  | true =>
  have hx := port_ix (show w.2.2.2.1.n ≤ _ by omega) hp
  have hz : wordI (someB w p m) (someB w p m && allB w p m) = wordI (someB w p m) (allB w p m) := by
    cases ha : allB w p m with
    | true => rw [all_some hw hx ha]; rfl
    | false => cases someB w p m <;> rfl
  simp only [M57xe (show w.2.2.1.n ≤ _ by omega) (show w.2.1.n ≤ _ by omega), M65xe hw hx, M64xe, hz, cl_some, Bool.not_true, cond_false, cond_true, Bool.and_self]
theorem M7xe (w : wT) (p m : Int) : M7 (no_index (w, (p, (m, ())))) = some (true, ()) := by
  unfold M7 Q7
  simp only [M17xe, cl_some, known_M]
  cases hs : shortB w with
  | false => rfl
  | true =>
  obtain ⟨s1, s2, s3⟩ := shortB_t hs
  simp only [M25xe hs, M20xe hs, M26xe, M27xe, cl_some, Bool.not_true, cond_false]
  cases hw : watchB w with
  | false => rfl
  | true =>
  cases hp : portI w p with
  | false => rfl
  | true =>
  cases inB m 0 20000 with
  | false => rfl
  | true =>
  have hx := port_ix (show w.2.2.2.1.n ≤ _ by omega) hp
  simp only [M28xe hw hx, cl_some, Bool.and_true, cond_true, Bool.not_true, cond_false]
  simp
theorem law7 (x : (a7).den) : M7 x = some (true, ()) := by
  obtain ⟨w, p, m, ⟨⟩⟩ := x
  exact M7xe w p m
end Go.Dm

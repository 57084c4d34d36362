/-
  Each function of the program as a Lean function, and that its calls come to what that says.
-/
import Derived.Test.YtlfgdpjompacjaaGB
set_option linter.unusedVariables false
set_option linter.unusedSimpArgs false
namespace Go.Dm
open Go.RowKit Go.Proofs
set_option maxRecDepth 100000
/-- isobar/isobarref07.Land -/
noncomputable def c49 : Code := Try.f49.body.getD .skip
theorem at49 : Try.prog.funcs[49]? = some Try.f49 := by kernel_rfl
theorem bd49 : Try.f49.body = some c49 := by kernel_rfl
theorem cl49 : Callable Try.prog 49 := callable_of at49 (by kernel_rfl) (by kernel_rfl)
abbrev a49 : Ty := T43
abbrev r49 : Ty := T12
noncomputable def G49 : Ctx := Ctx.of [(83, .pure k83), (99, .pure k99), (100, .pure k100), (101, .pure k101)]
theorem g49 : Sound Try.prog (G49) := sound_of (List.forall_mem_cons.2 ⟨⟨cl83, h83⟩, List.forall_mem_cons.2 ⟨⟨cl99, h99⟩, List.forall_mem_cons.2 ⟨⟨cl100, h100⟩, List.forall_mem_cons.2 ⟨⟨cl101, h101⟩, fun _ h => by cases h⟩⟩⟩⟩)
noncomputable def b49x0 : Code := loopBody ((loopsOf (c49))[0]?)
noncomputable def b49x0x0 : Code := loopBody ((loopsOf (b49x0))[0]?)
noncomputable def b49x0x0x0 : Code := loopBody ((loopsOf (b49x0x0))[0]?)
noncomputable def b49x0x0x0x0 : Code := loopBody ((loopsOf (b49x0x0x0))[0]?)
theorem lo49x0x0x0x0 : loopsOf (b49x0x0x0x0) = [] := by kernel_rfl
abbrev cs49x0x0x0x0 : List Pat := [.slot 1 (.ptr 1), .slot 2 (.ptr 2), .slot 3 (.ptr 121), .slot 4 (.pc .bool), .slot 5 (.pc tI), .slot 6 (.pc tI), .slot 7 (.pc tI), .slot 8 (.pc (.sl T0)), .box 1 [.pc (.sl T9), .pc tI, .pc tI, .pc tI, .pc tI, .pc tI, .pc tI, .pc tI, .pc tI, .pc tI, .pc tI, .pc tI, .pc tI], .box 2 [.pc tI, .pc tI, .pc tI, .pc tI, .pc tI, .pc tI], .box 121 [.pc tI, .pc tI, .pc tI, .pc tI, .pc tI, .pc tI]]
abbrev vs49x0x0x0x0 : List Pat := [.slot 9 (.own 1000009 3 T0), .slot 10 (.own 1000010 3 T0), .slot 11 (.own 1000011 3 T0), .slot 12 (.own 1000012 3 T0), .slot 13 (.pc tI)]
abbrev ps49x0x0x0x0 : List Pat := [.slot 1 (.ptr 1), .slot 2 (.ptr 2), .slot 3 (.ptr 121), .slot 4 (.pc .bool), .slot 5 (.pc tI), .slot 6 (.pc tI), .slot 7 (.pc tI), .slot 8 (.pc (.sl T0)), .box 1 [.pc (.sl T9), .pc tI, .pc tI, .pc tI, .pc tI, .pc tI, .pc tI, .pc tI, .pc tI, .pc tI, .pc tI, .pc tI, .pc tI], .box 2 [.pc tI, .pc tI, .pc tI, .pc tI, .pc tI, .pc tI], .box 121 [.pc tI, .pc tI, .pc tI, .pc tI, .pc tI, .pc tI], .slot 9 (.own 1000009 3 T0), .slot 10 (.own 1000010 3 T0), .slot 11 (.own 1000011 3 T0), .slot 12 (.own 1000012 3 T0), .slot 13 (.pc tI)]
def j49x0x0x0x0 : (patsTy cs49x0x0x0x0).den → (patsTy vs49x0x0x0x0).den → (patsTy ps49x0x0x0x0).den := fun c v => (c.1, (c.2.1, (c.2.2.1, (c.2.2.2.1, (c.2.2.2.2.1, (c.2.2.2.2.2.1, (c.2.2.2.2.2.2.1, (c.2.2.2.2.2.2.2.1, (c.2.2.2.2.2.2.2.2.1, (c.2.2.2.2.2.2.2.2.2.1, (c.2.2.2.2.2.2.2.2.2.2.1, v)))))))))))
def sp49x0x0x0x0 : (patsTy ps49x0x0x0x0).den → (patsTy cs49x0x0x0x0).den × (patsTy vs49x0x0x0x0).den := fun x => ((x.1, (x.2.1, (x.2.2.1, (x.2.2.2.1, (x.2.2.2.2.1, (x.2.2.2.2.2.1, (x.2.2.2.2.2.2.1, (x.2.2.2.2.2.2.2.1, (x.2.2.2.2.2.2.2.2.1, (x.2.2.2.2.2.2.2.2.2.1, (x.2.2.2.2.2.2.2.2.2.2.1, ()))))))))))), x.2.2.2.2.2.2.2.2.2.2.2)
abbrev wy49x0x0x0x0 : Ways := ⟨[(6, [.slot 1 (.ptr 1), .slot 2 (.ptr 2), .slot 3 (.ptr 121), .slot 4 (.pc .bool), .slot 5 (.pc tI), .slot 6 (.pc tI), .slot 7 (.pc tI), .slot 8 (.pc (.sl T0)), .box 1 [.pc (.sl T9), .pc tI, .pc tI, .pc tI, .pc tI, .pc tI, .pc tI, .pc tI, .pc tI, .pc tI, .pc tI, .pc tI, .pc tI], .box 2 [.pc tI, .pc tI, .pc tI, .pc tI, .pc tI, .pc tI], .box 121 [.pc tI, .pc tI, .pc tI, .pc tI, .pc tI, .pc tI], .slot 9 (.pc (.sl T0)), .slot 10 (.pc (.sl T0)), .slot 11 (.pc (.sl T0)), .slot 12 (.pc (.sl T0))])], [], []⟩
abbrev wv49x0x0x0x0 : Ways := ⟨[(6, [.slot 9 (.pc (.sl T0)), .slot 10 (.pc (.sl T0)), .slot 11 (.pc (.sl T0)), .slot 12 (.pc (.sl T0))])], [], []⟩
def je49x0x0x0x0 : (id : Nat) → (patsTy cs49x0x0x0x0).den → (patsTy (wayP wv49x0x0x0x0 id)).den → (patsTy (wayP wy49x0x0x0x0 id)).den := fun id => match id with | 6 => fun c y => (c.1, (c.2.1, (c.2.2.1, (c.2.2.2.1, (c.2.2.2.2.1, (c.2.2.2.2.2.1, (c.2.2.2.2.2.2.1, (c.2.2.2.2.2.2.2.1, (c.2.2.2.2.2.2.2.2.1, (c.2.2.2.2.2.2.2.2.2.1, (c.2.2.2.2.2.2.2.2.2.2.1, y))))))))))) | id => fun _ _ => (patsTy (wayP wy49x0x0x0x0 id)).dflt
def jr49x0x0x0x0 : (patsTy cs49x0x0x0x0).den → (patsTy (wv49x0x0x0x0).ret).den → (patsTy (wy49x0x0x0x0).ret).den := fun c y => y
def Z49x0x0x0x0 {α : Type} (l : RQ vs49x0x0x0x0 wv49x0x0x0x0 → α) (an : α → α → α) (c : (patsTy cs49x0x0x0x0).den) (v : (patsTy vs49x0x0x0x0).den) : α := bif (decide (v.2.2.2.2.1 < ((c.2.2.2.2.2.2.2.2.1.1.n : Nat) : Int))) then bif (decide (((0 : Int) ≤ v.2.2.2.2.1) ∧ (v.2.2.2.2.1 < ((c.2.2.2.2.2.2.2.2.1.1.n : Nat) : Int)))) then bif (decide (((v.1.n + 1) * 8) ≤ 140737488355328)) then bif (decide (((v.2.1.n + 1) * 8) ≤ 140737488355328)) then bif (decide (((v.2.2.1.n + 1) * 8) ≤ 140737488355328)) then bif (decide (((v.2.2.2.1.n + 1) * 8) ≤ 140737488355328)) then l (.next ((catSl v.1 (⟨1, fun i => List.getD [((c.2.2.2.2.2.2.2.2.1.1.g (Int.toNat v.2.2.2.2.1)).2.1, ())] i ((c.2.2.2.2.2.2.2.2.1.1.g (Int.toNat v.2.2.2.2.1)).2.1, ())⟩ : Sl (Ty.den T0))), ((catSl v.2.1 (⟨1, fun i => List.getD [((c.2.2.2.2.2.2.2.2.1.1.g (Int.toNat v.2.2.2.2.1)).2.2.1, ())] i ((c.2.2.2.2.2.2.2.2.1.1.g (Int.toNat v.2.2.2.2.1)).2.2.1, ())⟩ : Sl (Ty.den T0))), ((catSl v.2.2.1 (⟨1, fun i => List.getD [((c.2.2.2.2.2.2.2.2.1.1.g (Int.toNat v.2.2.2.2.1)).2.2.2.1, ())] i ((c.2.2.2.2.2.2.2.2.1.1.g (Int.toNat v.2.2.2.2.1)).2.2.2.1, ())⟩ : Sl (Ty.den T0))), ((catSl v.2.2.2.1 (⟨1, fun i => List.getD [(c.2.2.2.2.2.2.2.2.1.1.g (Int.toNat v.2.2.2.2.1)).2.2.2.2] i (c.2.2.2.2.2.2.2.2.1.1.g (Int.toNat v.2.2.2.2.1)).2.2.2.2⟩ : Sl (Ty.den T0))), ((W (v.2.2.2.2.1 + (1 : Int))), ())))))) else l .bad else l .bad else l .bad else l .bad else l .bad else l (.out (.exit 6 (v.1, (v.2.1, (v.2.2.1, (v.2.2.2.1, ()))))))
theorem z49x0x0x0x0 (c : (patsTy cs49x0x0x0x0).den) (v : (patsTy vs49x0x0x0x0).den) : roundQ Try.prog E0 G49 0 118 [] ps49x0x0x0x0 wy49x0x0x0x0 b49x0x0x0x0 [] (j49x0x0x0x0 c v) = Z49x0x0x0x0 (fun r => .leaf (r.lift j49x0x0x0x0 je49x0x0x0x0 jr49x0x0x0x0 c)) .any c v := by kernel_rfl
def S49x0x0x0x0 (c : (patsTy cs49x0x0x0x0).den) (v : (patsTy vs49x0x0x0x0).den) : RQ vs49x0x0x0x0 wv49x0x0x0x0 := Z49x0x0x0x0 (fun r => r) (fun _ _ => .bad) c v
theorem s49x0x0x0x0 (c : (patsTy cs49x0x0x0x0).den) (v : (patsTy vs49x0x0x0x0).den) : detQ (roundQ Try.prog E0 G49 0 118 [] ps49x0x0x0x0 wy49x0x0x0x0 b49x0x0x0x0 [] (j49x0x0x0x0 c v)) = (S49x0x0x0x0 c v).lift j49x0x0x0x0 je49x0x0x0x0 jr49x0x0x0x0 c := by rw [z49x0x0x0x0]; unfold S49x0x0x0x0 Z49x0x0x0x0; simp only [detQ_cond, lift_cond, lift_bad, detQ]
def L49x0x0x0x0 (c : (patsTy cs49x0x0x0x0).den) (v : (patsTy vs49x0x0x0x0).den) : LQ wv49x0x0x0x0 := iterQ (S49x0x0x0x0 c) big v
theorem lo49x0x0x0 : loopsOf (b49x0x0x0) = [.loop b49x0x0x0x0] := by kernel_rfl
abbrev cs49x0x0x0 : List Pat := [.slot 1 (.ptr 1), .slot 2 (.ptr 2), .slot 3 (.ptr 121), .slot 5 (.pc tI), .slot 6 (.pc tI), .box 1 [.pc (.sl T9), .pc tI, .pc tI, .pc tI, .pc tI, .pc tI, .pc tI, .pc tI, .pc tI, .pc tI, .pc tI, .pc tI, .pc tI], .box 2 [.pc tI, .pc tI, .pc tI, .pc tI, .pc tI, .pc tI]]
abbrev vs49x0x0x0 : List Pat := [.slot 4 (.pc .bool), .slot 7 (.pc tI), .box 121 [.pc tI, .pc tI, .pc tI, .pc tI, .pc tI, .pc tI]]
abbrev ps49x0x0x0 : List Pat := [.slot 1 (.ptr 1), .slot 2 (.ptr 2), .slot 3 (.ptr 121), .slot 5 (.pc tI), .slot 6 (.pc tI), .box 1 [.pc (.sl T9), .pc tI, .pc tI, .pc tI, .pc tI, .pc tI, .pc tI, .pc tI, .pc tI, .pc tI, .pc tI, .pc tI, .pc tI], .box 2 [.pc tI, .pc tI, .pc tI, .pc tI, .pc tI, .pc tI], .slot 4 (.pc .bool), .slot 7 (.pc tI), .box 121 [.pc tI, .pc tI, .pc tI, .pc tI, .pc tI, .pc tI]]
def j49x0x0x0 : (patsTy cs49x0x0x0).den → (patsTy vs49x0x0x0).den → (patsTy ps49x0x0x0).den := fun c v => (c.1, (c.2.1, (c.2.2.1, (c.2.2.2.1, (c.2.2.2.2.1, (c.2.2.2.2.2.1, (c.2.2.2.2.2.2.1, v)))))))
def sp49x0x0x0 : (patsTy ps49x0x0x0).den → (patsTy cs49x0x0x0).den × (patsTy vs49x0x0x0).den := fun x => ((x.1, (x.2.1, (x.2.2.1, (x.2.2.2.1, (x.2.2.2.2.1, (x.2.2.2.2.2.1, (x.2.2.2.2.2.2.1, ()))))))), x.2.2.2.2.2.2.2)
abbrev wy49x0x0x0 : Ways := ⟨[(4, [.slot 1 (.ptr 1), .slot 2 (.ptr 2), .slot 3 (.ptr 121), .slot 5 (.pc tI), .slot 6 (.pc tI), .box 1 [.pc (.sl T9), .pc tI, .pc tI, .pc tI, .pc tI, .pc tI, .pc tI, .pc tI, .pc tI, .pc tI, .pc tI, .pc tI, .pc tI], .box 2 [.pc tI, .pc tI, .pc tI, .pc tI, .pc tI, .pc tI], .slot 4 (.pc .bool), .box 121 [.pc tI, .pc tI, .pc tI, .pc tI, .pc tI, .pc tI]])], [], []⟩
abbrev wv49x0x0x0 : Ways := ⟨[(4, [.slot 4 (.pc .bool), .box 121 [.pc tI, .pc tI, .pc tI, .pc tI, .pc tI, .pc tI]])], [], []⟩
def je49x0x0x0 : (id : Nat) → (patsTy cs49x0x0x0).den → (patsTy (wayP wv49x0x0x0 id)).den → (patsTy (wayP wy49x0x0x0 id)).den := fun id => match id with | 4 => fun c y => (c.1, (c.2.1, (c.2.2.1, (c.2.2.2.1, (c.2.2.2.2.1, (c.2.2.2.2.2.1, (c.2.2.2.2.2.2.1, y))))))) | id => fun _ _ => (patsTy (wayP wy49x0x0x0 id)).dflt
def jr49x0x0x0 : (patsTy cs49x0x0x0).den → (patsTy (wv49x0x0x0).ret).den → (patsTy (wy49x0x0x0).ret).den := fun c y => y
def Z49x0x0x0 {α : Type} (l : RQ vs49x0x0x0 wv49x0x0x0 → α) (an : α → α → α) (c : (patsTy cs49x0x0x0).den) (v : (patsTy vs49x0x0x0).den) : α := bif (decide (v.2.1 ≤ c.2.2.2.2.2.1.2.2.2.2.2.2.1)) then bif (p99 (c.2.2.2.2.2.1, (c.2.2.2.1, (c.2.2.2.2.1, (v.2.1, ()))))) then bif (LQ.isExit (L49x0x0x0x0 ((), ((), ((), (v.1, (c.2.2.2.1, (c.2.2.2.2.1, (v.2.1, ((v99 (c.2.2.2.2.2.1, (c.2.2.2.1, (c.2.2.2.2.1, (v.2.1, ()))))).1, (c.2.2.2.2.2.1, (c.2.2.2.2.2.2.1, (v.2.2.1, ()))))))))))) ((⟨0, fun i => ((0 : Int), ())⟩ : Sl _), ((⟨0, fun i => ((0 : Int), ())⟩ : Sl _), ((⟨0, fun i => ((0 : Int), ())⟩ : Sl _), ((⟨0, fun i => ((0 : Int), ())⟩ : Sl _), ((0 : Int), ())))))) 6) then bif (p100 ((v99 (c.2.2.2.2.2.1, (c.2.2.2.1, (c.2.2.2.2.1, (v.2.1, ()))))).1, ((LQ.getExit (L49x0x0x0x0 ((), ((), ((), (v.1, (c.2.2.2.1, (c.2.2.2.2.1, (v.2.1, ((v99 (c.2.2.2.2.2.1, (c.2.2.2.1, (c.2.2.2.2.1, (v.2.1, ()))))).1, (c.2.2.2.2.2.1, (c.2.2.2.2.2.2.1, (v.2.2.1, ()))))))))))) ((⟨0, fun i => ((0 : Int), ())⟩ : Sl _), ((⟨0, fun i => ((0 : Int), ())⟩ : Sl _), ((⟨0, fun i => ((0 : Int), ())⟩ : Sl _), ((⟨0, fun i => ((0 : Int), ())⟩ : Sl _), ((0 : Int), ())))))) 6).1, ()))) then bif (p83 ((v.2.2.1.1, (v.2.2.1.2.1, ())), ((v100 ((v99 (c.2.2.2.2.2.1, (c.2.2.2.1, (c.2.2.2.2.1, (v.2.1, ()))))).1, ((LQ.getExit (L49x0x0x0x0 ((), ((), ((), (v.1, (c.2.2.2.1, (c.2.2.2.2.1, (v.2.1, ((v99 (c.2.2.2.2.2.1, (c.2.2.2.1, (c.2.2.2.2.1, (v.2.1, ()))))).1, (c.2.2.2.2.2.1, (c.2.2.2.2.2.2.1, (v.2.2.1, ()))))))))))) ((⟨0, fun i => ((0 : Int), ())⟩ : Sl _), ((⟨0, fun i => ((0 : Int), ())⟩ : Sl _), ((⟨0, fun i => ((0 : Int), ())⟩ : Sl _), ((⟨0, fun i => ((0 : Int), ())⟩ : Sl _), ((0 : Int), ())))))) 6).1, ()))).1, (v.1, ())))) then bif (p100 ((v99 (c.2.2.2.2.2.1, (c.2.2.2.1, (c.2.2.2.2.1, (v.2.1, ()))))).1, ((LQ.getExit (L49x0x0x0x0 ((), ((), ((), (v.1, (c.2.2.2.1, (c.2.2.2.2.1, (v.2.1, ((v99 (c.2.2.2.2.2.1, (c.2.2.2.1, (c.2.2.2.2.1, (v.2.1, ()))))).1, (c.2.2.2.2.2.1, (c.2.2.2.2.2.2.1, (v.2.2.1, ()))))))))))) ((⟨0, fun i => ((0 : Int), ())⟩ : Sl _), ((⟨0, fun i => ((0 : Int), ())⟩ : Sl _), ((⟨0, fun i => ((0 : Int), ())⟩ : Sl _), ((⟨0, fun i => ((0 : Int), ())⟩ : Sl _), ((0 : Int), ())))))) 6).2.1, ()))) then bif (p83 ((v83 ((v.2.2.1.1, (v.2.2.1.2.1, ())), ((v100 ((v99 (c.2.2.2.2.2.1, (c.2.2.2.1, (c.2.2.2.2.1, (v.2.1, ()))))).1, ((LQ.getExit (L49x0x0x0x0 ((), ((), ((), (v.1, (c.2.2.2.1, (c.2.2.2.2.1, (v.2.1, ((v99 (c.2.2.2.2.2.1, (c.2.2.2.1, (c.2.2.2.2.1, (v.2.1, ()))))).1, (c.2.2.2.2.2.1, (c.2.2.2.2.2.2.1, (v.2.2.1, ()))))))))))) ((⟨0, fun i => ((0 : Int), ())⟩ : Sl _), ((⟨0, fun i => ((0 : Int), ())⟩ : Sl _), ((⟨0, fun i => ((0 : Int), ())⟩ : Sl _), ((⟨0, fun i => ((0 : Int), ())⟩ : Sl _), ((0 : Int), ())))))) 6).1, ()))).1, (v.1, ())))).1, ((v100 ((v99 (c.2.2.2.2.2.1, (c.2.2.2.1, (c.2.2.2.2.1, (v.2.1, ()))))).1, ((LQ.getExit (L49x0x0x0x0 ((), ((), ((), (v.1, (c.2.2.2.1, (c.2.2.2.2.1, (v.2.1, ((v99 (c.2.2.2.2.2.1, (c.2.2.2.1, (c.2.2.2.2.1, (v.2.1, ()))))).1, (c.2.2.2.2.2.1, (c.2.2.2.2.2.2.1, (v.2.2.1, ()))))))))))) ((⟨0, fun i => ((0 : Int), ())⟩ : Sl _), ((⟨0, fun i => ((0 : Int), ())⟩ : Sl _), ((⟨0, fun i => ((0 : Int), ())⟩ : Sl _), ((⟨0, fun i => ((0 : Int), ())⟩ : Sl _), ((0 : Int), ())))))) 6).2.1, ()))).1, (false, ())))) then bif (p100 ((v99 (c.2.2.2.2.2.1, (c.2.2.2.1, (c.2.2.2.2.1, (v.2.1, ()))))).1, ((LQ.getExit (L49x0x0x0x0 ((), ((), ((), (v.1, (c.2.2.2.1, (c.2.2.2.2.1, (v.2.1, ((v99 (c.2.2.2.2.2.1, (c.2.2.2.1, (c.2.2.2.2.1, (v.2.1, ()))))).1, (c.2.2.2.2.2.1, (c.2.2.2.2.2.2.1, (v.2.2.1, ()))))))))))) ((⟨0, fun i => ((0 : Int), ())⟩ : Sl _), ((⟨0, fun i => ((0 : Int), ())⟩ : Sl _), ((⟨0, fun i => ((0 : Int), ())⟩ : Sl _), ((⟨0, fun i => ((0 : Int), ())⟩ : Sl _), ((0 : Int), ())))))) 6).2.2.1, ()))) then bif (p83 ((v.2.2.1.2.2.1, (v.2.2.1.2.2.2.1, ())), ((v100 ((v99 (c.2.2.2.2.2.1, (c.2.2.2.1, (c.2.2.2.2.1, (v.2.1, ()))))).1, ((LQ.getExit (L49x0x0x0x0 ((), ((), ((), (v.1, (c.2.2.2.1, (c.2.2.2.2.1, (v.2.1, ((v99 (c.2.2.2.2.2.1, (c.2.2.2.1, (c.2.2.2.2.1, (v.2.1, ()))))).1, (c.2.2.2.2.2.1, (c.2.2.2.2.2.2.1, (v.2.2.1, ()))))))))))) ((⟨0, fun i => ((0 : Int), ())⟩ : Sl _), ((⟨0, fun i => ((0 : Int), ())⟩ : Sl _), ((⟨0, fun i => ((0 : Int), ())⟩ : Sl _), ((⟨0, fun i => ((0 : Int), ())⟩ : Sl _), ((0 : Int), ())))))) 6).2.2.1, ()))).1, (v.1, ())))) then bif (p100 ((v99 (c.2.2.2.2.2.1, (c.2.2.2.1, (c.2.2.2.2.1, (v.2.1, ()))))).1, (LQ.getExit (L49x0x0x0x0 ((), ((), ((), (v.1, (c.2.2.2.1, (c.2.2.2.2.1, (v.2.1, ((v99 (c.2.2.2.2.2.1, (c.2.2.2.1, (c.2.2.2.2.1, (v.2.1, ()))))).1, (c.2.2.2.2.2.1, (c.2.2.2.2.2.2.1, (v.2.2.1, ()))))))))))) ((⟨0, fun i => ((0 : Int), ())⟩ : Sl _), ((⟨0, fun i => ((0 : Int), ())⟩ : Sl _), ((⟨0, fun i => ((0 : Int), ())⟩ : Sl _), ((⟨0, fun i => ((0 : Int), ())⟩ : Sl _), ((0 : Int), ())))))) 6).2.2.2)) then bif (p83 ((v83 ((v.2.2.1.2.2.1, (v.2.2.1.2.2.2.1, ())), ((v100 ((v99 (c.2.2.2.2.2.1, (c.2.2.2.1, (c.2.2.2.2.1, (v.2.1, ()))))).1, ((LQ.getExit (L49x0x0x0x0 ((), ((), ((), (v.1, (c.2.2.2.1, (c.2.2.2.2.1, (v.2.1, ((v99 (c.2.2.2.2.2.1, (c.2.2.2.1, (c.2.2.2.2.1, (v.2.1, ()))))).1, (c.2.2.2.2.2.1, (c.2.2.2.2.2.2.1, (v.2.2.1, ()))))))))))) ((⟨0, fun i => ((0 : Int), ())⟩ : Sl _), ((⟨0, fun i => ((0 : Int), ())⟩ : Sl _), ((⟨0, fun i => ((0 : Int), ())⟩ : Sl _), ((⟨0, fun i => ((0 : Int), ())⟩ : Sl _), ((0 : Int), ())))))) 6).2.2.1, ()))).1, (v.1, ())))).1, ((v100 ((v99 (c.2.2.2.2.2.1, (c.2.2.2.1, (c.2.2.2.2.1, (v.2.1, ()))))).1, (LQ.getExit (L49x0x0x0x0 ((), ((), ((), (v.1, (c.2.2.2.1, (c.2.2.2.2.1, (v.2.1, ((v99 (c.2.2.2.2.2.1, (c.2.2.2.1, (c.2.2.2.2.1, (v.2.1, ()))))).1, (c.2.2.2.2.2.1, (c.2.2.2.2.2.2.1, (v.2.2.1, ()))))))))))) ((⟨0, fun i => ((0 : Int), ())⟩ : Sl _), ((⟨0, fun i => ((0 : Int), ())⟩ : Sl _), ((⟨0, fun i => ((0 : Int), ())⟩ : Sl _), ((⟨0, fun i => ((0 : Int), ())⟩ : Sl _), ((0 : Int), ())))))) 6).2.2.2)).1, (false, ())))) then bif (p101 (v99 (c.2.2.2.2.2.1, (c.2.2.2.1, (c.2.2.2.2.1, (v.2.1, ())))))) then bif (p83 (v.2.2.1.2.2.2.2, ((v101 (v99 (c.2.2.2.2.2.1, (c.2.2.2.1, (c.2.2.2.2.1, (v.2.1, ())))))).1, (v.1, ())))) then l (.next (false, ((W (v.2.1 + (1 : Int))), (((v83 ((v83 ((v.2.2.1.1, (v.2.2.1.2.1, ())), ((v100 ((v99 (c.2.2.2.2.2.1, (c.2.2.2.1, (c.2.2.2.2.1, (v.2.1, ()))))).1, ((LQ.getExit (L49x0x0x0x0 ((), ((), ((), (v.1, (c.2.2.2.1, (c.2.2.2.2.1, (v.2.1, ((v99 (c.2.2.2.2.2.1, (c.2.2.2.1, (c.2.2.2.2.1, (v.2.1, ()))))).1, (c.2.2.2.2.2.1, (c.2.2.2.2.2.2.1, (v.2.2.1, ()))))))))))) ((⟨0, fun i => ((0 : Int), ())⟩ : Sl _), ((⟨0, fun i => ((0 : Int), ())⟩ : Sl _), ((⟨0, fun i => ((0 : Int), ())⟩ : Sl _), ((⟨0, fun i => ((0 : Int), ())⟩ : Sl _), ((0 : Int), ())))))) 6).1, ()))).1, (v.1, ())))).1, ((v100 ((v99 (c.2.2.2.2.2.1, (c.2.2.2.1, (c.2.2.2.2.1, (v.2.1, ()))))).1, ((LQ.getExit (L49x0x0x0x0 ((), ((), ((), (v.1, (c.2.2.2.1, (c.2.2.2.2.1, (v.2.1, ((v99 (c.2.2.2.2.2.1, (c.2.2.2.1, (c.2.2.2.2.1, (v.2.1, ()))))).1, (c.2.2.2.2.2.1, (c.2.2.2.2.2.2.1, (v.2.2.1, ()))))))))))) ((⟨0, fun i => ((0 : Int), ())⟩ : Sl _), ((⟨0, fun i => ((0 : Int), ())⟩ : Sl _), ((⟨0, fun i => ((0 : Int), ())⟩ : Sl _), ((⟨0, fun i => ((0 : Int), ())⟩ : Sl _), ((0 : Int), ())))))) 6).2.1, ()))).1, (false, ())))).1.1, ((v83 ((v83 ((v.2.2.1.1, (v.2.2.1.2.1, ())), ((v100 ((v99 (c.2.2.2.2.2.1, (c.2.2.2.1, (c.2.2.2.2.1, (v.2.1, ()))))).1, ((LQ.getExit (L49x0x0x0x0 ((), ((), ((), (v.1, (c.2.2.2.1, (c.2.2.2.2.1, (v.2.1, ((v99 (c.2.2.2.2.2.1, (c.2.2.2.1, (c.2.2.2.2.1, (v.2.1, ()))))).1, (c.2.2.2.2.2.1, (c.2.2.2.2.2.2.1, (v.2.2.1, ()))))))))))) ((⟨0, fun i => ((0 : Int), ())⟩ : Sl _), ((⟨0, fun i => ((0 : Int), ())⟩ : Sl _), ((⟨0, fun i => ((0 : Int), ())⟩ : Sl _), ((⟨0, fun i => ((0 : Int), ())⟩ : Sl _), ((0 : Int), ())))))) 6).1, ()))).1, (v.1, ())))).1, ((v100 ((v99 (c.2.2.2.2.2.1, (c.2.2.2.1, (c.2.2.2.2.1, (v.2.1, ()))))).1, ((LQ.getExit (L49x0x0x0x0 ((), ((), ((), (v.1, (c.2.2.2.1, (c.2.2.2.2.1, (v.2.1, ((v99 (c.2.2.2.2.2.1, (c.2.2.2.1, (c.2.2.2.2.1, (v.2.1, ()))))).1, (c.2.2.2.2.2.1, (c.2.2.2.2.2.2.1, (v.2.2.1, ()))))))))))) ((⟨0, fun i => ((0 : Int), ())⟩ : Sl _), ((⟨0, fun i => ((0 : Int), ())⟩ : Sl _), ((⟨0, fun i => ((0 : Int), ())⟩ : Sl _), ((⟨0, fun i => ((0 : Int), ())⟩ : Sl _), ((0 : Int), ())))))) 6).2.1, ()))).1, (false, ())))).1.2.1, ((v83 ((v83 ((v.2.2.1.2.2.1, (v.2.2.1.2.2.2.1, ())), ((v100 ((v99 (c.2.2.2.2.2.1, (c.2.2.2.1, (c.2.2.2.2.1, (v.2.1, ()))))).1, ((LQ.getExit (L49x0x0x0x0 ((), ((), ((), (v.1, (c.2.2.2.1, (c.2.2.2.2.1, (v.2.1, ((v99 (c.2.2.2.2.2.1, (c.2.2.2.1, (c.2.2.2.2.1, (v.2.1, ()))))).1, (c.2.2.2.2.2.1, (c.2.2.2.2.2.2.1, (v.2.2.1, ()))))))))))) ((⟨0, fun i => ((0 : Int), ())⟩ : Sl _), ((⟨0, fun i => ((0 : Int), ())⟩ : Sl _), ((⟨0, fun i => ((0 : Int), ())⟩ : Sl _), ((⟨0, fun i => ((0 : Int), ())⟩ : Sl _), ((0 : Int), ())))))) 6).2.2.1, ()))).1, (v.1, ())))).1, ((v100 ((v99 (c.2.2.2.2.2.1, (c.2.2.2.1, (c.2.2.2.2.1, (v.2.1, ()))))).1, (LQ.getExit (L49x0x0x0x0 ((), ((), ((), (v.1, (c.2.2.2.1, (c.2.2.2.2.1, (v.2.1, ((v99 (c.2.2.2.2.2.1, (c.2.2.2.1, (c.2.2.2.2.1, (v.2.1, ()))))).1, (c.2.2.2.2.2.1, (c.2.2.2.2.2.2.1, (v.2.2.1, ()))))))))))) ((⟨0, fun i => ((0 : Int), ())⟩ : Sl _), ((⟨0, fun i => ((0 : Int), ())⟩ : Sl _), ((⟨0, fun i => ((0 : Int), ())⟩ : Sl _), ((⟨0, fun i => ((0 : Int), ())⟩ : Sl _), ((0 : Int), ())))))) 6).2.2.2)).1, (false, ())))).1.1, ((v83 ((v83 ((v.2.2.1.2.2.1, (v.2.2.1.2.2.2.1, ())), ((v100 ((v99 (c.2.2.2.2.2.1, (c.2.2.2.1, (c.2.2.2.2.1, (v.2.1, ()))))).1, ((LQ.getExit (L49x0x0x0x0 ((), ((), ((), (v.1, (c.2.2.2.1, (c.2.2.2.2.1, (v.2.1, ((v99 (c.2.2.2.2.2.1, (c.2.2.2.1, (c.2.2.2.2.1, (v.2.1, ()))))).1, (c.2.2.2.2.2.1, (c.2.2.2.2.2.2.1, (v.2.2.1, ()))))))))))) ((⟨0, fun i => ((0 : Int), ())⟩ : Sl _), ((⟨0, fun i => ((0 : Int), ())⟩ : Sl _), ((⟨0, fun i => ((0 : Int), ())⟩ : Sl _), ((⟨0, fun i => ((0 : Int), ())⟩ : Sl _), ((0 : Int), ())))))) 6).2.2.1, ()))).1, (v.1, ())))).1, ((v100 ((v99 (c.2.2.2.2.2.1, (c.2.2.2.1, (c.2.2.2.2.1, (v.2.1, ()))))).1, (LQ.getExit (L49x0x0x0x0 ((), ((), ((), (v.1, (c.2.2.2.1, (c.2.2.2.2.1, (v.2.1, ((v99 (c.2.2.2.2.2.1, (c.2.2.2.1, (c.2.2.2.2.1, (v.2.1, ()))))).1, (c.2.2.2.2.2.1, (c.2.2.2.2.2.2.1, (v.2.2.1, ()))))))))))) ((⟨0, fun i => ((0 : Int), ())⟩ : Sl _), ((⟨0, fun i => ((0 : Int), ())⟩ : Sl _), ((⟨0, fun i => ((0 : Int), ())⟩ : Sl _), ((⟨0, fun i => ((0 : Int), ())⟩ : Sl _), ((0 : Int), ())))))) 6).2.2.2)).1, (false, ())))).1.2.1, (v83 (v.2.2.1.2.2.2.2, ((v101 (v99 (c.2.2.2.2.2.1, (c.2.2.2.1, (c.2.2.2.2.1, (v.2.1, ())))))).1, (v.1, ())))).1)))), ())))) else l .bad else l .bad else l .bad else l .bad else l .bad else l .bad else l .bad else l .bad else l .bad else l .bad else l .bad else l .bad else l (.out (.exit 4 (v.1, (v.2.2.1, ()))))
theorem z49x0x0x0 (c : (patsTy cs49x0x0x0).den) (v : (patsTy vs49x0x0x0).den) : roundQ Try.prog E0 G49 0 118 [] ps49x0x0x0 wy49x0x0x0 b49x0x0x0 [.known (loopF 0 [] ps49x0x0x0x0 fun x => spreadV wy49x0x0x0x0 je49x0x0x0x0 jr49x0x0x0x0 false (sp49x0x0x0x0 x).1 (L49x0x0x0x0 (sp49x0x0x0x0 x).1 (sp49x0x0x0x0 x).2) wy49x0x0x0x0.exits)] (j49x0x0x0 c v) = Z49x0x0x0 (fun r => .leaf (r.lift j49x0x0x0 je49x0x0x0 jr49x0x0x0 c)) .any c v := by kernel_rfl
def S49x0x0x0 (c : (patsTy cs49x0x0x0).den) (v : (patsTy vs49x0x0x0).den) : RQ vs49x0x0x0 wv49x0x0x0 := Z49x0x0x0 (fun r => r) (fun _ _ => .bad) c v
theorem s49x0x0x0 (c : (patsTy cs49x0x0x0).den) (v : (patsTy vs49x0x0x0).den) : detQ (roundQ Try.prog E0 G49 0 118 [] ps49x0x0x0 wy49x0x0x0 b49x0x0x0 [.known (loopF 0 [] ps49x0x0x0x0 fun x => spreadV wy49x0x0x0x0 je49x0x0x0x0 jr49x0x0x0x0 false (sp49x0x0x0x0 x).1 (L49x0x0x0x0 (sp49x0x0x0x0 x).1 (sp49x0x0x0x0 x).2) wy49x0x0x0x0.exits)] (j49x0x0x0 c v)) = (S49x0x0x0 c v).lift j49x0x0x0 je49x0x0x0 jr49x0x0x0 c := by rw [z49x0x0x0]; unfold S49x0x0x0 Z49x0x0x0; simp only [detQ_cond, lift_cond, lift_bad, detQ]
def L49x0x0x0 (c : (patsTy cs49x0x0x0).den) (v : (patsTy vs49x0x0x0).den) : LQ wv49x0x0x0 := iterQ (S49x0x0x0 c) big v
theorem lo49x0x0 : loopsOf (b49x0x0) = [.loop b49x0x0x0] := by kernel_rfl
abbrev cs49x0x0 : List Pat := [.slot 1 (.ptr 1), .slot 2 (.ptr 2), .slot 3 (.ptr 121), .slot 5 (.pc tI), .box 1 [.pc (.sl T9), .pc tI, .pc tI, .pc tI, .pc tI, .pc tI, .pc tI, .pc tI, .pc tI, .pc tI, .pc tI, .pc tI, .pc tI], .box 2 [.pc tI, .pc tI, .pc tI, .pc tI, .pc tI, .pc tI]]
abbrev vs49x0x0 : List Pat := [.slot 4 (.pc .bool), .slot 6 (.pc tI), .box 121 [.pc tI, .pc tI, .pc tI, .pc tI, .pc tI, .pc tI]]
abbrev ps49x0x0 : List Pat := [.slot 1 (.ptr 1), .slot 2 (.ptr 2), .slot 3 (.ptr 121), .slot 5 (.pc tI), .box 1 [.pc (.sl T9), .pc tI, .pc tI, .pc tI, .pc tI, .pc tI, .pc tI, .pc tI, .pc tI, .pc tI, .pc tI, .pc tI, .pc tI], .box 2 [.pc tI, .pc tI, .pc tI, .pc tI, .pc tI, .pc tI], .slot 4 (.pc .bool), .slot 6 (.pc tI), .box 121 [.pc tI, .pc tI, .pc tI, .pc tI, .pc tI, .pc tI]]
def j49x0x0 : (patsTy cs49x0x0).den → (patsTy vs49x0x0).den → (patsTy ps49x0x0).den := fun c v => (c.1, (c.2.1, (c.2.2.1, (c.2.2.2.1, (c.2.2.2.2.1, (c.2.2.2.2.2.1, v))))))
def sp49x0x0 : (patsTy ps49x0x0).den → (patsTy cs49x0x0).den × (patsTy vs49x0x0).den := fun x => ((x.1, (x.2.1, (x.2.2.1, (x.2.2.2.1, (x.2.2.2.2.1, (x.2.2.2.2.2.1, ())))))), x.2.2.2.2.2.2)
abbrev wy49x0x0 : Ways := ⟨[(2, [.slot 1 (.ptr 1), .slot 2 (.ptr 2), .slot 3 (.ptr 121), .slot 5 (.pc tI), .box 1 [.pc (.sl T9), .pc tI, .pc tI, .pc tI, .pc tI, .pc tI, .pc tI, .pc tI, .pc tI, .pc tI, .pc tI, .pc tI, .pc tI], .box 2 [.pc tI, .pc tI, .pc tI, .pc tI, .pc tI, .pc tI], .slot 4 (.pc .bool), .box 121 [.pc tI, .pc tI, .pc tI, .pc tI, .pc tI, .pc tI]])], [], []⟩
abbrev wv49x0x0 : Ways := ⟨[(2, [.slot 4 (.pc .bool), .box 121 [.pc tI, .pc tI, .pc tI, .pc tI, .pc tI, .pc tI]])], [], []⟩
def je49x0x0 : (id : Nat) → (patsTy cs49x0x0).den → (patsTy (wayP wv49x0x0 id)).den → (patsTy (wayP wy49x0x0 id)).den := fun id => match id with | 2 => fun c y => (c.1, (c.2.1, (c.2.2.1, (c.2.2.2.1, (c.2.2.2.2.1, (c.2.2.2.2.2.1, y)))))) | id => fun _ _ => (patsTy (wayP wy49x0x0 id)).dflt
def jr49x0x0 : (patsTy cs49x0x0).den → (patsTy (wv49x0x0).ret).den → (patsTy (wy49x0x0).ret).den := fun c y => y
def Z49x0x0 {α : Type} (l : RQ vs49x0x0 wv49x0x0 → α) (an : α → α → α) (c : (patsTy cs49x0x0).den) (v : (patsTy vs49x0x0).den) : α := bif (decide (v.2.1 ≤ c.2.2.2.2.1.2.2.2.2.1)) then bif (LQ.isExit (L49x0x0x0 ((), ((), ((), (c.2.2.2.1, (v.2.1, (c.2.2.2.2.1, (c.2.2.2.2.2.1, ()))))))) (v.1, (c.2.2.2.2.1.2.2.2.2.2.1, (v.2.2.1, ())))) 4) then l (.next ((LQ.getExit (L49x0x0x0 ((), ((), ((), (c.2.2.2.1, (v.2.1, (c.2.2.2.2.1, (c.2.2.2.2.2.1, ()))))))) (v.1, (c.2.2.2.2.1.2.2.2.2.2.1, (v.2.2.1, ())))) 4).1, ((W (v.2.1 + (1 : Int))), ((LQ.getExit (L49x0x0x0 ((), ((), ((), (c.2.2.2.1, (v.2.1, (c.2.2.2.2.1, (c.2.2.2.2.2.1, ()))))))) (v.1, (c.2.2.2.2.1.2.2.2.2.2.1, (v.2.2.1, ())))) 4).2.1, ())))) else l .bad else l (.out (.exit 2 (v.1, (v.2.2.1, ()))))
theorem z49x0x0 (c : (patsTy cs49x0x0).den) (v : (patsTy vs49x0x0).den) : roundQ Try.prog E0 G49 0 118 [] ps49x0x0 wy49x0x0 b49x0x0 [.known (loopF 0 [] ps49x0x0x0 fun x => spreadV wy49x0x0x0 je49x0x0x0 jr49x0x0x0 false (sp49x0x0x0 x).1 (L49x0x0x0 (sp49x0x0x0 x).1 (sp49x0x0x0 x).2) wy49x0x0x0.exits)] (j49x0x0 c v) = Z49x0x0 (fun r => .leaf (r.lift j49x0x0 je49x0x0 jr49x0x0 c)) .any c v := by kernel_rfl
def S49x0x0 (c : (patsTy cs49x0x0).den) (v : (patsTy vs49x0x0).den) : RQ vs49x0x0 wv49x0x0 := Z49x0x0 (fun r => r) (fun _ _ => .bad) c v
theorem s49x0x0 (c : (patsTy cs49x0x0).den) (v : (patsTy vs49x0x0).den) : detQ (roundQ Try.prog E0 G49 0 118 [] ps49x0x0 wy49x0x0 b49x0x0 [.known (loopF 0 [] ps49x0x0x0 fun x => spreadV wy49x0x0x0 je49x0x0x0 jr49x0x0x0 false (sp49x0x0x0 x).1 (L49x0x0x0 (sp49x0x0x0 x).1 (sp49x0x0x0 x).2) wy49x0x0x0.exits)] (j49x0x0 c v)) = (S49x0x0 c v).lift j49x0x0 je49x0x0 jr49x0x0 c := by rw [z49x0x0]; unfold S49x0x0 Z49x0x0; simp only [detQ_cond, lift_cond, lift_bad, detQ]
def L49x0x0 (c : (patsTy cs49x0x0).den) (v : (patsTy vs49x0x0).den) : LQ wv49x0x0 := iterQ (S49x0x0 c) big v
theorem lo49x0 : loopsOf (b49x0) = [.loop b49x0x0] := by kernel_rfl
abbrev cs49x0 : List Pat := [.slot 1 (.ptr 1), .slot 2 (.ptr 2), .slot 3 (.ptr 121), .box 1 [.pc (.sl T9), .pc tI, .pc tI, .pc tI, .pc tI, .pc tI, .pc tI, .pc tI, .pc tI, .pc tI, .pc tI, .pc tI, .pc tI], .box 2 [.pc tI, .pc tI, .pc tI, .pc tI, .pc tI, .pc tI]]
abbrev vs49x0 : List Pat := [.slot 4 (.pc .bool), .slot 5 (.pc tI), .box 121 [.pc tI, .pc tI, .pc tI, .pc tI, .pc tI, .pc tI]]
abbrev ps49x0 : List Pat := [.slot 1 (.ptr 1), .slot 2 (.ptr 2), .slot 3 (.ptr 121), .box 1 [.pc (.sl T9), .pc tI, .pc tI, .pc tI, .pc tI, .pc tI, .pc tI, .pc tI, .pc tI, .pc tI, .pc tI, .pc tI, .pc tI], .box 2 [.pc tI, .pc tI, .pc tI, .pc tI, .pc tI, .pc tI], .slot 4 (.pc .bool), .slot 5 (.pc tI), .box 121 [.pc tI, .pc tI, .pc tI, .pc tI, .pc tI, .pc tI]]
def j49x0 : (patsTy cs49x0).den → (patsTy vs49x0).den → (patsTy ps49x0).den := fun c v => (c.1, (c.2.1, (c.2.2.1, (c.2.2.2.1, (c.2.2.2.2.1, v)))))
def sp49x0 : (patsTy ps49x0).den → (patsTy cs49x0).den × (patsTy vs49x0).den := fun x => ((x.1, (x.2.1, (x.2.2.1, (x.2.2.2.1, (x.2.2.2.2.1, ()))))), x.2.2.2.2.2)
abbrev wy49x0 : Ways := ⟨[(0, [.slot 2 (.ptr 2), .slot 3 (.ptr 121), .box 2 [.pc tI, .pc tI, .pc tI, .pc tI, .pc tI, .pc tI], .box 121 [.pc tI, .pc tI, .pc tI, .pc tI, .pc tI, .pc tI]])], [], []⟩
abbrev wv49x0 : Ways := ⟨[(0, [.box 121 [.pc tI, .pc tI, .pc tI, .pc tI, .pc tI, .pc tI]])], [], []⟩
def je49x0 : (id : Nat) → (patsTy cs49x0).den → (patsTy (wayP wv49x0 id)).den → (patsTy (wayP wy49x0 id)).den := fun id => match id with | 0 => fun c y => (c.2.1, (c.2.2.1, (c.2.2.2.2.1, y))) | id => fun _ _ => (patsTy (wayP wy49x0 id)).dflt
def jr49x0 : (patsTy cs49x0).den → (patsTy (wv49x0).ret).den → (patsTy (wy49x0).ret).den := fun c y => y
def Z49x0 {α : Type} (l : RQ vs49x0 wv49x0 → α) (an : α → α → α) (c : (patsTy cs49x0).den) (v : (patsTy vs49x0).den) : α := bif (decide (v.2.1 ≤ c.2.2.2.1.2.2.1)) then bif (LQ.isExit (L49x0x0 ((), ((), ((), (v.2.1, (c.2.2.2.1, (c.2.2.2.2.1, ())))))) (v.1, (c.2.2.2.1.2.2.2.1, (v.2.2.1, ())))) 2) then l (.next ((LQ.getExit (L49x0x0 ((), ((), ((), (v.2.1, (c.2.2.2.1, (c.2.2.2.2.1, ())))))) (v.1, (c.2.2.2.1.2.2.2.1, (v.2.2.1, ())))) 2).1, ((W (v.2.1 + (1 : Int))), ((LQ.getExit (L49x0x0 ((), ((), ((), (v.2.1, (c.2.2.2.1, (c.2.2.2.2.1, ())))))) (v.1, (c.2.2.2.1.2.2.2.1, (v.2.2.1, ())))) 2).2.1, ())))) else l .bad else l (.out (.exit 0 (v.2.2.1, ())))
theorem z49x0 (c : (patsTy cs49x0).den) (v : (patsTy vs49x0).den) : roundQ Try.prog E0 G49 0 118 [] ps49x0 wy49x0 b49x0 [.known (loopF 0 [] ps49x0x0 fun x => spreadV wy49x0x0 je49x0x0 jr49x0x0 false (sp49x0x0 x).1 (L49x0x0 (sp49x0x0 x).1 (sp49x0x0 x).2) wy49x0x0.exits)] (j49x0 c v) = Z49x0 (fun r => .leaf (r.lift j49x0 je49x0 jr49x0 c)) .any c v := by kernel_rfl
def S49x0 (c : (patsTy cs49x0).den) (v : (patsTy vs49x0).den) : RQ vs49x0 wv49x0 := Z49x0 (fun r => r) (fun _ _ => .bad) c v
theorem s49x0 (c : (patsTy cs49x0).den) (v : (patsTy vs49x0).den) : detQ (roundQ Try.prog E0 G49 0 118 [] ps49x0 wy49x0 b49x0 [.known (loopF 0 [] ps49x0x0 fun x => spreadV wy49x0x0 je49x0x0 jr49x0x0 false (sp49x0x0 x).1 (L49x0x0 (sp49x0x0 x).1 (sp49x0x0 x).2) wy49x0x0.exits)] (j49x0 c v)) = (S49x0 c v).lift j49x0 je49x0 jr49x0 c := by rw [z49x0]; unfold S49x0 Z49x0; simp only [detQ_cond, lift_cond, lift_bad, detQ]
def L49x0 (c : (patsTy cs49x0).den) (v : (patsTy vs49x0).den) : LQ wv49x0 := iterQ (S49x0 c) big v
theorem lo49 : loopsOf (c49) = [.loop b49x0] := by kernel_rfl
noncomputable def l49 : List Loop := [.known (loopF 0 [] ps49x0 fun x => spreadV wy49x0 je49x0 jr49x0 false (sp49x0 x).1 (L49x0 (sp49x0 x).1 (sp49x0 x).2) wy49x0.exits)]
def Q49 {α : Type} (l : Option (r49).den → α) (an : α → α → α) (x : (a49).den) : α := bif (LQ.isExit (L49x0 ((), ((), ((), (x.1, (((0 : Int), ((0 : Int), ((0 : Int), ((0 : Int), ((0 : Int), ((0 : Int), ())))))), ()))))) (true, (x.1.2.1, (((0 : Int), ((0 : Int), ((0 : Int), ((0 : Int), ((0 : Int), ((0 : Int), ())))))), ())))) 0) then l (some ((LQ.getExit (L49x0 ((), ((), ((), (x.1, (((0 : Int), ((0 : Int), ((0 : Int), ((0 : Int), ((0 : Int), ((0 : Int), ())))))), ()))))) (true, (x.1.2.1, (((0 : Int), ((0 : Int), ((0 : Int), ((0 : Int), ((0 : Int), ((0 : Int), ())))))), ())))) 0).1, ())) else l none
theorem q49 (x : (a49).den) : runFn Try.prog E0 G49 Try.f49 l49 a49 r49 x = Q49 .leaf .any x := by kernel_rfl
def M49 (x : (a49).den) : Option (r49).den := Q49 (fun r => r) (fun _ _ => none) x
theorem m49 (x : (a49).den) : (runFn Try.prog E0 G49 Try.f49 l49 a49 r49 x).sure = M49 x := by rw [q49]; unfold M49 Q49; simp only [sure_cond, Tree.sure]
def p49 (x : (a49).den) : Bool := (M49 x).isSome
def v49 (x : (a49).den) : (r49).den := (M49 x).getD (r49).dflt
def k49 : Con := ⟨a49, r49, p49, v49⟩
theorem h49 : Holds Try.prog 49 k49 := holds_of_M' (E := E0) follows_ok g49 eqTy_sound keyTy_sound at49 bd49 (by kernel_rfl) m49 fun G' hlo hF hE => LsOK_kn (by rw [lo49]; exact .cons (loopV_ok hE hF hlo (LsOK_kn (by rw [lo49x0]; exact .cons (loopV_ok hE hF hlo (LsOK_kn (by rw [lo49x0x0]; exact .cons (loopV_ok hE hF hlo (LsOK_kn (by rw [lo49x0x0x0]; exact .cons (loopV_ok hE hF hlo (LsOK_kn (by rw [lo49x0x0x0x0]; exact .nil)) (by kernel_rfl) (by kernel_rfl) sp49x0x0x0x0 (fun _ => rfl) (fun _ _ => rfl) (s49x0x0x0x0) big) (.nil))) (by kernel_rfl) (by kernel_rfl) sp49x0x0x0 (fun _ => rfl) (fun _ _ => rfl) (s49x0x0x0) big) (.nil))) (by kernel_rfl) (by kernel_rfl) sp49x0x0 (fun _ => rfl) (fun _ _ => rfl) (s49x0x0) big) (.nil))) (by kernel_rfl) (by kernel_rfl) sp49x0 (fun _ => rfl) (fun _ _ => rfl) (s49x0) big) (.nil))
/-- isobar/isobarref07.search -/
noncomputable def c85 : Code := Try.f85.body.getD .skip
theorem at85 : Try.prog.funcs[85]? = some Try.f85 := by kernel_rfl
theorem bd85 : Try.f85.body = some c85 := by kernel_rfl
theorem cl85 : Callable Try.prog 85 := callable_of at85 (by kernel_rfl) (by kernel_rfl)
abbrev T119 : Ty := (.cons T42 T53)
abbrev a85 : Ty := T119
abbrev r85 : Ty := T75
noncomputable def G85 : Ctx := Ctx.of [(75, .pure k75), (99, .pure k99), (101, .pure k101), (111, .pure k111)]
theorem g85 : Sound Try.prog (G85) := sound_of (List.forall_mem_cons.2 ⟨⟨cl75, h75⟩, List.forall_mem_cons.2 ⟨⟨cl99, h99⟩, List.forall_mem_cons.2 ⟨⟨cl101, h101⟩, List.forall_mem_cons.2 ⟨⟨cl111, h111⟩, fun _ h => by cases h⟩⟩⟩⟩)
noncomputable def b85x0 : Code := loopBody ((loopsOf (c85))[0]?)
noncomputable def b85x0x0 : Code := loopBody ((loopsOf (b85x0))[0]?)
noncomputable def b85x0x0x0 : Code := loopBody ((loopsOf (b85x0x0))[0]?)
theorem lo85x0x0x0 : loopsOf (b85x0x0x0) = [] := by kernel_rfl
abbrev cs85x0x0x0 : List Pat := [.slot 1 (.pc (.sl T1)), .slot 2 (.pc (.sl T1)), .slot 3 (.ptr 3), .slot 6 (.ptr 6), .slot 8 (.pc tI), .slot 9 (.pc tI), .box 3 [.pc (.sl T9), .pc tI, .pc tI, .pc tI, .pc tI, .pc tI, .pc tI, .pc tI, .pc tI, .pc tI, .pc tI, .pc tI, .pc tI], .box 6 [.pc tI, .pc tI, .pc tI, .own 1007003 3 T0, .own 1007004 3 T0]]
abbrev vs85x0x0x0 : List Pat := [.slot 10 (.pc tI)]
abbrev ps85x0x0x0 : List Pat := [.slot 1 (.pc (.sl T1)), .slot 2 (.pc (.sl T1)), .slot 3 (.ptr 3), .slot 6 (.ptr 6), .slot 8 (.pc tI), .slot 9 (.pc tI), .box 3 [.pc (.sl T9), .pc tI, .pc tI, .pc tI, .pc tI, .pc tI, .pc tI, .pc tI, .pc tI, .pc tI, .pc tI, .pc tI, .pc tI], .box 6 [.pc tI, .pc tI, .pc tI, .own 1007003 3 T0, .own 1007004 3 T0], .slot 10 (.pc tI)]
def j85x0x0x0 : (patsTy cs85x0x0x0).den → (patsTy vs85x0x0x0).den → (patsTy ps85x0x0x0).den := fun c v => (c.1, (c.2.1, (c.2.2.1, (c.2.2.2.1, (c.2.2.2.2.1, (c.2.2.2.2.2.1, (c.2.2.2.2.2.2.1, (c.2.2.2.2.2.2.2.1, v))))))))
def sp85x0x0x0 : (patsTy ps85x0x0x0).den → (patsTy cs85x0x0x0).den × (patsTy vs85x0x0x0).den := fun x => ((x.1, (x.2.1, (x.2.2.1, (x.2.2.2.1, (x.2.2.2.2.1, (x.2.2.2.2.2.1, (x.2.2.2.2.2.2.1, (x.2.2.2.2.2.2.2.1, ())))))))), x.2.2.2.2.2.2.2.2)
abbrev wy85x0x0x0 : Ways := ⟨[(4, [.slot 1 (.pc (.sl T1)), .slot 2 (.pc (.sl T1)), .slot 3 (.ptr 3), .slot 6 (.ptr 6), .slot 8 (.pc tI), .slot 9 (.pc tI), .box 3 [.pc (.sl T9), .pc tI, .pc tI, .pc tI, .pc tI, .pc tI, .pc tI, .pc tI, .pc tI, .pc tI, .pc tI, .pc tI, .pc tI], .box 6 [.pc tI, .pc tI, .pc tI, .own 1007003 3 T0, .own 1007004 3 T0]])], [.slot 6 (.ptr 6), .slot 7 (.pc .bool), .box 6 [.pc tI, .pc tI, .pc tI, .pc (.sl T0), .pc (.sl T0)]], []⟩
abbrev wv85x0x0x0 : Ways := ⟨[(4, [])], [.slot 7 (.pc .bool), .box 6 [.pc tI, .pc tI, .pc tI, .pc (.sl T0), .pc (.sl T0)]], []⟩
def je85x0x0x0 : (id : Nat) → (patsTy cs85x0x0x0).den → (patsTy (wayP wv85x0x0x0 id)).den → (patsTy (wayP wy85x0x0x0 id)).den := fun id => match id with | 4 => fun c y => (c.1, (c.2.1, (c.2.2.1, (c.2.2.2.1, (c.2.2.2.2.1, (c.2.2.2.2.2.1, (c.2.2.2.2.2.2.1, (c.2.2.2.2.2.2.2.1, y)))))))) | id => fun _ _ => (patsTy (wayP wy85x0x0x0 id)).dflt
def jr85x0x0x0 : (patsTy cs85x0x0x0).den → (patsTy (wv85x0x0x0).ret).den → (patsTy (wy85x0x0x0).ret).den := fun c y => (c.2.2.2.1, y)
def Z85x0x0x0 {α : Type} (l : RQ vs85x0x0x0 wv85x0x0x0 → α) (an : α → α → α) (c : (patsTy cs85x0x0x0).den) (v : (patsTy vs85x0x0x0).den) : α := bif (decide (v.1 ≤ c.2.2.2.2.2.2.1.2.2.2.2.2.2.1)) then bif (p99 (c.2.2.2.2.2.2.1, (c.2.2.2.2.1, (c.2.2.2.2.2.1, v)))) then bif (p101 (v99 (c.2.2.2.2.2.2.1, (c.2.2.2.2.1, (c.2.2.2.2.2.1, v))))) then bif (p75 ((v101 (v99 (c.2.2.2.2.2.2.1, (c.2.2.2.2.1, (c.2.2.2.2.2.1, v))))).1, c.2.2.2.2.2.2.1.2.2.2.2.2.2.2.2.2.2.2)) then bif (!(v75 ((v101 (v99 (c.2.2.2.2.2.2.1, (c.2.2.2.2.1, (c.2.2.2.2.2.1, v))))).1, c.2.2.2.2.2.2.1.2.2.2.2.2.2.2.2.2.2.2)).1) then l (.next ((W (v.1 + (1 : Int))), ())) else bif (p111 (c.1, ((v99 (c.2.2.2.2.2.2.1, (c.2.2.2.2.1, (c.2.2.2.2.2.1, v)))).1, ((c.2.2.2.2.2.2.1.2.2.2.2.2.2.2.1, (c.2.2.2.2.2.2.1.2.2.2.2.2.2.2.2.1, ())), ((⟨0, fun i => ((0 : Int), ())⟩ : Sl _), ()))))) then bif (p111 (c.2.1, ((v99 (c.2.2.2.2.2.2.1, (c.2.2.2.2.1, (c.2.2.2.2.2.1, v)))).1, ((c.2.2.2.2.2.2.1.2.2.2.2.2.2.2.2.2.1, (c.2.2.2.2.2.2.1.2.2.2.2.2.2.2.2.2.2.1, ())), ((⟨0, fun i => ((0 : Int), ())⟩ : Sl _), ()))))) then bif (v111 (c.1, ((v99 (c.2.2.2.2.2.2.1, (c.2.2.2.2.1, (c.2.2.2.2.2.1, v)))).1, ((c.2.2.2.2.2.2.1.2.2.2.2.2.2.2.1, (c.2.2.2.2.2.2.1.2.2.2.2.2.2.2.2.1, ())), ((⟨0, fun i => ((0 : Int), ())⟩ : Sl _), ()))))).2.1 then bif (v111 (c.2.1, ((v99 (c.2.2.2.2.2.2.1, (c.2.2.2.2.1, (c.2.2.2.2.2.1, v)))).1, ((c.2.2.2.2.2.2.1.2.2.2.2.2.2.2.2.2.1, (c.2.2.2.2.2.2.1.2.2.2.2.2.2.2.2.2.2.1, ())), ((⟨0, fun i => ((0 : Int), ())⟩ : Sl _), ()))))).2.1 then l (.out (.ret (true, ((c.2.2.2.2.1, (c.2.2.2.2.2.1, (v.1, ((v111 (c.1, ((v99 (c.2.2.2.2.2.2.1, (c.2.2.2.2.1, (c.2.2.2.2.2.1, v)))).1, ((c.2.2.2.2.2.2.1.2.2.2.2.2.2.2.1, (c.2.2.2.2.2.2.1.2.2.2.2.2.2.2.2.1, ())), ((⟨0, fun i => ((0 : Int), ())⟩ : Sl _), ()))))).1, ((v111 (c.2.1, ((v99 (c.2.2.2.2.2.2.1, (c.2.2.2.2.1, (c.2.2.2.2.2.1, v)))).1, ((c.2.2.2.2.2.2.1.2.2.2.2.2.2.2.2.2.1, (c.2.2.2.2.2.2.1.2.2.2.2.2.2.2.2.2.2.1, ())), ((⟨0, fun i => ((0 : Int), ())⟩ : Sl _), ()))))).1, ()))))), ())))) else l (.next ((W (v.1 + (1 : Int))), ())) else l (.next ((W (v.1 + (1 : Int))), ())) else l .bad else l .bad else l .bad else l .bad else l .bad else l (.out (.exit 4 ()))
theorem z85x0x0x0 (c : (patsTy cs85x0x0x0).den) (v : (patsTy vs85x0x0x0).den) : roundQ Try.prog E0 G85 0 88 [] ps85x0x0x0 wy85x0x0x0 b85x0x0x0 [] (j85x0x0x0 c v) = Z85x0x0x0 (fun r => .leaf (r.lift j85x0x0x0 je85x0x0x0 jr85x0x0x0 c)) .any c v := by kernel_rfl
def S85x0x0x0 (c : (patsTy cs85x0x0x0).den) (v : (patsTy vs85x0x0x0).den) : RQ vs85x0x0x0 wv85x0x0x0 := Z85x0x0x0 (fun r => r) (fun _ _ => .bad) c v
theorem s85x0x0x0 (c : (patsTy cs85x0x0x0).den) (v : (patsTy vs85x0x0x0).den) : detQ (roundQ Try.prog E0 G85 0 88 [] ps85x0x0x0 wy85x0x0x0 b85x0x0x0 [] (j85x0x0x0 c v)) = (S85x0x0x0 c v).lift j85x0x0x0 je85x0x0x0 jr85x0x0x0 c := by rw [z85x0x0x0]; unfold S85x0x0x0 Z85x0x0x0; simp only [detQ_cond, lift_cond, lift_bad, detQ]
def L85x0x0x0 (c : (patsTy cs85x0x0x0).den) (v : (patsTy vs85x0x0x0).den) : LQ wv85x0x0x0 := iterQ (S85x0x0x0 c) big v
theorem lo85x0x0 : loopsOf (b85x0x0) = [.loop b85x0x0x0] := by kernel_rfl
abbrev cs85x0x0 : List Pat := [.slot 1 (.pc (.sl T1)), .slot 2 (.pc (.sl T1)), .slot 3 (.ptr 3), .slot 6 (.ptr 6), .slot 8 (.pc tI), .box 3 [.pc (.sl T9), .pc tI, .pc tI, .pc tI, .pc tI, .pc tI, .pc tI, .pc tI, .pc tI, .pc tI, .pc tI, .pc tI, .pc tI], .box 6 [.pc tI, .pc tI, .pc tI, .own 1007003 3 T0, .own 1007004 3 T0]]
abbrev vs85x0x0 : List Pat := [.slot 9 (.pc tI)]
abbrev ps85x0x0 : List Pat := [.slot 1 (.pc (.sl T1)), .slot 2 (.pc (.sl T1)), .slot 3 (.ptr 3), .slot 6 (.ptr 6), .slot 8 (.pc tI), .box 3 [.pc (.sl T9), .pc tI, .pc tI, .pc tI, .pc tI, .pc tI, .pc tI, .pc tI, .pc tI, .pc tI, .pc tI, .pc tI, .pc tI], .box 6 [.pc tI, .pc tI, .pc tI, .own 1007003 3 T0, .own 1007004 3 T0], .slot 9 (.pc tI)]
def j85x0x0 : (patsTy cs85x0x0).den → (patsTy vs85x0x0).den → (patsTy ps85x0x0).den := fun c v => (c.1, (c.2.1, (c.2.2.1, (c.2.2.2.1, (c.2.2.2.2.1, (c.2.2.2.2.2.1, (c.2.2.2.2.2.2.1, v)))))))
def sp85x0x0 : (patsTy ps85x0x0).den → (patsTy cs85x0x0).den × (patsTy vs85x0x0).den := fun x => ((x.1, (x.2.1, (x.2.2.1, (x.2.2.2.1, (x.2.2.2.2.1, (x.2.2.2.2.2.1, (x.2.2.2.2.2.2.1, ()))))))), x.2.2.2.2.2.2.2)
abbrev wy85x0x0 : Ways := ⟨[(2, [.slot 1 (.pc (.sl T1)), .slot 2 (.pc (.sl T1)), .slot 3 (.ptr 3), .slot 6 (.ptr 6), .slot 8 (.pc tI), .box 3 [.pc (.sl T9), .pc tI, .pc tI, .pc tI, .pc tI, .pc tI, .pc tI, .pc tI, .pc tI, .pc tI, .pc tI, .pc tI, .pc tI], .box 6 [.pc tI, .pc tI, .pc tI, .own 1007003 3 T0, .own 1007004 3 T0]])], [.slot 6 (.ptr 6), .slot 7 (.pc .bool), .box 6 [.pc tI, .pc tI, .pc tI, .pc (.sl T0), .pc (.sl T0)]], []⟩
abbrev wv85x0x0 : Ways := ⟨[(2, [])], [.slot 7 (.pc .bool), .box 6 [.pc tI, .pc tI, .pc tI, .pc (.sl T0), .pc (.sl T0)]], []⟩
def je85x0x0 : (id : Nat) → (patsTy cs85x0x0).den → (patsTy (wayP wv85x0x0 id)).den → (patsTy (wayP wy85x0x0 id)).den := fun id => match id with | 2 => fun c y => (c.1, (c.2.1, (c.2.2.1, (c.2.2.2.1, (c.2.2.2.2.1, (c.2.2.2.2.2.1, (c.2.2.2.2.2.2.1, y))))))) | id => fun _ _ => (patsTy (wayP wy85x0x0 id)).dflt
def jr85x0x0 : (patsTy cs85x0x0).den → (patsTy (wv85x0x0).ret).den → (patsTy (wy85x0x0).ret).den := fun c y => (c.2.2.2.1, y)
def Z85x0x0 {α : Type} (l : RQ vs85x0x0 wv85x0x0 → α) (an : α → α → α) (c : (patsTy cs85x0x0).den) (v : (patsTy vs85x0x0).den) : α := bif (decide (v.1 ≤ c.2.2.2.2.2.1.2.2.2.2.1)) then bif (LQ.isExit (L85x0x0x0 (c.1, (c.2.1, ((), ((), (c.2.2.2.2.1, (v.1, (c.2.2.2.2.2.1, (c.2.2.2.2.2.2.1, ())))))))) (c.2.2.2.2.2.1.2.2.2.2.2.1, ())) 4) then l (.next ((W (v.1 + (1 : Int))), ())) else bif (LQ.isRet (L85x0x0x0 (c.1, (c.2.1, ((), ((), (c.2.2.2.2.1, (v.1, (c.2.2.2.2.2.1, (c.2.2.2.2.2.2.1, ())))))))) (c.2.2.2.2.2.1.2.2.2.2.2.1, ()))) then l (.out (.ret ((LQ.getRet (L85x0x0x0 (c.1, (c.2.1, ((), ((), (c.2.2.2.2.1, (v.1, (c.2.2.2.2.2.1, (c.2.2.2.2.2.2.1, ())))))))) (c.2.2.2.2.2.1.2.2.2.2.2.1, ()))).1, ((LQ.getRet (L85x0x0x0 (c.1, (c.2.1, ((), ((), (c.2.2.2.2.1, (v.1, (c.2.2.2.2.2.1, (c.2.2.2.2.2.2.1, ())))))))) (c.2.2.2.2.2.1.2.2.2.2.2.1, ()))).2.1, ())))) else l .bad else l (.out (.exit 2 ()))
theorem z85x0x0 (c : (patsTy cs85x0x0).den) (v : (patsTy vs85x0x0).den) : roundQ Try.prog E0 G85 0 88 [] ps85x0x0 wy85x0x0 b85x0x0 [.known (loopF 0 [] ps85x0x0x0 fun x => spreadV wy85x0x0x0 je85x0x0x0 jr85x0x0x0 true (sp85x0x0x0 x).1 (L85x0x0x0 (sp85x0x0x0 x).1 (sp85x0x0x0 x).2) wy85x0x0x0.exits)] (j85x0x0 c v) = Z85x0x0 (fun r => .leaf (r.lift j85x0x0 je85x0x0 jr85x0x0 c)) .any c v := by kernel_rfl
def S85x0x0 (c : (patsTy cs85x0x0).den) (v : (patsTy vs85x0x0).den) : RQ vs85x0x0 wv85x0x0 := Z85x0x0 (fun r => r) (fun _ _ => .bad) c v
theorem s85x0x0 (c : (patsTy cs85x0x0).den) (v : (patsTy vs85x0x0).den) : detQ (roundQ Try.prog E0 G85 0 88 [] ps85x0x0 wy85x0x0 b85x0x0 [.known (loopF 0 [] ps85x0x0x0 fun x => spreadV wy85x0x0x0 je85x0x0x0 jr85x0x0x0 true (sp85x0x0x0 x).1 (L85x0x0x0 (sp85x0x0x0 x).1 (sp85x0x0x0 x).2) wy85x0x0x0.exits)] (j85x0x0 c v)) = (S85x0x0 c v).lift j85x0x0 je85x0x0 jr85x0x0 c := by rw [z85x0x0]; unfold S85x0x0 Z85x0x0; simp only [detQ_cond, lift_cond, lift_bad, detQ]
def L85x0x0 (c : (patsTy cs85x0x0).den) (v : (patsTy vs85x0x0).den) : LQ wv85x0x0 := iterQ (S85x0x0 c) big v
theorem lo85x0 : loopsOf (b85x0) = [.loop b85x0x0] := by kernel_rfl
abbrev cs85x0 : List Pat := [.slot 1 (.pc (.sl T1)), .slot 2 (.pc (.sl T1)), .slot 3 (.ptr 3), .slot 6 (.ptr 6), .box 3 [.pc (.sl T9), .pc tI, .pc tI, .pc tI, .pc tI, .pc tI, .pc tI, .pc tI, .pc tI, .pc tI, .pc tI, .pc tI, .pc tI], .box 6 [.pc tI, .pc tI, .pc tI, .own 1007003 3 T0, .own 1007004 3 T0]]
abbrev vs85x0 : List Pat := [.slot 8 (.pc tI)]
abbrev ps85x0 : List Pat := [.slot 1 (.pc (.sl T1)), .slot 2 (.pc (.sl T1)), .slot 3 (.ptr 3), .slot 6 (.ptr 6), .box 3 [.pc (.sl T9), .pc tI, .pc tI, .pc tI, .pc tI, .pc tI, .pc tI, .pc tI, .pc tI, .pc tI, .pc tI, .pc tI, .pc tI], .box 6 [.pc tI, .pc tI, .pc tI, .own 1007003 3 T0, .own 1007004 3 T0], .slot 8 (.pc tI)]
def j85x0 : (patsTy cs85x0).den → (patsTy vs85x0).den → (patsTy ps85x0).den := fun c v => (c.1, (c.2.1, (c.2.2.1, (c.2.2.2.1, (c.2.2.2.2.1, (c.2.2.2.2.2.1, v))))))
def sp85x0 : (patsTy ps85x0).den → (patsTy cs85x0).den × (patsTy vs85x0).den := fun x => ((x.1, (x.2.1, (x.2.2.1, (x.2.2.2.1, (x.2.2.2.2.1, (x.2.2.2.2.2.1, ())))))), x.2.2.2.2.2.2)
abbrev wy85x0 : Ways := ⟨[(0, [.slot 6 (.ptr 6), .box 6 [.pc tI, .pc tI, .pc tI, .own 1007003 3 T0, .own 1007004 3 T0]])], [.slot 6 (.ptr 6), .slot 7 (.pc .bool), .box 6 [.pc tI, .pc tI, .pc tI, .pc (.sl T0), .pc (.sl T0)]], []⟩
abbrev wv85x0 : Ways := ⟨[(0, [])], [.slot 7 (.pc .bool), .box 6 [.pc tI, .pc tI, .pc tI, .pc (.sl T0), .pc (.sl T0)]], []⟩
def je85x0 : (id : Nat) → (patsTy cs85x0).den → (patsTy (wayP wv85x0 id)).den → (patsTy (wayP wy85x0 id)).den := fun id => match id with | 0 => fun c y => (c.2.2.2.1, (c.2.2.2.2.2.1, y)) | id => fun _ _ => (patsTy (wayP wy85x0 id)).dflt
def jr85x0 : (patsTy cs85x0).den → (patsTy (wv85x0).ret).den → (patsTy (wy85x0).ret).den := fun c y => (c.2.2.2.1, y)
def Z85x0 {α : Type} (l : RQ vs85x0 wv85x0 → α) (an : α → α → α) (c : (patsTy cs85x0).den) (v : (patsTy vs85x0).den) : α := bif (decide (v.1 ≤ c.2.2.2.2.1.2.2.1)) then bif (LQ.isExit (L85x0x0 (c.1, (c.2.1, ((), ((), (v.1, (c.2.2.2.2.1, (c.2.2.2.2.2.1, ()))))))) (c.2.2.2.2.1.2.2.2.1, ())) 2) then l (.next ((W (v.1 + (1 : Int))), ())) else bif (LQ.isRet (L85x0x0 (c.1, (c.2.1, ((), ((), (v.1, (c.2.2.2.2.1, (c.2.2.2.2.2.1, ()))))))) (c.2.2.2.2.1.2.2.2.1, ()))) then l (.out (.ret ((LQ.getRet (L85x0x0 (c.1, (c.2.1, ((), ((), (v.1, (c.2.2.2.2.1, (c.2.2.2.2.2.1, ()))))))) (c.2.2.2.2.1.2.2.2.1, ()))).1, ((LQ.getRet (L85x0x0 (c.1, (c.2.1, ((), ((), (v.1, (c.2.2.2.2.1, (c.2.2.2.2.2.1, ()))))))) (c.2.2.2.2.1.2.2.2.1, ()))).2.1, ())))) else l .bad else l (.out (.exit 0 ()))
theorem z85x0 (c : (patsTy cs85x0).den) (v : (patsTy vs85x0).den) : roundQ Try.prog E0 G85 0 88 [] ps85x0 wy85x0 b85x0 [.known (loopF 0 [] ps85x0x0 fun x => spreadV wy85x0x0 je85x0x0 jr85x0x0 true (sp85x0x0 x).1 (L85x0x0 (sp85x0x0 x).1 (sp85x0x0 x).2) wy85x0x0.exits)] (j85x0 c v) = Z85x0 (fun r => .leaf (r.lift j85x0 je85x0 jr85x0 c)) .any c v := by kernel_rfl
def S85x0 (c : (patsTy cs85x0).den) (v : (patsTy vs85x0).den) : RQ vs85x0 wv85x0 := Z85x0 (fun r => r) (fun _ _ => .bad) c v
theorem s85x0 (c : (patsTy cs85x0).den) (v : (patsTy vs85x0).den) : detQ (roundQ Try.prog E0 G85 0 88 [] ps85x0 wy85x0 b85x0 [.known (loopF 0 [] ps85x0x0 fun x => spreadV wy85x0x0 je85x0x0 jr85x0x0 true (sp85x0x0 x).1 (L85x0x0 (sp85x0x0 x).1 (sp85x0x0 x).2) wy85x0x0.exits)] (j85x0 c v)) = (S85x0 c v).lift j85x0 je85x0 jr85x0 c := by rw [z85x0]; unfold S85x0 Z85x0; simp only [detQ_cond, lift_cond, lift_bad, detQ]
def L85x0 (c : (patsTy cs85x0).den) (v : (patsTy vs85x0).den) : LQ wv85x0 := iterQ (S85x0 c) big v
theorem lo85 : loopsOf (c85) = [.loop b85x0] := by kernel_rfl
noncomputable def l85 : List Loop := [.known (loopF 0 [] ps85x0 fun x => spreadV wy85x0 je85x0 jr85x0 true (sp85x0 x).1 (L85x0 (sp85x0 x).1 (sp85x0 x).2) wy85x0.exits)]
def Q85 {α : Type} (l : Option (r85).den → α) (an : α → α → α) (x : (a85).den) : α := bif (LQ.isExit (L85x0 (x.2.1, (x.2.2.1, ((), ((), (x.1, (((0 : Int), ((0 : Int), ((0 : Int), ((⟨0, fun i => ((0 : Int), ())⟩ : Sl _), ((⟨0, fun i => ((0 : Int), ())⟩ : Sl _), ()))))), ())))))) (x.1.2.1, ())) 0) then l (some (((0 : Int), ((0 : Int), ((0 : Int), ((⟨0, fun i => ((0 : Int), ())⟩ : Sl _), ((⟨0, fun i => ((0 : Int), ())⟩ : Sl _), ()))))), (false, ()))) else bif (LQ.isRet (L85x0 (x.2.1, (x.2.2.1, ((), ((), (x.1, (((0 : Int), ((0 : Int), ((0 : Int), ((⟨0, fun i => ((0 : Int), ())⟩ : Sl _), ((⟨0, fun i => ((0 : Int), ())⟩ : Sl _), ()))))), ())))))) (x.1.2.1, ()))) then l (some ((LQ.getRet (L85x0 (x.2.1, (x.2.2.1, ((), ((), (x.1, (((0 : Int), ((0 : Int), ((0 : Int), ((⟨0, fun i => ((0 : Int), ())⟩ : Sl _), ((⟨0, fun i => ((0 : Int), ())⟩ : Sl _), ()))))), ())))))) (x.1.2.1, ()))).2.1, ((LQ.getRet (L85x0 (x.2.1, (x.2.2.1, ((), ((), (x.1, (((0 : Int), ((0 : Int), ((0 : Int), ((⟨0, fun i => ((0 : Int), ())⟩ : Sl _), ((⟨0, fun i => ((0 : Int), ())⟩ : Sl _), ()))))), ())))))) (x.1.2.1, ()))).1, ()))) else l none
theorem q85 (x : (a85).den) : runFn Try.prog E0 G85 Try.f85 l85 a85 r85 x = Q85 .leaf .any x := by kernel_rfl
def M85 (x : (a85).den) : Option (r85).den := Q85 (fun r => r) (fun _ _ => none) x
theorem m85 (x : (a85).den) : (runFn Try.prog E0 G85 Try.f85 l85 a85 r85 x).sure = M85 x := by rw [q85]; unfold M85 Q85; simp only [sure_cond, Tree.sure]
def p85 (x : (a85).den) : Bool := (M85 x).isSome
def v85 (x : (a85).den) : (r85).den := (M85 x).getD (r85).dflt
def k85 : Con := ⟨a85, r85, p85, v85⟩
theorem h85 : Holds Try.prog 85 k85 := holds_of_M' (E := E0) follows_ok g85 eqTy_sound keyTy_sound at85 bd85 (by kernel_rfl) m85 fun G' hlo hF hE => LsOK_kn (by rw [lo85]; exact .cons (loopV_ok hE hF hlo (LsOK_kn (by rw [lo85x0]; exact .cons (loopV_ok hE hF hlo (LsOK_kn (by rw [lo85x0x0]; exact .cons (loopV_ok hE hF hlo (LsOK_kn (by rw [lo85x0x0x0]; exact .nil)) (by kernel_rfl) (by kernel_rfl) sp85x0x0x0 (fun _ => rfl) (fun _ _ => rfl) (s85x0x0x0) big) (.nil))) (by kernel_rfl) (by kernel_rfl) sp85x0x0 (fun _ => rfl) (fun _ _ => rfl) (s85x0x0) big) (.nil))) (by kernel_rfl) (by kernel_rfl) sp85x0 (fun _ => rfl) (fun _ _ => rfl) (s85x0) big) (.nil))
/-- isobar/isobarref07.First -/
noncomputable def c34 : Code := Try.f34.body.getD .skip
theorem at34 : Try.prog.funcs[34]? = some Try.f34 := by kernel_rfl
theorem bd34 : Try.f34.body = some c34 := by kernel_rfl
theorem cl34 : Callable Try.prog 34 := callable_of at34 (by kernel_rfl) (by kernel_rfl)
abbrev a34 : Ty := T43
abbrev r34 : Ty := T75
noncomputable def G34 : Ctx := Ctx.of [(85, .pure k85), (86, .pure k86)]
theorem g34 : Sound Try.prog (G34) := sound_of (List.forall_mem_cons.2 ⟨⟨cl85, h85⟩, List.forall_mem_cons.2 ⟨⟨cl86, h86⟩, fun _ h => by cases h⟩⟩)
theorem lo34 : loopsOf (c34) = [] := by kernel_rfl
noncomputable def l34 : List Loop := []
def Q34 {α : Type} (l : Option (r34).den → α) (an : α → α → α) (x : (a34).den) : α := bif (p86 (x.1, (false, ()))) then bif (p86 (x.1, (true, ()))) then bif (p85 (x.1, ((v86 (x.1, (false, ()))).1, (v86 (x.1, (true, ())))))) then l (some ((v85 (x.1, ((v86 (x.1, (false, ()))).1, (v86 (x.1, (true, ())))))).1, (v85 (x.1, ((v86 (x.1, (false, ()))).1, (v86 (x.1, (true, ())))))).2)) else l none else l none else l none
theorem q34 (x : (a34).den) : runFn Try.prog E0 G34 Try.f34 l34 a34 r34 x = Q34 .leaf .any x := by kernel_rfl
def M34 (x : (a34).den) : Option (r34).den := Q34 (fun r => r) (fun _ _ => none) x
theorem m34 (x : (a34).den) : (runFn Try.prog E0 G34 Try.f34 l34 a34 r34 x).sure = M34 x := by rw [q34]; unfold M34 Q34; simp only [sure_cond, Tree.sure]
def p34 (x : (a34).den) : Bool := (M34 x).isSome
def v34 (x : (a34).den) : (r34).den := (M34 x).getD (r34).dflt
def k34 : Con := ⟨a34, r34, p34, v34⟩
theorem h34 : Holds Try.prog 34 k34 := holds_of_M' (E := E0) follows_ok g34 eqTy_sound keyTy_sound at34 bd34 (by kernel_rfl) m34 fun G' hlo hF hE => LsOK_kn (by rw [lo34]; exact .nil)
/-- isobar/isobarref07.Before -/
noncomputable def c61 : Code := Try.f61.body.getD .skip
theorem at61 : Try.prog.funcs[61]? = some Try.f61 := by kernel_rfl
theorem bd61 : Try.f61.body = some c61 := by kernel_rfl
theorem cl61 : Callable Try.prog 61 := callable_of at61 (by kernel_rfl) (by kernel_rfl)
abbrev a61 : Ty := T109
abbrev r61 : Ty := T3
noncomputable def G61 : Ctx := Ctx.of []
theorem g61 : Sound Try.prog (G61) := sound_of (fun _ h => by cases h)
noncomputable def b61x0 : Code := loopBody ((loopsOf (c61))[0]?)
theorem lo61x0 : loopsOf (b61x0) = [] := by kernel_rfl
abbrev cs61x0 : List Pat := [.slot 5 (.pc (.sl T0)), .slot 6 (.pc (.sl T0))]
abbrev vs61x0 : List Pat := [.slot 7 (.pc tI)]
abbrev ps61x0 : List Pat := [.slot 5 (.pc (.sl T0)), .slot 6 (.pc (.sl T0)), .slot 7 (.pc tI)]
def j61x0 : (patsTy cs61x0).den → (patsTy vs61x0).den → (patsTy ps61x0).den := fun c v => (c.1, (c.2.1, v))
def sp61x0 : (patsTy ps61x0).den → (patsTy cs61x0).den × (patsTy vs61x0).den := fun x => ((x.1, (x.2.1, ())), x.2.2)
abbrev wy61x0 : Ways := ⟨[(0, [])], [.slot 4 (.pc .bool)], []⟩
abbrev wv61x0 : Ways := ⟨[(0, [])], [.slot 4 (.pc .bool)], []⟩
def je61x0 : (id : Nat) → (patsTy cs61x0).den → (patsTy (wayP wv61x0 id)).den → (patsTy (wayP wy61x0 id)).den := fun id => match id with | 0 => fun c y => y | id => fun _ _ => (patsTy (wayP wy61x0 id)).dflt
def jr61x0 : (patsTy cs61x0).den → (patsTy (wv61x0).ret).den → (patsTy (wy61x0).ret).den := fun c y => y
def Z61x0 {α : Type} (l : RQ vs61x0 wv61x0 → α) (an : α → α → α) (c : (patsTy cs61x0).den) (v : (patsTy vs61x0).den) : α := bif (decide (v.1 < ((c.1.n : Nat) : Int))) then bif (decide (v.1 < ((c.2.1.n : Nat) : Int))) then bif (decide (((0 : Int) ≤ v.1) ∧ (v.1 < ((c.1.n : Nat) : Int)))) then bif (decide (((0 : Int) ≤ v.1) ∧ (v.1 < ((c.2.1.n : Nat) : Int)))) then bif (!(decide ((c.1.g (Int.toNat v.1)).1 = (c.2.1.g (Int.toNat v.1)).1))) then bif (decide (((0 : Int) ≤ v.1) ∧ (v.1 < ((c.1.n : Nat) : Int)))) then bif (decide (((0 : Int) ≤ v.1) ∧ (v.1 < ((c.2.1.n : Nat) : Int)))) then l (.out (.ret ((decide ((c.1.g (Int.toNat v.1)).1 < (c.2.1.g (Int.toNat v.1)).1)), ()))) else l .bad else l .bad else l (.next ((W (v.1 + (1 : Int))), ())) else l .bad else l .bad else l (.out (.exit 0 ())) else l (.out (.exit 0 ()))
theorem z61x0 (c : (patsTy cs61x0).den) (v : (patsTy vs61x0).den) : roundQ Try.prog E0 G61 0 64 [] ps61x0 wy61x0 b61x0 [] (j61x0 c v) = Z61x0 (fun r => .leaf (r.lift j61x0 je61x0 jr61x0 c)) .any c v := by kernel_rfl
def S61x0 (c : (patsTy cs61x0).den) (v : (patsTy vs61x0).den) : RQ vs61x0 wv61x0 := Z61x0 (fun r => r) (fun _ _ => .bad) c v
theorem s61x0 (c : (patsTy cs61x0).den) (v : (patsTy vs61x0).den) : detQ (roundQ Try.prog E0 G61 0 64 [] ps61x0 wy61x0 b61x0 [] (j61x0 c v)) = (S61x0 c v).lift j61x0 je61x0 jr61x0 c := by rw [z61x0]; unfold S61x0 Z61x0; simp only [detQ_cond, lift_cond, lift_bad, detQ]
def L61x0 (c : (patsTy cs61x0).den) (v : (patsTy vs61x0).den) : LQ wv61x0 := iterQ (S61x0 c) big v
theorem lo61 : loopsOf (c61) = [.loop b61x0] := by kernel_rfl
noncomputable def l61 : List Loop := [.known (loopF 0 [] ps61x0 fun x => spreadV wy61x0 je61x0 jr61x0 true (sp61x0 x).1 (L61x0 (sp61x0 x).1 (sp61x0 x).2) wy61x0.exits)]
def Q61 {α : Type} (l : Option (r61).den → α) (an : α → α → α) (x : (a61).den) : α := bif (decide (((3 + x.1.2.2.2.1.n) * 8) ≤ 140737488355328)) then bif (decide ((((catSl (⟨3, fun i => List.getD [(x.1.1, ()), (x.1.2.1, ()), (x.1.2.2.1, ())] i (x.1.1, ())⟩ : Sl (Ty.den T0)) x.1.2.2.2.1).n + x.1.2.2.2.2.1.n) * 8) ≤ 140737488355328)) then bif (decide (((3 + x.2.1.2.2.2.1.n) * 8) ≤ 140737488355328)) then bif (decide ((((catSl (⟨3, fun i => List.getD [(x.2.1.1, ()), (x.2.1.2.1, ()), (x.2.1.2.2.1, ())] i (x.2.1.1, ())⟩ : Sl (Ty.den T0)) x.2.1.2.2.2.1).n + x.2.1.2.2.2.2.1.n) * 8) ≤ 140737488355328)) then bif (LQ.isExit (L61x0 ((catSl (catSl (⟨3, fun i => List.getD [(x.1.1, ()), (x.1.2.1, ()), (x.1.2.2.1, ())] i (x.1.1, ())⟩ : Sl (Ty.den T0)) x.1.2.2.2.1) x.1.2.2.2.2.1), ((catSl (catSl (⟨3, fun i => List.getD [(x.2.1.1, ()), (x.2.1.2.1, ()), (x.2.1.2.2.1, ())] i (x.2.1.1, ())⟩ : Sl (Ty.den T0)) x.2.1.2.2.2.1) x.2.1.2.2.2.2.1), ())) ((0 : Int), ())) 0) then l (some (false, ())) else bif (LQ.isRet (L61x0 ((catSl (catSl (⟨3, fun i => List.getD [(x.1.1, ()), (x.1.2.1, ()), (x.1.2.2.1, ())] i (x.1.1, ())⟩ : Sl (Ty.den T0)) x.1.2.2.2.1) x.1.2.2.2.2.1), ((catSl (catSl (⟨3, fun i => List.getD [(x.2.1.1, ()), (x.2.1.2.1, ()), (x.2.1.2.2.1, ())] i (x.2.1.1, ())⟩ : Sl (Ty.den T0)) x.2.1.2.2.2.1) x.2.1.2.2.2.2.1), ())) ((0 : Int), ()))) then l (some (LQ.getRet (L61x0 ((catSl (catSl (⟨3, fun i => List.getD [(x.1.1, ()), (x.1.2.1, ()), (x.1.2.2.1, ())] i (x.1.1, ())⟩ : Sl (Ty.den T0)) x.1.2.2.2.1) x.1.2.2.2.2.1), ((catSl (catSl (⟨3, fun i => List.getD [(x.2.1.1, ()), (x.2.1.2.1, ()), (x.2.1.2.2.1, ())] i (x.2.1.1, ())⟩ : Sl (Ty.den T0)) x.2.1.2.2.2.1) x.2.1.2.2.2.2.1), ())) ((0 : Int), ())))) else l none else l none else l none else l none else l none
theorem q61 (x : (a61).den) : runFn Try.prog E0 G61 Try.f61 l61 a61 r61 x = Q61 .leaf .any x := by kernel_rfl
def M61 (x : (a61).den) : Option (r61).den := Q61 (fun r => r) (fun _ _ => none) x
theorem m61 (x : (a61).den) : (runFn Try.prog E0 G61 Try.f61 l61 a61 r61 x).sure = M61 x := by rw [q61]; unfold M61 Q61; simp only [sure_cond, Tree.sure]
def p61 (x : (a61).den) : Bool := (M61 x).isSome
def v61 (x : (a61).den) : (r61).den := (M61 x).getD (r61).dflt
def k61 : Con := ⟨a61, r61, p61, v61⟩
theorem h61 : Holds Try.prog 61 k61 := holds_of_M' (E := E0) follows_ok g61 eqTy_sound keyTy_sound at61 bd61 (by kernel_rfl) m61 fun G' hlo hF hE => LsOK_kn (by rw [lo61]; exact .cons (loopV_ok hE hF hlo (LsOK_kn (by rw [lo61x0]; exact .nil)) (by kernel_rfl) (by kernel_rfl) sp61x0 (fun _ => rfl) (fun _ _ => rfl) (s61x0) big) (.nil))
/-- isobar/kite.truth$1 -/
noncomputable def c119 : Code := Try.f119.body.getD .skip
theorem at119 : Try.prog.funcs[119]? = some Try.f119 := by kernel_rfl
theorem bd119 : Try.f119.body = some c119 := by kernel_rfl
theorem cl119 : Callable Try.prog 119 := callable_of at119 (by kernel_rfl) (by kernel_rfl)
abbrev a119 : Ty := T7
abbrev r119 : Ty := T3
noncomputable def G119 : Ctx := Ctx.of [(73, .pure k73)]
theorem g119 : Sound Try.prog (G119) := sound_of (List.forall_mem_cons.2 ⟨⟨cl73, h73⟩, fun _ h => by cases h⟩)
theorem lo119 : loopsOf (c119) = [] := by kernel_rfl
noncomputable def l119 : List Loop := []
def Q119 {α : Type} (l : Option (r119).den → α) (an : α → α → α) (x : (a119).den) : α := bif (p73 (x.1, (x.2.1, ()))) then l (some (v73 (x.1, (x.2.1, ())))) else l none
theorem q119 (x : (a119).den) : runFn Try.prog E0 G119 Try.f119 l119 a119 r119 x = Q119 .leaf .any x := by kernel_rfl
def M119 (x : (a119).den) : Option (r119).den := Q119 (fun r => r) (fun _ _ => none) x
theorem m119 (x : (a119).den) : (runFn Try.prog E0 G119 Try.f119 l119 a119 r119 x).sure = M119 x := by rw [q119]; unfold M119 Q119; simp only [sure_cond, Tree.sure]
def p119 (x : (a119).den) : Bool := (M119 x).isSome
def v119 (x : (a119).den) : (r119).den := (M119 x).getD (r119).dflt
def k119 : Con := ⟨a119, r119, p119, v119⟩
theorem h119 : Holds Try.prog 119 k119 := holds_of_M' (E := E0) follows_ok g119 eqTy_sound keyTy_sound at119 bd119 (by kernel_rfl) m119 fun G' hlo hF hE => LsOK_kn (by rw [lo119]; exact .nil)
/-- slices.EqualFunc[[]int,[]isobar/api.Span,int,isobar/api.Span] -/
noncomputable def c120 : Code := Try.f120.body.getD .skip
theorem at120 : Try.prog.funcs[120]? = some Try.f120 := by kernel_rfl
theorem bd120 : Try.f120.body = some c120 := by kernel_rfl
theorem cl120 : Callable Try.prog 120 := callable_of at120 (by kernel_rfl) (by kernel_rfl)
abbrev T120 : Ty := (.fn T7 T3)
abbrev T121 : Ty := (.cons T120 .nil)
abbrev T122 : Ty := (.cons (.sl T1) T121)
abbrev T123 : Ty := (.cons (.sl T0) T122)
abbrev a120 : Ty := T123
abbrev r120 : Ty := T3
noncomputable def G120 : Ctx := Ctx.of []
theorem g120 : Sound Try.prog (G120) := sound_of (fun _ h => by cases h)
noncomputable def b120x0 : Code := loopBody ((loopsOf (c120))[0]?)
theorem lo120x0 : loopsOf (b120x0) = [] := by kernel_rfl
abbrev cs120x0 : List Pat := [.slot 1 (.pc (.sl T1)), .slot 2 (.pc T120), .slot 15 (.pc (.sl T0)), .slot 16 (.pc tI)]
abbrev vs120x0 : List Pat := [.slot 17 (.pc tI)]
abbrev ps120x0 : List Pat := [.slot 1 (.pc (.sl T1)), .slot 2 (.pc T120), .slot 15 (.pc (.sl T0)), .slot 16 (.pc tI), .slot 17 (.pc tI)]
def j120x0 : (patsTy cs120x0).den → (patsTy vs120x0).den → (patsTy ps120x0).den := fun c v => (c.1, (c.2.1, (c.2.2.1, (c.2.2.2.1, v))))
def sp120x0 : (patsTy ps120x0).den → (patsTy cs120x0).den × (patsTy vs120x0).den := fun x => ((x.1, (x.2.1, (x.2.2.1, (x.2.2.2.1, ())))), x.2.2.2.2)
abbrev wy120x0 : Ways := ⟨[(0, [])], [.slot 6 (.pc .bool)], []⟩
abbrev wv120x0 : Ways := ⟨[(0, [])], [.slot 6 (.pc .bool)], []⟩
def je120x0 : (id : Nat) → (patsTy cs120x0).den → (patsTy (wayP wv120x0 id)).den → (patsTy (wayP wy120x0 id)).den := fun id => match id with | 0 => fun c y => y | id => fun _ _ => (patsTy (wayP wy120x0 id)).dflt
def jr120x0 : (patsTy cs120x0).den → (patsTy (wv120x0).ret).den → (patsTy (wy120x0).ret).den := fun c y => y
def Z120x0 {α : Type} (l : RQ vs120x0 wv120x0 → α) (an : α → α → α) (c : (patsTy cs120x0).den) (v : (patsTy vs120x0).den) : α := bif (decide (v.1 < c.2.2.2.1)) then bif (decide (((0 : Int) ≤ v.1) ∧ (v.1 < ((c.2.2.1.n : Nat) : Int)))) then bif (decide (((0 : Int) ≤ v.1) ∧ (v.1 < ((c.1.n : Nat) : Int)))) then bif (c.2.1 ((c.2.2.1.g (Int.toNat v.1)).1, ((c.1.g (Int.toNat v.1)), ()))).1 then bif (!(c.2.1 ((c.2.2.1.g (Int.toNat v.1)).1, ((c.1.g (Int.toNat v.1)), ()))).2.1) then l (.out (.ret (false, ()))) else l (.next ((W (v.1 + (1 : Int))), ())) else l .bad else l .bad else l .bad else l (.out (.exit 0 ()))
theorem z120x0 (c : (patsTy cs120x0).den) (v : (patsTy vs120x0).den) : roundQ Try.prog E0 G120 0 32 [] ps120x0 wy120x0 b120x0 [] (j120x0 c v) = Z120x0 (fun r => .leaf (r.lift j120x0 je120x0 jr120x0 c)) .any c v := by kernel_rfl
def S120x0 (c : (patsTy cs120x0).den) (v : (patsTy vs120x0).den) : RQ vs120x0 wv120x0 := Z120x0 (fun r => r) (fun _ _ => .bad) c v
theorem s120x0 (c : (patsTy cs120x0).den) (v : (patsTy vs120x0).den) : detQ (roundQ Try.prog E0 G120 0 32 [] ps120x0 wy120x0 b120x0 [] (j120x0 c v)) = (S120x0 c v).lift j120x0 je120x0 jr120x0 c := by rw [z120x0]; unfold S120x0 Z120x0; simp only [detQ_cond, lift_cond, lift_bad, detQ]
def L120x0 (c : (patsTy cs120x0).den) (v : (patsTy vs120x0).den) : LQ wv120x0 := iterQ (S120x0 c) big v
theorem lo120 : loopsOf (c120) = [.loop b120x0] := by kernel_rfl
noncomputable def l120 : List Loop := [.known (loopF 0 [] ps120x0 fun x => spreadV wy120x0 je120x0 jr120x0 true (sp120x0 x).1 (L120x0 (sp120x0 x).1 (sp120x0 x).2) wy120x0.exits)]
def Q120 {α : Type} (l : Option (r120).den → α) (an : α → α → α) (x : (a120).den) : α := bif (!(decide (((x.1.n : Nat) : Int) = ((x.2.1.n : Nat) : Int)))) then l (some (false, ())) else bif (LQ.isExit (L120x0 (x.2.1, (x.2.2.1, (x.1, (((x.1.n : Nat) : Int), ())))) ((0 : Int), ())) 0) then l (some (true, ())) else bif (LQ.isRet (L120x0 (x.2.1, (x.2.2.1, (x.1, (((x.1.n : Nat) : Int), ())))) ((0 : Int), ()))) then l (some (LQ.getRet (L120x0 (x.2.1, (x.2.2.1, (x.1, (((x.1.n : Nat) : Int), ())))) ((0 : Int), ())))) else l none
theorem q120 (x : (a120).den) : runFn Try.prog E0 G120 Try.f120 l120 a120 r120 x = Q120 .leaf .any x := by kernel_rfl
def M120 (x : (a120).den) : Option (r120).den := Q120 (fun r => r) (fun _ _ => none) x
theorem m120 (x : (a120).den) : (runFn Try.prog E0 G120 Try.f120 l120 a120 r120 x).sure = M120 x := by rw [q120]; unfold M120 Q120; simp only [sure_cond, Tree.sure]
def p120 (x : (a120).den) : Bool := (M120 x).isSome
def v120 (x : (a120).den) : (r120).den := (M120 x).getD (r120).dflt
def k120 : Con := ⟨a120, r120, p120, v120⟩
theorem h120 : Holds Try.prog 120 k120 := holds_of_M' (E := E0) follows_ok g120 eqTy_sound keyTy_sound at120 bd120 (by kernel_rfl) m120 fun G' hlo hF hE => LsOK_kn (by rw [lo120]; exact .cons (loopV_ok hE hF hlo (LsOK_kn (by rw [lo120x0]; exact .nil)) (by kernel_rfl) (by kernel_rfl) sp120x0 (fun _ => rfl) (fun _ _ => rfl) (s120x0) big) (.nil))
/-- isobar/kite.truth -/
noncomputable def c103 : Code := Try.f103.body.getD .skip
theorem at103 : Try.prog.funcs[103]? = some Try.f103 := by kernel_rfl
theorem bd103 : Try.f103.body = some c103 := by kernel_rfl
theorem cl103 : Callable Try.prog 103 := callable_of at103 (by kernel_rfl) (by kernel_rfl)
abbrev T124 : Ty := (.cons T57 T3)
abbrev a103 : Ty := T112
abbrev r103 : Ty := T124
noncomputable def G103 : Ctx := Ctx.of [(73, .pure k73), (92, .pure k92), (94, .gen (rowD Try.f94.ntmps a94 23 T1 R94)), (119, .pure k119), (120, .pure k120)]
theorem g103 : Sound Try.prog (G103) := sound_of (List.forall_mem_cons.2 ⟨⟨cl73, h73⟩, List.forall_mem_cons.2 ⟨⟨cl92, h92⟩, List.forall_mem_cons.2 ⟨⟨cl94, hw94⟩, List.forall_mem_cons.2 ⟨⟨cl119, h119⟩, List.forall_mem_cons.2 ⟨⟨cl120, h120⟩, fun _ h => by cases h⟩⟩⟩⟩⟩)
theorem lo103 : loopsOf (c103) = [] := by kernel_rfl
noncomputable def l103 : List Loop := []
def Q103 {α : Type} (l : Option (r103).den → α) (an : α → α → α) (x : (a103).den) : α := bif (p92 (x.1, ())) then bif (!(v92 (x.1, ())).1) then l (some ((x.1.1, (x.1.2.1, (x.1.2.2.1, (x.1.2.2.2.1, (x.1.2.2.2.2.1, (x.1.2.2.2.2.2.1, (x.1.2.2.2.2.2.2.1, (x.1.2.2.2.2.2.2.2.1, (x.1.2.2.2.2.2.2.2.2.1, (x.1.2.2.2.2.2.2.2.2.2.1, (x.1.2.2.2.2.2.2.2.2.2.2.1, (x.1.2.2.2.2.2.2.2.2.2.2.2.1, (x.1.2.2.2.2.2.2.2.2.2.2.2.2.1, (x.2.1.1, (x.2.1.2.1, (x.2.1.2.2.1, ())))))))))))))))), (false, ()))) else bif (p73 (x.2.1.1, ((x.1.2.1, (x.1.2.2.1, ())), ()))) then bif (!(v73 (x.2.1.1, ((x.1.2.1, (x.1.2.2.1, ())), ()))).1) then l (some ((x.1.1, (x.1.2.1, (x.1.2.2.1, (x.1.2.2.2.1, (x.1.2.2.2.2.1, (x.1.2.2.2.2.2.1, (x.1.2.2.2.2.2.2.1, (x.1.2.2.2.2.2.2.2.1, (x.1.2.2.2.2.2.2.2.2.1, (x.1.2.2.2.2.2.2.2.2.2.1, (x.1.2.2.2.2.2.2.2.2.2.2.1, (x.1.2.2.2.2.2.2.2.2.2.2.2.1, (x.1.2.2.2.2.2.2.2.2.2.2.2.2.1, (x.2.1.1, (x.2.1.2.1, (x.2.1.2.2.1, ())))))))))))))))), (false, ()))) else bif (p73 (x.2.1.2.1, ((x.1.2.2.2.1, (x.1.2.2.2.2.1, ())), ()))) then bif (!(v73 (x.2.1.2.1, ((x.1.2.2.2.1, (x.1.2.2.2.2.1, ())), ()))).1) then l (some ((x.1.1, (x.1.2.1, (x.1.2.2.1, (x.1.2.2.2.1, (x.1.2.2.2.2.1, (x.1.2.2.2.2.2.1, (x.1.2.2.2.2.2.2.1, (x.1.2.2.2.2.2.2.2.1, (x.1.2.2.2.2.2.2.2.2.1, (x.1.2.2.2.2.2.2.2.2.2.1, (x.1.2.2.2.2.2.2.2.2.2.2.1, (x.1.2.2.2.2.2.2.2.2.2.2.2.1, (x.1.2.2.2.2.2.2.2.2.2.2.2.2.1, (x.2.1.1, (x.2.1.2.1, (x.2.1.2.2.1, ())))))))))))))))), (false, ()))) else bif (p73 (x.2.1.2.2.1, ((x.1.2.2.2.2.2.1, (x.1.2.2.2.2.2.2.1, ())), ()))) then bif (!(v73 (x.2.1.2.2.1, ((x.1.2.2.2.2.2.1, (x.1.2.2.2.2.2.2.1, ())), ()))).1) then l (some ((x.1.1, (x.1.2.1, (x.1.2.2.1, (x.1.2.2.2.1, (x.1.2.2.2.2.1, (x.1.2.2.2.2.2.1, (x.1.2.2.2.2.2.2.1, (x.1.2.2.2.2.2.2.2.1, (x.1.2.2.2.2.2.2.2.2.1, (x.1.2.2.2.2.2.2.2.2.2.1, (x.1.2.2.2.2.2.2.2.2.2.2.1, (x.1.2.2.2.2.2.2.2.2.2.2.2.1, (x.1.2.2.2.2.2.2.2.2.2.2.2.2.1, (x.2.1.1, (x.2.1.2.1, (x.2.1.2.2.1, ())))))))))))))))), (false, ()))) else bif (Option.isSome (R94 ((x.1.1, (x.1.2.1, (x.1.2.2.1, (x.1.2.2.2.1, (x.1.2.2.2.2.1, (x.1.2.2.2.2.2.1, (x.1.2.2.2.2.2.2.1, (x.1.2.2.2.2.2.2.2.1, (x.1.2.2.2.2.2.2.2.2.1, (x.1.2.2.2.2.2.2.2.2.2.1, (x.1.2.2.2.2.2.2.2.2.2.2.1, (x.1.2.2.2.2.2.2.2.2.2.2.2.1, (x.1.2.2.2.2.2.2.2.2.2.2.2.2.1, (x.2.1.1, (x.2.1.2.1, (x.2.1.2.2.1, ())))))))))))))))), ((0 : Int), ())))) then bif (Nat.blt 0 (Option.getD (R94 ((x.1.1, (x.1.2.1, (x.1.2.2.1, (x.1.2.2.2.1, (x.1.2.2.2.2.1, (x.1.2.2.2.2.2.1, (x.1.2.2.2.2.2.2.1, (x.1.2.2.2.2.2.2.2.1, (x.1.2.2.2.2.2.2.2.2.1, (x.1.2.2.2.2.2.2.2.2.2.1, (x.1.2.2.2.2.2.2.2.2.2.2.1, (x.1.2.2.2.2.2.2.2.2.2.2.2.1, (x.1.2.2.2.2.2.2.2.2.2.2.2.2.1, (x.2.1.1, (x.2.1.2.1, (x.2.1.2.2.1, ())))))))))))))))), ((0 : Int), ()))) (⟨0, fun i => ((0 : Int), ((0 : Int), ()))⟩ : Sl (Ty.den T1))).n) then l none else l none else l none else l none else l none else l none else l none
theorem q103 (x : (a103).den) : runFn Try.prog E0 G103 Try.f103 l103 a103 r103 x = Q103 .leaf .any x := by kernel_rfl
def M103 (x : (a103).den) : Option (r103).den := Q103 (fun r => r) (fun _ _ => none) x
theorem m103 (x : (a103).den) : (runFn Try.prog E0 G103 Try.f103 l103 a103 r103 x).sure = M103 x := by rw [q103]; unfold M103 Q103; simp only [sure_cond, Tree.sure]
def p103 (x : (a103).den) : Bool := (M103 x).isSome
def v103 (x : (a103).den) : (r103).den := (M103 x).getD (r103).dflt
def k103 : Con := ⟨a103, r103, p103, v103⟩
theorem h103 : Holds Try.prog 103 k103 := holds_of_M' (E := E0) follows_ok g103 eqTy_sound keyTy_sound at103 bd103 (by kernel_rfl) m103 fun G' hlo hF hE => LsOK_kn (by rw [lo103]; exact .nil)
/-- isobar/kite.Play -/
noncomputable def c58 : Code := Try.f58.body.getD .skip
theorem at58 : Try.prog.funcs[58]? = some Try.f58 := by kernel_rfl
theorem bd58 : Try.f58.body = some c58 := by kernel_rfl
theorem cl58 : Callable Try.prog 58 := callable_of at58 (by kernel_rfl) (by kernel_rfl)
abbrev a58 : Ty := T112
abbrev r58 : Ty := T8
noncomputable def G58 : Ctx := Ctx.of [(95, .pure k95), (96, .pure k96), (103, .pure k103)]
theorem g58 : Sound Try.prog (G58) := sound_of (List.forall_mem_cons.2 ⟨⟨cl95, h95⟩, List.forall_mem_cons.2 ⟨⟨cl96, h96⟩, List.forall_mem_cons.2 ⟨⟨cl103, h103⟩, fun _ h => by cases h⟩⟩⟩)
theorem lo58 : loopsOf (c58) = [] := by kernel_rfl
noncomputable def l58 : List Loop := []
def Q58 {α : Type} (l : Option (r58).den → α) (an : α → α → α) (x : (a58).den) : α := bif (p103 (x.1, (x.2.1, ()))) then bif (!(v103 (x.1, (x.2.1, ()))).2.1) then l (some ((0 : Int), ((0 : Int), ((0 : Int), ((2 : Int), ()))))) else bif (p95 ((v103 (x.1, (x.2.1, ()))).1, (x.2.1.2.2.2.1, ()))) then bif (p95 ((v103 (x.1, (x.2.1, ()))).1, x.2.1.2.2.2.2)) then bif (p96 ((v103 (x.1, (x.2.1, ()))).1, ())) then l (some ((v95 ((v103 (x.1, (x.2.1, ()))).1, (x.2.1.2.2.2.1, ()))).1, ((v95 ((v103 (x.1, (x.2.1, ()))).1, x.2.1.2.2.2.2)).1, ((v96 ((v103 (x.1, (x.2.1, ()))).1, ())).1, ((0 : Int), ()))))) else l none else l none else l none else l none
theorem q58 (x : (a58).den) : runFn Try.prog E0 G58 Try.f58 l58 a58 r58 x = Q58 .leaf .any x := by kernel_rfl
def M58 (x : (a58).den) : Option (r58).den := Q58 (fun r => r) (fun _ _ => none) x
theorem m58 (x : (a58).den) : (runFn Try.prog E0 G58 Try.f58 l58 a58 r58 x).sure = M58 x := by rw [q58]; unfold M58 Q58; simp only [sure_cond, Tree.sure]
def p58 (x : (a58).den) : Bool := (M58 x).isSome
def v58 (x : (a58).den) : (r58).den := (M58 x).getD (r58).dflt
def k58 : Con := ⟨a58, r58, p58, v58⟩
theorem h58 : Holds Try.prog 58 k58 := holds_of_M' (E := E0) follows_ok g58 eqTy_sound keyTy_sound at58 bd58 (by kernel_rfl) m58 fun G' hlo hF hE => LsOK_kn (by rw [lo58]; exact .nil)
/-- isobar/kite.Fits -/
noncomputable def c60 : Code := Try.f60.body.getD .skip
theorem at60 : Try.prog.funcs[60]? = some Try.f60 := by kernel_rfl
theorem bd60 : Try.f60.body = some c60 := by kernel_rfl
theorem cl60 : Callable Try.prog 60 := callable_of at60 (by kernel_rfl) (by kernel_rfl)
abbrev T125 : Ty := (.cons .bool T0)
abbrev a60 : Ty := T112
abbrev r60 : Ty := T125
noncomputable def G60 : Ctx := Ctx.of [(73, .pure k73), (95, .pure k95), (96, .pure k96), (103, .pure k103)]
theorem g60 : Sound Try.prog (G60) := sound_of (List.forall_mem_cons.2 ⟨⟨cl73, h73⟩, List.forall_mem_cons.2 ⟨⟨cl95, h95⟩, List.forall_mem_cons.2 ⟨⟨cl96, h96⟩, List.forall_mem_cons.2 ⟨⟨cl103, h103⟩, fun _ h => by cases h⟩⟩⟩⟩)
theorem lo60 : loopsOf (c60) = [] := by kernel_rfl
noncomputable def l60 : List Loop := []
def Q60 {α : Type} (l : Option (r60).den → α) (an : α → α → α) (x : (a60).den) : α := bif (p103 (x.1, (x.2.1, ()))) then bif (!(v103 (x.1, (x.2.1, ()))).2.1) then l (some (false, ((2 : Int), ()))) else bif (p95 ((v103 (x.1, (x.2.1, ()))).1, (x.2.1.2.2.2.1, ()))) then bif (p73 ((v95 ((v103 (x.1, (x.2.1, ()))).1, (x.2.1.2.2.2.1, ()))).1, ((x.1.2.2.2.2.2.2.2.1, (x.1.2.2.2.2.2.2.2.2.1, ())), ()))) then bif (v73 ((v95 ((v103 (x.1, (x.2.1, ()))).1, (x.2.1.2.2.2.1, ()))).1, ((x.1.2.2.2.2.2.2.2.1, (x.1.2.2.2.2.2.2.2.2.1, ())), ()))).1 then bif (p95 ((v103 (x.1, (x.2.1, ()))).1, x.2.1.2.2.2.2)) then bif (p73 ((v95 ((v103 (x.1, (x.2.1, ()))).1, x.2.1.2.2.2.2)).1, ((x.1.2.2.2.2.2.2.2.2.2.1, (x.1.2.2.2.2.2.2.2.2.2.2.1, ())), ()))) then bif (v73 ((v95 ((v103 (x.1, (x.2.1, ()))).1, x.2.1.2.2.2.2)).1, ((x.1.2.2.2.2.2.2.2.2.2.1, (x.1.2.2.2.2.2.2.2.2.2.2.1, ())), ()))).1 then bif (p96 ((v103 (x.1, (x.2.1, ()))).1, ())) then bif (p73 ((v96 ((v103 (x.1, (x.2.1, ()))).1, ())).1, (x.1.2.2.2.2.2.2.2.2.2.2.2, ()))) then l (some ((v73 ((v96 ((v103 (x.1, (x.2.1, ()))).1, ())).1, (x.1.2.2.2.2.2.2.2.2.2.2.2, ()))).1, ((0 : Int), ()))) else l none else l none else l (some (false, ((0 : Int), ()))) else l none else l none else l (some (false, ((0 : Int), ()))) else l none else l none else l none
theorem q60 (x : (a60).den) : runFn Try.prog E0 G60 Try.f60 l60 a60 r60 x = Q60 .leaf .any x := by kernel_rfl
def M60 (x : (a60).den) : Option (r60).den := Q60 (fun r => r) (fun _ _ => none) x
theorem m60 (x : (a60).den) : (runFn Try.prog E0 G60 Try.f60 l60 a60 r60 x).sure = M60 x := by rw [q60]; unfold M60 Q60; simp only [sure_cond, Tree.sure]
def p60 (x : (a60).den) : Bool := (M60 x).isSome
def v60 (x : (a60).den) : (r60).den := (M60 x).getD (r60).dflt
def k60 : Con := ⟨a60, r60, p60, v60⟩
theorem h60 : Holds Try.prog 60 k60 := holds_of_M' (E := E0) follows_ok g60 eqTy_sound keyTy_sound at60 bd60 (by kernel_rfl) m60 fun G' hlo hF hE => LsOK_kn (by rw [lo60]; exact .nil)
/-- isobar/isobarlaw07.brief -/
noncomputable def c21 : Code := Try.f21.body.getD .skip
theorem at21 : Try.prog.funcs[21]? = some Try.f21 := by kernel_rfl
theorem bd21 : Try.f21.body = some c21 := by kernel_rfl
theorem cl21 : Callable Try.prog 21 := callable_of at21 (by kernel_rfl) (by kernel_rfl)
abbrev a21 : Ty := T40
abbrev r21 : Ty := T3
noncomputable def G21 : Ctx := Ctx.of []
theorem g21 : Sound Try.prog (G21) := sound_of (fun _ h => by cases h)
theorem lo21 : loopsOf (c21) = [] := by kernel_rfl
noncomputable def l21 : List Loop := []
def Q21 {α : Type} (l : Option (r21).den → α) (an : α → α → α) (x : (a21).den) : α := l (some ((decide (((x.1.2.2.1.n : Nat) : Int) ≤ (11 : Int))), ()))
theorem q21 (x : (a21).den) : runFn Try.prog E0 G21 Try.f21 l21 a21 r21 x = Q21 .leaf .any x := by kernel_rfl
def M21 (x : (a21).den) : Option (r21).den := Q21 (fun r => r) (fun _ _ => none) x
theorem m21 (x : (a21).den) : (runFn Try.prog E0 G21 Try.f21 l21 a21 r21 x).sure = M21 x := by rw [q21]; unfold M21 Q21; simp only [sure_cond, Tree.sure]
def p21 (x : (a21).den) : Bool := (M21 x).isSome
def v21 (x : (a21).den) : (r21).den := (M21 x).getD (r21).dflt
def k21 : Con := ⟨a21, r21, p21, v21⟩
theorem h21 : Holds Try.prog 21 k21 := holds_of_M' (E := E0) follows_ok g21 eqTy_sound keyTy_sound at21 bd21 (by kernel_rfl) m21 fun G' hlo hF hE => LsOK_kn (by rw [lo21]; exact .nil)
/-- isobar/isobarlaw07.short -/
noncomputable def c27 : Code := Try.f27.body.getD .skip
theorem at27 : Try.prog.funcs[27]? = some Try.f27 := by kernel_rfl
theorem bd27 : Try.f27.body = some c27 := by kernel_rfl
theorem cl27 : Callable Try.prog 27 := callable_of at27 (by kernel_rfl) (by kernel_rfl)
abbrev a27 : Ty := T43
abbrev r27 : Ty := T3
noncomputable def G27 : Ctx := Ctx.of []
theorem g27 : Sound Try.prog (G27) := sound_of (fun _ h => by cases h)
theorem lo27 : loopsOf (c27) = [] := by kernel_rfl
noncomputable def l27 : List Loop := []
def Q27 {α : Type} (l : Option (r27).den → α) (an : α → α → α) (x : (a27).den) : α := l (some ((decide (((x.1.1.n : Nat) : Int) ≤ (7 : Int))), ()))
theorem q27 (x : (a27).den) : runFn Try.prog E0 G27 Try.f27 l27 a27 r27 x = Q27 .leaf .any x := by kernel_rfl
def M27 (x : (a27).den) : Option (r27).den := Q27 (fun r => r) (fun _ _ => none) x
theorem m27 (x : (a27).den) : (runFn Try.prog E0 G27 Try.f27 l27 a27 r27 x).sure = M27 x := by rw [q27]; unfold M27 Q27; simp only [sure_cond, Tree.sure]
def p27 (x : (a27).den) : Bool := (M27 x).isSome
def v27 (x : (a27).den) : (r27).den := (M27 x).getD (r27).dflt
def k27 : Con := ⟨a27, r27, p27, v27⟩
theorem h27 : Holds Try.prog 27 k27 := holds_of_M' (E := E0) follows_ok g27 eqTy_sound keyTy_sound at27 bd27 (by kernel_rfl) m27 fun G' hlo hF hE => LsOK_kn (by rw [lo27]; exact .nil)
/-- isobar/isobarlaw07.sized -/
noncomputable def c56 : Code := Try.f56.body.getD .skip
theorem at56 : Try.prog.funcs[56]? = some Try.f56 := by kernel_rfl
theorem bd56 : Try.f56.body = some c56 := by kernel_rfl
theorem cl56 : Callable Try.prog 56 := callable_of at56 (by kernel_rfl) (by kernel_rfl)
abbrev a56 : Ty := T108
abbrev r56 : Ty := T3
noncomputable def G56 : Ctx := Ctx.of []
theorem g56 : Sound Try.prog (G56) := sound_of (fun _ h => by cases h)
theorem lo56 : loopsOf (c56) = [] := by kernel_rfl
noncomputable def l56 : List Loop := []
def Q56 {α : Type} (l : Option (r56).den → α) (an : α → α → α) (x : (a56).den) : α := bif (decide (((x.1.2.2.2.1.n : Nat) : Int) ≤ (7 : Int))) then l (some ((decide (((x.1.2.2.2.2.1.n : Nat) : Int) ≤ (7 : Int))), ())) else l (some (false, ()))
theorem q56 (x : (a56).den) : runFn Try.prog E0 G56 Try.f56 l56 a56 r56 x = Q56 .leaf .any x := by kernel_rfl
def M56 (x : (a56).den) : Option (r56).den := Q56 (fun r => r) (fun _ _ => none) x
theorem m56 (x : (a56).den) : (runFn Try.prog E0 G56 Try.f56 l56 a56 r56 x).sure = M56 x := by rw [q56]; unfold M56 Q56; simp only [sure_cond, Tree.sure]
def p56 (x : (a56).den) : Bool := (M56 x).isSome
def v56 (x : (a56).den) : (r56).den := (M56 x).getD (r56).dflt
def k56 : Con := ⟨a56, r56, p56, v56⟩
theorem h56 : Holds Try.prog 56 k56 := holds_of_M' (E := E0) follows_ok g56 eqTy_sound keyTy_sound at56 bd56 (by kernel_rfl) m56 fun G' hlo hF hE => LsOK_kn (by rw [lo56]; exact .nil)
/-- isobar/isobarlaw07.end -/
noncomputable def c59 : Code := Try.f59.body.getD .skip
theorem at59 : Try.prog.funcs[59]? = some Try.f59 := by kernel_rfl
theorem bd59 : Try.f59.body = some c59 := by kernel_rfl
theorem cl59 : Callable Try.prog 59 := callable_of at59 (by kernel_rfl) (by kernel_rfl)
abbrev T126 : Ty := (.cons tI T89)
abbrev T127 : Ty := (.cons tI T126)
abbrev T128 : Ty := (.cons T42 T127)
abbrev a59 : Ty := T128
abbrev r59 : Ty := T108
noncomputable def G59 : Ctx := Ctx.of []
theorem g59 : Sound Try.prog (G59) := sound_of (fun _ h => by cases h)
noncomputable def b59x0 : Code := loopBody ((loopsOf (c59))[0]?)
theorem lo59x0 : loopsOf (b59x0) = [] := by kernel_rfl
abbrev cs59x0 : List Pat := [.slot 4 (.pc .bool), .slot 5 (.ptr 5), .slot 10 (.ptr 10), .slot 11 (.ptr 75), .box 5 [.pc (.sl T9), .pc tI, .pc tI, .pc tI, .pc tI, .pc tI, .pc tI, .pc tI, .pc tI, .pc tI, .pc tI, .pc tI, .pc tI], .box 10 [.pc tI, .pc tI, .pc tI, .own 1011003 3 T0, .own 1011004 3 T0]]
abbrev vs59x0 : List Pat := [.slot 12 (.pc tI), .box 75 [.pc tI, .pc tI, .pc tI, .own 1076003 3 T0, .own 1076004 3 T0]]
abbrev ps59x0 : List Pat := [.slot 4 (.pc .bool), .slot 5 (.ptr 5), .slot 10 (.ptr 10), .slot 11 (.ptr 75), .box 5 [.pc (.sl T9), .pc tI, .pc tI, .pc tI, .pc tI, .pc tI, .pc tI, .pc tI, .pc tI, .pc tI, .pc tI, .pc tI, .pc tI], .box 10 [.pc tI, .pc tI, .pc tI, .own 1011003 3 T0, .own 1011004 3 T0], .slot 12 (.pc tI), .box 75 [.pc tI, .pc tI, .pc tI, .own 1076003 3 T0, .own 1076004 3 T0]]
def j59x0 : (patsTy cs59x0).den → (patsTy vs59x0).den → (patsTy ps59x0).den := fun c v => (c.1, (c.2.1, (c.2.2.1, (c.2.2.2.1, (c.2.2.2.2.1, (c.2.2.2.2.2.1, v))))))
def sp59x0 : (patsTy ps59x0).den → (patsTy cs59x0).den × (patsTy vs59x0).den := fun x => ((x.1, (x.2.1, (x.2.2.1, (x.2.2.2.1, (x.2.2.2.2.1, (x.2.2.2.2.2.1, ())))))), x.2.2.2.2.2.2)
abbrev wy59x0 : Ways := ⟨[(0, [.slot 10 (.ptr 10), .slot 11 (.ptr 75), .box 10 [.pc tI, .pc tI, .pc tI, .own 1011003 3 T0, .own 1011004 3 T0], .box 75 [.pc tI, .pc tI, .pc tI, .own 1076003 3 T0, .own 1076004 3 T0]])], [], []⟩
abbrev wv59x0 : Ways := ⟨[(0, [.box 75 [.pc tI, .pc tI, .pc tI, .own 1076003 3 T0, .own 1076004 3 T0]])], [], []⟩
def je59x0 : (id : Nat) → (patsTy cs59x0).den → (patsTy (wayP wv59x0 id)).den → (patsTy (wayP wy59x0 id)).den := fun id => match id with | 0 => fun c y => (c.2.2.1, (c.2.2.2.1, (c.2.2.2.2.2.1, y))) | id => fun _ _ => (patsTy (wayP wy59x0 id)).dflt
def jr59x0 : (patsTy cs59x0).den → (patsTy (wv59x0).ret).den → (patsTy (wy59x0).ret).den := fun c y => y
def Z59x0 {α : Type} (l : RQ vs59x0 wv59x0 → α) (an : α → α → α) (c : (patsTy cs59x0).den) (v : (patsTy vs59x0).den) : α := bif (decide (v.1 < ((c.2.2.2.2.1.1.n : Nat) : Int))) then bif (decide (((0 : Int) ≤ v.1) ∧ (v.1 < ((c.2.2.2.2.1.1.n : Nat) : Int)))) then bif c.1 then bif (decide (((v.2.1.2.2.2.1.n + 1) * 8) ≤ 140737488355328)) then bif (decide (((v.2.1.2.2.2.2.1.n + 1) * 8) ≤ 140737488355328)) then l (.next ((W (v.1 + (1 : Int))), ((v.2.1.1, (v.2.1.2.1, (v.2.1.2.2.1, ((catSl v.2.1.2.2.2.1 (⟨1, fun i => List.getD [((c.2.2.2.2.1.1.g (Int.toNat v.1)).2.2.1, ())] i ((c.2.2.2.2.1.1.g (Int.toNat v.1)).2.2.1, ())⟩ : Sl (Ty.den T0))), ((catSl v.2.1.2.2.2.2.1 (⟨1, fun i => List.getD [(c.2.2.2.2.1.1.g (Int.toNat v.1)).2.2.2.2] i (c.2.2.2.2.1.1.g (Int.toNat v.1)).2.2.2.2⟩ : Sl (Ty.den T0))), ()))))), ()))) else l .bad else l .bad else bif (decide (((v.2.1.2.2.2.1.n + 1) * 8) ≤ 140737488355328)) then bif (decide (((v.2.1.2.2.2.2.1.n + 1) * 8) ≤ 140737488355328)) then l (.next ((W (v.1 + (1 : Int))), ((v.2.1.1, (v.2.1.2.1, (v.2.1.2.2.1, ((catSl v.2.1.2.2.2.1 (⟨1, fun i => List.getD [((c.2.2.2.2.1.1.g (Int.toNat v.1)).2.1, ())] i ((c.2.2.2.2.1.1.g (Int.toNat v.1)).2.1, ())⟩ : Sl (Ty.den T0))), ((catSl v.2.1.2.2.2.2.1 (⟨1, fun i => List.getD [((c.2.2.2.2.1.1.g (Int.toNat v.1)).2.2.2.1, ())] i ((c.2.2.2.2.1.1.g (Int.toNat v.1)).2.2.2.1, ())⟩ : Sl (Ty.den T0))), ()))))), ()))) else l .bad else l .bad else l .bad else l (.out (.exit 0 (v.2.1, ())))
theorem z59x0 (c : (patsTy cs59x0).den) (v : (patsTy vs59x0).den) : roundQ Try.prog E0 G59 0 64 [] ps59x0 wy59x0 b59x0 [] (j59x0 c v) = Z59x0 (fun r => .leaf (r.lift j59x0 je59x0 jr59x0 c)) .any c v := by kernel_rfl
def S59x0 (c : (patsTy cs59x0).den) (v : (patsTy vs59x0).den) : RQ vs59x0 wv59x0 := Z59x0 (fun r => r) (fun _ _ => .bad) c v
theorem s59x0 (c : (patsTy cs59x0).den) (v : (patsTy vs59x0).den) : detQ (roundQ Try.prog E0 G59 0 64 [] ps59x0 wy59x0 b59x0 [] (j59x0 c v)) = (S59x0 c v).lift j59x0 je59x0 jr59x0 c := by rw [z59x0]; unfold S59x0 Z59x0; simp only [detQ_cond, lift_cond, lift_bad, detQ]
def L59x0 (c : (patsTy cs59x0).den) (v : (patsTy vs59x0).den) : LQ wv59x0 := iterQ (S59x0 c) big v
theorem lo59 : loopsOf (c59) = [.loop b59x0] := by kernel_rfl
noncomputable def l59 : List Loop := [.known (loopF 0 [] ps59x0 fun x => spreadV wy59x0 je59x0 jr59x0 false (sp59x0 x).1 (L59x0 (sp59x0 x).1 (sp59x0 x).2) wy59x0.exits)]
def Q59 {α : Type} (l : Option (r59).den → α) (an : α → α → α) (x : (a59).den) : α := bif (LQ.isExit (L59x0 (x.2.2.2.2.1, ((), ((), ((), (x.1, (((0 : Int), ((0 : Int), ((0 : Int), ((⟨0, fun i => ((0 : Int), ())⟩ : Sl _), ((⟨0, fun i => ((0 : Int), ())⟩ : Sl _), ()))))), ())))))) ((0 : Int), ((x.2.1, (x.2.2.1, (x.2.2.2.1, ((⟨0, fun i => ((0 : Int), ())⟩ : Sl _), ((⟨0, fun i => ((0 : Int), ())⟩ : Sl _), ()))))), ()))) 0) then l (some ((LQ.getExit (L59x0 (x.2.2.2.2.1, ((), ((), ((), (x.1, (((0 : Int), ((0 : Int), ((0 : Int), ((⟨0, fun i => ((0 : Int), ())⟩ : Sl _), ((⟨0, fun i => ((0 : Int), ())⟩ : Sl _), ()))))), ())))))) ((0 : Int), ((x.2.1, (x.2.2.1, (x.2.2.2.1, ((⟨0, fun i => ((0 : Int), ())⟩ : Sl _), ((⟨0, fun i => ((0 : Int), ())⟩ : Sl _), ()))))), ()))) 0).1, ())) else l none
theorem q59 (x : (a59).den) : runFn Try.prog E0 G59 Try.f59 l59 a59 r59 x = Q59 .leaf .any x := by kernel_rfl
def M59 (x : (a59).den) : Option (r59).den := Q59 (fun r => r) (fun _ _ => none) x
theorem m59 (x : (a59).den) : (runFn Try.prog E0 G59 Try.f59 l59 a59 r59 x).sure = M59 x := by rw [q59]; unfold M59 Q59; simp only [sure_cond, Tree.sure]
def p59 (x : (a59).den) : Bool := (M59 x).isSome
def v59 (x : (a59).den) : (r59).den := (M59 x).getD (r59).dflt
def k59 : Con := ⟨a59, r59, p59, v59⟩
theorem h59 : Holds Try.prog 59 k59 := holds_of_M' (E := E0) follows_ok g59 eqTy_sound keyTy_sound at59 bd59 (by kernel_rfl) m59 fun G' hlo hF hE => LsOK_kn (by rw [lo59]; exact .cons (loopV_ok hE hF hlo (LsOK_kn (by rw [lo59x0]; exact .nil)) (by kernel_rfl) (by kernel_rfl) sp59x0 (fun _ => rfl) (fun _ _ => rfl) (s59x0) big) (.nil))
/-- isobar/isobarlaw07.of -/
noncomputable def c62 : Code := Try.f62.body.getD .skip
theorem at62 : Try.prog.funcs[62]? = some Try.f62 := by kernel_rfl
theorem bd62 : Try.f62.body = some c62 := by kernel_rfl
theorem cl62 : Callable Try.prog 62 := callable_of at62 (by kernel_rfl) (by kernel_rfl)
abbrev T129 : Ty := (.cons T71 T89)
abbrev a62 : Ty := T129
abbrev r62 : Ty := T0
noncomputable def G62 : Ctx := Ctx.of []
theorem g62 : Sound Try.prog (G62) := sound_of (fun _ h => by cases h)
theorem lo62 : loopsOf (c62) = [] := by kernel_rfl
noncomputable def l62 : List Loop := []
def Q62 {α : Type} (l : Option (r62).den → α) (an : α → α → α) (x : (a62).den) : α := bif x.2.2.1 then bif (decide (((0 : Int) ≤ x.2.1) ∧ (x.2.1 < ((x.1.2.2.2.2.1.n : Nat) : Int)))) then l (some (x.1.2.2.2.2.1.g (Int.toNat x.2.1))) else l none else bif (decide (((0 : Int) ≤ x.2.1) ∧ (x.2.1 < ((x.1.2.2.2.1.n : Nat) : Int)))) then l (some (x.1.2.2.2.1.g (Int.toNat x.2.1))) else l none
theorem q62 (x : (a62).den) : runFn Try.prog E0 G62 Try.f62 l62 a62 r62 x = Q62 .leaf .any x := by kernel_rfl
def M62 (x : (a62).den) : Option (r62).den := Q62 (fun r => r) (fun _ _ => none) x
theorem m62 (x : (a62).den) : (runFn Try.prog E0 G62 Try.f62 l62 a62 r62 x).sure = M62 x := by rw [q62]; unfold M62 Q62; simp only [sure_cond, Tree.sure]
def p62 (x : (a62).den) : Bool := (M62 x).isSome
def v62 (x : (a62).den) : (r62).den := (M62 x).getD (r62).dflt
def k62 : Con := ⟨a62, r62, p62, v62⟩
theorem h62 : Holds Try.prog 62 k62 := holds_of_M' (E := E0) follows_ok g62 eqTy_sound keyTy_sound at62 bd62 (by kernel_rfl) m62 fun G' hlo hF hE => LsOK_kn (by rw [lo62]; exact .nil)
/-- isobar/isobarlaw07.part -/
noncomputable def c39 : Code := Try.f39.body.getD .skip
theorem at39 : Try.prog.funcs[39]? = some Try.f39 := by kernel_rfl
theorem bd39 : Try.f39.body = some c39 := by kernel_rfl
theorem cl39 : Callable Try.prog 39 := callable_of at39 (by kernel_rfl) (by kernel_rfl)
abbrev a39 : Ty := T5
abbrev r39 : Ty := T6
noncomputable def G39 : Ctx := Ctx.of [(46, .pure k46)]
theorem g39 : Sound Try.prog (G39) := sound_of (List.forall_mem_cons.2 ⟨⟨cl46, h46⟩, fun _ h => by cases h⟩)
theorem lo39 : loopsOf (c39) = [] := by kernel_rfl
noncomputable def l39 : List Loop := []
def Q39 {α : Type} (l : Option (r39).den → α) (an : α → α → α) (x : (a39).den) : α := bif (p46 ((W (x.1.1 + (W (Int.tdiv (W ((W (x.1.2.1 - x.1.1)) * x.2.1)) (100 : Int))))), ((W (x.1.1 + (W (Int.tdiv (W ((W (x.1.2.1 - x.1.1)) * x.2.2.1)) (100 : Int))))), ()))) then l (some ((v46 ((W (x.1.1 + (W (Int.tdiv (W ((W (x.1.2.1 - x.1.1)) * x.2.1)) (100 : Int))))), ((W (x.1.1 + (W (Int.tdiv (W ((W (x.1.2.1 - x.1.1)) * x.2.2.1)) (100 : Int))))), ()))).1, ())) else l none
theorem q39 (x : (a39).den) : runFn Try.prog E0 G39 Try.f39 l39 a39 r39 x = Q39 .leaf .any x := by kernel_rfl
def M39 (x : (a39).den) : Option (r39).den := Q39 (fun r => r) (fun _ _ => none) x
theorem m39 (x : (a39).den) : (runFn Try.prog E0 G39 Try.f39 l39 a39 r39 x).sure = M39 x := by rw [q39]; unfold M39 Q39; simp only [sure_cond, Tree.sure]
def p39 (x : (a39).den) : Bool := (M39 x).isSome
def v39 (x : (a39).den) : (r39).den := (M39 x).getD (r39).dflt
def k39 : Con := ⟨a39, r39, p39, v39⟩
theorem h39 : Holds Try.prog 39 k39 := holds_of_M' (E := E0) follows_ok g39 eqTy_sound keyTy_sound at39 bd39 (by kernel_rfl) m39 fun G' hlo hF hE => LsOK_kn (by rw [lo39]; exact .nil)
/-- isobar/isobarlaw07.inner -/
noncomputable def c41 : Code := Try.f41.body.getD .skip
theorem at41 : Try.prog.funcs[41]? = some Try.f41 := by kernel_rfl
theorem bd41 : Try.f41.body = some c41 := by kernel_rfl
theorem cl41 : Callable Try.prog 41 := callable_of at41 (by kernel_rfl) (by kernel_rfl)
abbrev T130 : Ty := (.cons T4 T6)
abbrev a41 : Ty := T130
abbrev r41 : Ty := T3
noncomputable def G41 : Ctx := Ctx.of []
theorem g41 : Sound Try.prog (G41) := sound_of (fun _ h => by cases h)
theorem lo41 : loopsOf (c41) = [] := by kernel_rfl
noncomputable def l41 : List Loop := []
def Q41 {α : Type} (l : Option (r41).den → α) (an : α → α → α) (x : (a41).den) : α := bif (decide (x.2.1.1 ≤ x.1.1)) then l (some ((decide (x.1.2.1 ≤ x.2.1.2.1)), ())) else l (some (false, ()))
theorem q41 (x : (a41).den) : runFn Try.prog E0 G41 Try.f41 l41 a41 r41 x = Q41 .leaf .any x := by kernel_rfl
def M41 (x : (a41).den) : Option (r41).den := Q41 (fun r => r) (fun _ _ => none) x
theorem m41 (x : (a41).den) : (runFn Try.prog E0 G41 Try.f41 l41 a41 r41 x).sure = M41 x := by rw [q41]; unfold M41 Q41; simp only [sure_cond, Tree.sure]
def p41 (x : (a41).den) : Bool := (M41 x).isSome
def v41 (x : (a41).den) : (r41).den := (M41 x).getD (r41).dflt
def k41 : Con := ⟨a41, r41, p41, v41⟩
theorem h41 : Holds Try.prog 41 k41 := holds_of_M' (E := E0) follows_ok g41 eqTy_sound keyTy_sound at41 bd41 (by kernel_rfl) m41 fun G' hlo hF hE => LsOK_kn (by rw [lo41]; exact .nil)
/-- isobar/isobarlaw07.asked -/
noncomputable def c29 : Code := Try.f29.body.getD .skip
theorem at29 : Try.prog.funcs[29]? = some Try.f29 := by kernel_rfl
theorem bd29 : Try.f29.body = some c29 := by kernel_rfl
theorem cl29 : Callable Try.prog 29 := callable_of at29 (by kernel_rfl) (by kernel_rfl)
abbrev a29 : Ty := T114
abbrev r29 : Ty := T0
noncomputable def G29 : Ctx := Ctx.of [(34, .pure k34), (38, .pure k38)]
theorem g29 : Sound Try.prog (G29) := sound_of (List.forall_mem_cons.2 ⟨⟨cl34, h34⟩, List.forall_mem_cons.2 ⟨⟨cl38, h38⟩, fun _ h => by cases h⟩⟩)
theorem lo29 : loopsOf (c29) = [] := by kernel_rfl
noncomputable def l29 : List Loop := []
def Q29 {α : Type} (l : Option (r29).den → α) (an : α → α → α) (x : (a29).den) : α := bif (p38 (x.1, ())) then bif (!(v38 (x.1, ())).1) then l (some ((2 : Int), ())) else bif (!x.2.1) then l (some ((2 : Int), ())) else bif (p34 (x.1, ())) then bif (!(v34 (x.1, ())).2.1) then l (some ((7 : Int), ())) else l (some ((0 : Int), ())) else l none else l none
theorem q29 (x : (a29).den) : runFn Try.prog E0 G29 Try.f29 l29 a29 r29 x = Q29 .leaf .any x := by kernel_rfl
def M29 (x : (a29).den) : Option (r29).den := Q29 (fun r => r) (fun _ _ => none) x
theorem m29 (x : (a29).den) : (runFn Try.prog E0 G29 Try.f29 l29 a29 r29 x).sure = M29 x := by rw [q29]; unfold M29 Q29; simp only [sure_cond, Tree.sure]
def p29 (x : (a29).den) : Bool := (M29 x).isSome
def v29 (x : (a29).den) : (r29).den := (M29 x).getD (r29).dflt
def k29 : Con := ⟨a29, r29, p29, v29⟩
theorem h29 : Holds Try.prog 29 k29 := holds_of_M' (E := E0) follows_ok g29 eqTy_sound keyTy_sound at29 bd29 (by kernel_rfl) m29 fun G' hlo hF hE => LsOK_kn (by rw [lo29]; exact .nil)
/-- isobar/isobarlaw07.KiteHeights -/
noncomputable def c3 : Code := Try.f3.body.getD .skip
theorem at3 : Try.prog.funcs[3]? = some Try.f3 := by kernel_rfl
theorem bd3 : Try.f3.body = some c3 := by kernel_rfl
theorem cl3 : Callable Try.prog 3 := callable_of at3 (by kernel_rfl) (by kernel_rfl)
abbrev a3 : Ty := T12
abbrev r3 : Ty := T3
noncomputable def G3 : Ctx := Ctx.of [(17, .pure k17), (18, .pure k18), (19, .pure k19), (20, .pure k20)]
theorem g3 : Sound Try.prog (G3) := sound_of (List.forall_mem_cons.2 ⟨⟨cl17, h17⟩, List.forall_mem_cons.2 ⟨⟨cl18, h18⟩, List.forall_mem_cons.2 ⟨⟨cl19, h19⟩, List.forall_mem_cons.2 ⟨⟨cl20, h20⟩, fun _ h => by cases h⟩⟩⟩⟩)
theorem lo3 : loopsOf (c3) = [] := by kernel_rfl
noncomputable def l3 : List Loop := []
def Q3 {α : Type} (l : Option (r3).den → α) (an : α → α → α) (x : (a3).den) : α := bif (p17 (x.1, ())) then bif (p18 (x.1, ())) then bif (!(v18 (x.1, ())).1) then bif (decide ((v17 (x.1, ())).2.1 = (2 : Int))) then bif ((decide ((v17 (x.1, ())).1.1 = (0 : Int))) && ((decide ((v17 (x.1, ())).1.2.1 = (0 : Int))) && true)) then bif (p19 ()) then l (some (v19 ())) else l none else l (some (false, ())) else l (some (false, ())) else bif (decide ((v17 (x.1, ())).2.1 = (0 : Int))) then bif (p20 (x.1, ())) then bif ((decide ((v17 (x.1, ())).1.1 = (v20 (x.1, ())).1.1)) && ((decide ((v17 (x.1, ())).1.2.1 = (v20 (x.1, ())).1.2.1)) && true)) then bif (p19 ()) then l (some (v19 ())) else l none else l (some (false, ())) else l none else l (some (false, ())) else l none else l none
theorem q3 (x : (a3).den) : runFn Try.prog E0 G3 Try.f3 l3 a3 r3 x = Q3 .leaf .any x := by kernel_rfl
def M3 (x : (a3).den) : Option (r3).den := Q3 (fun r => r) (fun _ _ => none) x
theorem m3 (x : (a3).den) : (runFn Try.prog E0 G3 Try.f3 l3 a3 r3 x).sure = M3 x := by rw [q3]; unfold M3 Q3; simp only [sure_cond, Tree.sure]
def p3 (x : (a3).den) : Bool := (M3 x).isSome
def v3 (x : (a3).den) : (r3).den := (M3 x).getD (r3).dflt
def k3 : Con := ⟨a3, r3, p3, v3⟩
theorem h3 : Holds Try.prog 3 k3 := holds_of_M' (E := E0) follows_ok g3 eqTy_sound keyTy_sound at3 bd3 (by kernel_rfl) m3 fun G' hlo hF hE => LsOK_kn (by rw [lo3]; exact .nil)
/-- isobar/isobarlaw07.KiteClimbs -/
noncomputable def c9 : Code := Try.f9.body.getD .skip
theorem at9 : Try.prog.funcs[9]? = some Try.f9 := by kernel_rfl
theorem bd9 : Try.f9.body = some c9 := by kernel_rfl
theorem cl9 : Callable Try.prog 9 := callable_of at9 (by kernel_rfl) (by kernel_rfl)
abbrev a9 : Ty := T35
abbrev r9 : Ty := T3
noncomputable def G9 : Ctx := Ctx.of [(18, .pure k18), (19, .pure k19), (42, .pure k42), (43, .pure k43), (44, .pure k44)]
theorem g9 : Sound Try.prog (G9) := sound_of (List.forall_mem_cons.2 ⟨⟨cl18, h18⟩, List.forall_mem_cons.2 ⟨⟨cl19, h19⟩, List.forall_mem_cons.2 ⟨⟨cl42, h42⟩, List.forall_mem_cons.2 ⟨⟨cl43, h43⟩, List.forall_mem_cons.2 ⟨⟨cl44, h44⟩, fun _ h => by cases h⟩⟩⟩⟩⟩)
theorem lo9 : loopsOf (c9) = [] := by kernel_rfl
noncomputable def l9 : List Loop := []
def Q9 {α : Type} (l : Option (r9).den → α) (an : α → α → α) (x : (a9).den) : α := bif (p42 (x.1, x.2)) then bif (p18 (x.1, ())) then bif (!(v18 (x.1, ())).1) then bif (decide ((v42 (x.1, x.2)).2.1 = (2 : Int))) then bif (decide ((v42 (x.1, x.2)).1 = (0 : Int))) then bif (p19 ()) then l (some (v19 ())) else l none else l (some (false, ())) else l (some (false, ())) else bif (p43 (x.1, x.2)) then bif (!(v43 (x.1, x.2)).1) then bif (decide ((v42 (x.1, x.2)).2.1 = (2 : Int))) then bif (decide ((v42 (x.1, x.2)).1 = (0 : Int))) then bif (p19 ()) then l (some (v19 ())) else l none else l (some (false, ())) else l (some (false, ())) else bif (decide ((v42 (x.1, x.2)).2.1 = (0 : Int))) then bif (p44 x.2) then bif (decide ((v42 (x.1, x.2)).1 = (v44 x.2).1)) then bif (p19 ()) then l (some (v19 ())) else l none else l (some (false, ())) else l none else l (some (false, ())) else l none else l none else l none
theorem q9 (x : (a9).den) : runFn Try.prog E0 G9 Try.f9 l9 a9 r9 x = Q9 .leaf .any x := by kernel_rfl
def M9 (x : (a9).den) : Option (r9).den := Q9 (fun r => r) (fun _ _ => none) x
theorem m9 (x : (a9).den) : (runFn Try.prog E0 G9 Try.f9 l9 a9 r9 x).sure = M9 x := by rw [q9]; unfold M9 Q9; simp only [sure_cond, Tree.sure]
def p9 (x : (a9).den) : Bool := (M9 x).isSome
def v9 (x : (a9).den) : (r9).den := (M9 x).getD (r9).dflt
def k9 : Con := ⟨a9, r9, p9, v9⟩
theorem h9 : Holds Try.prog 9 k9 := holds_of_M' (E := E0) follows_ok g9 eqTy_sound keyTy_sound at9 bd9 (by kernel_rfl) m9 fun G' hlo hF hE => LsOK_kn (by rw [lo9]; exact .nil)
/-- isobar/isobarlaw07.KiteHolds -/
noncomputable def c10 : Code := Try.f10.body.getD .skip
theorem at10 : Try.prog.funcs[10]? = some Try.f10 := by kernel_rfl
theorem bd10 : Try.f10.body = some c10 := by kernel_rfl
theorem cl10 : Callable Try.prog 10 := callable_of at10 (by kernel_rfl) (by kernel_rfl)
abbrev a10 : Ty := T35
abbrev r10 : Ty := T3
noncomputable def G10 : Ctx := Ctx.of [(17, .pure k17), (18, .pure k18), (19, .pure k19), (42, .pure k42), (43, .pure k43), (45, .pure k45), (46, .pure k46)]
theorem g10 : Sound Try.prog (G10) := sound_of (List.forall_mem_cons.2 ⟨⟨cl17, h17⟩, List.forall_mem_cons.2 ⟨⟨cl18, h18⟩, List.forall_mem_cons.2 ⟨⟨cl19, h19⟩, List.forall_mem_cons.2 ⟨⟨cl42, h42⟩, List.forall_mem_cons.2 ⟨⟨cl43, h43⟩, List.forall_mem_cons.2 ⟨⟨cl45, h45⟩, List.forall_mem_cons.2 ⟨⟨cl46, h46⟩, fun _ h => by cases h⟩⟩⟩⟩⟩⟩⟩)
theorem lo10 : loopsOf (c10) = [] := by kernel_rfl
noncomputable def l10 : List Loop := []
def Q10 {α : Type} (l : Option (r10).den → α) (an : α → α → α) (x : (a10).den) : α := bif (p18 (x.1, ())) then bif (!(v18 (x.1, ())).1) then bif (p19 ()) then l (some (v19 ())) else l none else bif (p43 (x.1, x.2)) then bif (!(v43 (x.1, x.2)).1) then bif (p19 ()) then l (some (v19 ())) else l none else bif (p17 (x.1, ())) then bif (p42 (x.1, x.2)) then bif (p42 (x.1, (x.1.1, (x.1.2.2.1, x.1.2.2.2.2.2)))) then bif (p42 (x.1, (x.1.2.1, (x.1.2.2.2.1, (x.1.2.2.2.2.1, ()))))) then bif (decide ((v17 (x.1, ())).2.1 = (0 : Int))) then bif (decide ((v42 (x.1, x.2)).2.1 = (0 : Int))) then bif (decide ((v42 (x.1, (x.1.1, (x.1.2.2.1, x.1.2.2.2.2.2)))).2.1 = (0 : Int))) then bif (decide ((v42 (x.1, (x.1.2.1, (x.1.2.2.2.1, (x.1.2.2.2.2.1, ()))))).2.1 = (0 : Int))) then bif (p45 ((v42 (x.1, x.2)).1, ((v17 (x.1, ())).1, ()))) then bif (v45 ((v42 (x.1, x.2)).1, ((v17 (x.1, ())).1, ()))).1 then bif (decide ((0 : Int) ≤ (v42 (x.1, x.2)).1)) then bif (decide ((v42 (x.1, x.2)).1 ≤ x.2.1)) then bif (p46 ((v42 (x.1, (x.1.1, (x.1.2.2.1, x.1.2.2.2.2.2)))).1, ((v42 (x.1, (x.1.2.1, (x.1.2.2.2.1, (x.1.2.2.2.2.1, ()))))).1, ()))) then bif ((decide ((v17 (x.1, ())).1.1 = (v46 ((v42 (x.1, (x.1.1, (x.1.2.2.1, x.1.2.2.2.2.2)))).1, ((v42 (x.1, (x.1.2.1, (x.1.2.2.2.1, (x.1.2.2.2.2.1, ()))))).1, ()))).1.1)) && ((decide ((v17 (x.1, ())).1.2.1 = (v46 ((v42 (x.1, (x.1.1, (x.1.2.2.1, x.1.2.2.2.2.2)))).1, ((v42 (x.1, (x.1.2.1, (x.1.2.2.2.1, (x.1.2.2.2.2.1, ()))))).1, ()))).1.2.1)) && true)) then bif (p19 ()) then l (some (v19 ())) else l none else l (some (false, ())) else l none else l (some (false, ())) else l (some (false, ())) else l (some (false, ())) else l none else l (some (false, ())) else l (some (false, ())) else l (some (false, ())) else l (some (false, ())) else l none else l none else l none else l none else l none else l none
theorem q10 (x : (a10).den) : runFn Try.prog E0 G10 Try.f10 l10 a10 r10 x = Q10 .leaf .any x := by kernel_rfl
def M10 (x : (a10).den) : Option (r10).den := Q10 (fun r => r) (fun _ _ => none) x
theorem m10 (x : (a10).den) : (runFn Try.prog E0 G10 Try.f10 l10 a10 r10 x).sure = M10 x := by rw [q10]; unfold M10 Q10; simp only [sure_cond, Tree.sure]
def p10 (x : (a10).den) : Bool := (M10 x).isSome
def v10 (x : (a10).den) : (r10).den := (M10 x).getD (r10).dflt
def k10 : Con := ⟨a10, r10, p10, v10⟩
theorem h10 : Holds Try.prog 10 k10 := holds_of_M' (E := E0) follows_ok g10 eqTy_sound keyTy_sound at10 bd10 (by kernel_rfl) m10 fun G' hlo hF hE => LsOK_kn (by rw [lo10]; exact .nil)
/-- isobar/isobarlaw07.KiteRises -/
noncomputable def c4 : Code := Try.f4.body.getD .skip
theorem at4 : Try.prog.funcs[4]? = some Try.f4 := by kernel_rfl
theorem bd4 : Try.f4.body = some c4 := by kernel_rfl
theorem cl4 : Callable Try.prog 4 := callable_of at4 (by kernel_rfl) (by kernel_rfl)
abbrev a4 : Ty := T46
abbrev r4 : Ty := T3
noncomputable def G4 : Ctx := Ctx.of [(19, .pure k19), (21, .pure k21), (22, .pure k22), (23, .pure k23), (24, .pure k24), (25, .pure k25), (26, .pure k26)]
theorem g4 : Sound Try.prog (G4) := sound_of (List.forall_mem_cons.2 ⟨⟨cl19, h19⟩, List.forall_mem_cons.2 ⟨⟨cl21, h21⟩, List.forall_mem_cons.2 ⟨⟨cl22, h22⟩, List.forall_mem_cons.2 ⟨⟨cl23, h23⟩, List.forall_mem_cons.2 ⟨⟨cl24, h24⟩, List.forall_mem_cons.2 ⟨⟨cl25, h25⟩, List.forall_mem_cons.2 ⟨⟨cl26, h26⟩, fun _ h => by cases h⟩⟩⟩⟩⟩⟩⟩)
theorem lo4 : loopsOf (c4) = [] := by kernel_rfl
noncomputable def l4 : List Loop := []
def Q4 {α : Type} (l : Option (r4).den → α) (an : α → α → α) (x : (a4).den) : α := bif (p21 (x.1, ())) then bif (!(v21 (x.1, ())).1) then bif (p19 ()) then l (some (v19 ())) else l none else bif (decide ((11 : Int) < ((x.2.2.1.n : Nat) : Int))) then bif (p19 ()) then l (some (v19 ())) else l none else bif (p22 (x.1, x.2)) then bif (p23 (x.1, ())) then bif (!(v23 (x.1, ())).1) then bif (decide ((v22 (x.1, x.2)).2.1 = (2 : Int))) then bif (decide ((((v22 (x.1, x.2)).1.n : Nat) : Int) = (0 : Int))) then bif (p19 ()) then l (some (v19 ())) else l none else l (some (false, ())) else l (some (false, ())) else bif (p24 (x.1, x.2)) then bif (!(v24 (x.1, x.2)).1) then bif (decide ((v22 (x.1, x.2)).2.1 = (2 : Int))) then bif (decide ((((v22 (x.1, x.2)).1.n : Nat) : Int) = (0 : Int))) then bif (p19 ()) then l (some (v19 ())) else l none else l (some (false, ())) else l (some (false, ())) else bif (decide ((v22 (x.1, x.2)).2.1 = (0 : Int))) then bif (p26 (x.1, x.2)) then bif (p25 ((v22 (x.1, x.2)).1, (v26 (x.1, x.2)))) then bif (v25 ((v22 (x.1, x.2)).1, (v26 (x.1, x.2)))).1 then bif (p19 ()) then l (some (v19 ())) else l none else l (some (false, ())) else l none else l none else l (some (false, ())) else l none else l none else l none else l none
theorem q4 (x : (a4).den) : runFn Try.prog E0 G4 Try.f4 l4 a4 r4 x = Q4 .leaf .any x := by kernel_rfl
def M4 (x : (a4).den) : Option (r4).den := Q4 (fun r => r) (fun _ _ => none) x
theorem m4 (x : (a4).den) : (runFn Try.prog E0 G4 Try.f4 l4 a4 r4 x).sure = M4 x := by rw [q4]; unfold M4 Q4; simp only [sure_cond, Tree.sure]
def p4 (x : (a4).den) : Bool := (M4 x).isSome
def v4 (x : (a4).den) : (r4).den := (M4 x).getD (r4).dflt
def k4 : Con := ⟨a4, r4, p4, v4⟩
theorem h4 : Holds Try.prog 4 k4 := holds_of_M' (E := E0) follows_ok g4 eqTy_sound keyTy_sound at4 bd4 (by kernel_rfl) m4 fun G' hlo hF hE => LsOK_kn (by rw [lo4]; exact .nil)
/-- isobar/isobarlaw07.KiteLevels -/
noncomputable def c12 : Code := Try.f12.body.getD .skip
theorem at12 : Try.prog.funcs[12]? = some Try.f12 := by kernel_rfl
theorem bd12 : Try.f12.body = some c12 := by kernel_rfl
theorem cl12 : Callable Try.prog 12 := callable_of at12 (by kernel_rfl) (by kernel_rfl)
abbrev a12 : Ty := T49
abbrev r12 : Ty := T3
noncomputable def G12 : Ctx := Ctx.of [(19, .pure k19), (21, .pure k21), (23, .pure k23), (40, .pure k40), (50, .pure k50), (51, .pure k51), (52, .pure k52), (53, .pure k53), (54, .pure k54)]
theorem g12 : Sound Try.prog (G12) := sound_of (List.forall_mem_cons.2 ⟨⟨cl19, h19⟩, List.forall_mem_cons.2 ⟨⟨cl21, h21⟩, List.forall_mem_cons.2 ⟨⟨cl23, h23⟩, List.forall_mem_cons.2 ⟨⟨cl40, h40⟩, List.forall_mem_cons.2 ⟨⟨cl50, h50⟩, List.forall_mem_cons.2 ⟨⟨cl51, h51⟩, List.forall_mem_cons.2 ⟨⟨cl52, h52⟩, List.forall_mem_cons.2 ⟨⟨cl53, h53⟩, List.forall_mem_cons.2 ⟨⟨cl54, h54⟩, fun _ h => by cases h⟩⟩⟩⟩⟩⟩⟩⟩⟩)
theorem lo12 : loopsOf (c12) = [] := by kernel_rfl
noncomputable def l12 : List Loop := []
def Q12 {α : Type} (l : Option (r12).den → α) (an : α → α → α) (x : (a12).den) : α := bif (p21 (x.1, ())) then bif (!(v21 (x.1, ())).1) then bif (p19 ()) then l (some (v19 ())) else l none else bif (p40 (x.1, ())) then bif (p50 (x.1, x.2)) then bif (p23 (x.1, ())) then bif (!(v23 (x.1, ())).1) then bif (decide ((v40 (x.1, ())).2.1 = (2 : Int))) then bif (decide ((((v40 (x.1, ())).1.n : Nat) : Int) = (0 : Int))) then bif (decide ((v50 (x.1, x.2)).2.2.1 = (2 : Int))) then bif (decide ((v50 (x.1, x.2)).1 = (0 : Int))) then bif (decide ((v50 (x.1, x.2)).2.1 = (0 : Int))) then bif (p19 ()) then l (some (v19 ())) else l none else l (some (false, ())) else l (some (false, ())) else l (some (false, ())) else l (some (false, ())) else l (some (false, ())) else bif (!(decide ((v40 (x.1, ())).2.1 = (0 : Int)))) then l (some (false, ())) else bif (p52 (x.1, ())) then bif (p51 ((v40 (x.1, ())).1, (v52 (x.1, ())))) then bif (!(v51 ((v40 (x.1, ())).1, (v52 (x.1, ())))).1) then l (some (false, ())) else bif (p53 x.2) then bif (!(v53 x.2).1) then bif (decide ((v50 (x.1, x.2)).2.2.1 = (2 : Int))) then bif (decide ((v50 (x.1, x.2)).1 = (0 : Int))) then bif (decide ((v50 (x.1, x.2)).2.1 = (0 : Int))) then bif (p19 ()) then l (some (v19 ())) else l none else l (some (false, ())) else l (some (false, ())) else l (some (false, ())) else bif (p54 (x.1, x.2)) then bif (decide ((v54 (x.1, x.2)).1 < (0 : Int))) then bif (decide ((v50 (x.1, x.2)).2.2.1 = (5 : Int))) then bif (decide ((v50 (x.1, x.2)).1 = (0 : Int))) then bif (decide ((v50 (x.1, x.2)).2.1 = (0 : Int))) then bif (p19 ()) then l (some (v19 ())) else l none else l (some (false, ())) else l (some (false, ())) else l (some (false, ())) else bif (decide ((v50 (x.1, x.2)).2.2.1 = (0 : Int))) then bif (decide ((v50 (x.1, x.2)).1 = (v54 (x.1, x.2)).1)) then bif (decide ((v50 (x.1, x.2)).2.1 = (v54 (x.1, x.2)).2.1)) then bif (p19 ()) then l (some (v19 ())) else l none else l (some (false, ())) else l (some (false, ())) else l (some (false, ())) else l none else l none else l none else l none else l none else l none else l none else l none
theorem q12 (x : (a12).den) : runFn Try.prog E0 G12 Try.f12 l12 a12 r12 x = Q12 .leaf .any x := by kernel_rfl
def M12 (x : (a12).den) : Option (r12).den := Q12 (fun r => r) (fun _ _ => none) x
theorem m12 (x : (a12).den) : (runFn Try.prog E0 G12 Try.f12 l12 a12 r12 x).sure = M12 x := by rw [q12]; unfold M12 Q12; simp only [sure_cond, Tree.sure]
def p12 (x : (a12).den) : Bool := (M12 x).isSome
def v12 (x : (a12).den) : (r12).den := (M12 x).getD (r12).dflt
def k12 : Con := ⟨a12, r12, p12, v12⟩
theorem h12 : Holds Try.prog 12 k12 := holds_of_M' (E := E0) follows_ok g12 eqTy_sound keyTy_sound at12 bd12 (by kernel_rfl) m12 fun G' hlo hF hE => LsOK_kn (by rw [lo12]; exact .nil)
/-- isobar/isobarlaw07.KiteMarked -/
noncomputable def c13 : Code := Try.f13.body.getD .skip
theorem at13 : Try.prog.funcs[13]? = some Try.f13 := by kernel_rfl
theorem bd13 : Try.f13.body = some c13 := by kernel_rfl
theorem cl13 : Callable Try.prog 13 := callable_of at13 (by kernel_rfl) (by kernel_rfl)
abbrev T131 : Ty := (.cons tI T48)
abbrev T132 : Ty := (.cons T39 T131)
abbrev a13 : Ty := T132
abbrev r13 : Ty := T3
noncomputable def G13 : Ctx := Ctx.of [(19, .pure k19), (21, .pure k21), (22, .pure k22), (23, .pure k23), (24, .pure k24), (40, .pure k40), (45, .pure k45), (46, .pure k46), (50, .pure k50), (53, .pure k53), (55, .pure k55)]
theorem g13 : Sound Try.prog (G13) := sound_of (List.forall_mem_cons.2 ⟨⟨cl19, h19⟩, List.forall_mem_cons.2 ⟨⟨cl21, h21⟩, List.forall_mem_cons.2 ⟨⟨cl22, h22⟩, List.forall_mem_cons.2 ⟨⟨cl23, h23⟩, List.forall_mem_cons.2 ⟨⟨cl24, h24⟩, List.forall_mem_cons.2 ⟨⟨cl40, h40⟩, List.forall_mem_cons.2 ⟨⟨cl45, h45⟩, List.forall_mem_cons.2 ⟨⟨cl46, h46⟩, List.forall_mem_cons.2 ⟨⟨cl50, h50⟩, List.forall_mem_cons.2 ⟨⟨cl53, h53⟩, List.forall_mem_cons.2 ⟨⟨cl55, h55⟩, fun _ h => by cases h⟩⟩⟩⟩⟩⟩⟩⟩⟩⟩⟩)
noncomputable def b13x0 : Code := loopBody ((loopsOf (c13))[0]?)
theorem lo13x0 : loopsOf (b13x0) = [] := by kernel_rfl
abbrev cs13x0 : List Pat := [.slot 3 (.pc tI), .slot 9 (.pc (.sl T1)), .slot 11 (.pc (.sl T0)), .slot 13 (.pc (.sl T0)), .slot 15 (.pc (.sl T0)), .slot 17 (.pc tI), .slot 18 (.pc tI), .slot 19 (.pc tI), .slot 20 (.pc tI)]
abbrev vs13x0 : List Pat := [.slot 21 (.pc tI)]
abbrev ps13x0 : List Pat := [.slot 3 (.pc tI), .slot 9 (.pc (.sl T1)), .slot 11 (.pc (.sl T0)), .slot 13 (.pc (.sl T0)), .slot 15 (.pc (.sl T0)), .slot 17 (.pc tI), .slot 18 (.pc tI), .slot 19 (.pc tI), .slot 20 (.pc tI), .slot 21 (.pc tI)]
def j13x0 : (patsTy cs13x0).den → (patsTy vs13x0).den → (patsTy ps13x0).den := fun c v => (c.1, (c.2.1, (c.2.2.1, (c.2.2.2.1, (c.2.2.2.2.1, (c.2.2.2.2.2.1, (c.2.2.2.2.2.2.1, (c.2.2.2.2.2.2.2.1, (c.2.2.2.2.2.2.2.2.1, v)))))))))
def sp13x0 : (patsTy ps13x0).den → (patsTy cs13x0).den × (patsTy vs13x0).den := fun x => ((x.1, (x.2.1, (x.2.2.1, (x.2.2.2.1, (x.2.2.2.2.1, (x.2.2.2.2.2.1, (x.2.2.2.2.2.2.1, (x.2.2.2.2.2.2.2.1, (x.2.2.2.2.2.2.2.2.1, ()))))))))), x.2.2.2.2.2.2.2.2.2)
abbrev wy13x0 : Ways := ⟨[(0, [])], [.slot 8 (.pc .bool)], []⟩
abbrev wv13x0 : Ways := ⟨[(0, [])], [.slot 8 (.pc .bool)], []⟩
def je13x0 : (id : Nat) → (patsTy cs13x0).den → (patsTy (wayP wv13x0 id)).den → (patsTy (wayP wy13x0 id)).den := fun id => match id with | 0 => fun c y => y | id => fun _ _ => (patsTy (wayP wy13x0 id)).dflt
def jr13x0 : (patsTy cs13x0).den → (patsTy (wv13x0).ret).den → (patsTy (wy13x0).ret).den := fun c y => y
def Z13x0 {α : Type} (l : RQ vs13x0 wv13x0 → α) (an : α → α → α) (c : (patsTy cs13x0).den) (v : (patsTy vs13x0).den) : α := bif (decide (v.1 < c.2.2.2.2.2.2.2.2.1)) then bif (decide (((0 : Int) ≤ v.1) ∧ (v.1 < ((c.2.2.1.n : Nat) : Int)))) then bif (decide (((0 : Int) ≤ v.1) ∧ (v.1 < ((c.2.1.n : Nat) : Int)))) then bif (p45 ((c.2.2.1.g (Int.toNat v.1)).1, ((c.2.1.g (Int.toNat v.1)), ()))) then bif (!(v45 ((c.2.2.1.g (Int.toNat v.1)).1, ((c.2.1.g (Int.toNat v.1)), ()))).1) then l (.out (.ret (false, ()))) else bif (decide (((0 : Int) ≤ v.1) ∧ (v.1 < ((c.2.1.n : Nat) : Int)))) then bif (decide (((0 : Int) ≤ v.1) ∧ (v.1 < ((c.2.2.2.1.n : Nat) : Int)))) then bif (decide (((0 : Int) ≤ v.1) ∧ (v.1 < ((c.2.2.2.2.1.n : Nat) : Int)))) then bif (p46 ((c.2.2.2.1.g (Int.toNat v.1)).1, (c.2.2.2.2.1.g (Int.toNat v.1)))) then bif (!((decide ((c.2.1.g (Int.toNat v.1)).1 = (v46 ((c.2.2.2.1.g (Int.toNat v.1)).1, (c.2.2.2.2.1.g (Int.toNat v.1)))).1.1)) && ((decide ((c.2.1.g (Int.toNat v.1)).2.1 = (v46 ((c.2.2.2.1.g (Int.toNat v.1)).1, (c.2.2.2.2.1.g (Int.toNat v.1)))).1.2.1)) && true))) then l (.out (.ret (false, ()))) else bif (decide ((0 : Int) < v.1)) then bif (decide (((0 : Int) ≤ v.1) ∧ (v.1 < ((c.2.2.1.n : Nat) : Int)))) then bif (decide (((0 : Int) ≤ (W (v.1 - (1 : Int)))) ∧ ((W (v.1 - (1 : Int))) < ((c.2.2.1.n : Nat) : Int)))) then bif (decide ((c.2.2.1.g (Int.toNat v.1)).1 < (c.2.2.1.g (Int.toNat (W (v.1 - (1 : Int))))).1)) then l (.out (.ret (false, ()))) else bif (decide (((0 : Int) ≤ v.1) ∧ (v.1 < ((c.2.2.1.n : Nat) : Int)))) then bif (decide (c.1 < (c.2.2.1.g (Int.toNat v.1)).1)) then bif (!(decide (c.2.2.2.2.2.2.2.1 = (0 : Int)))) then l (.out (.ret (false, ()))) else bif (decide (v.1 < c.2.2.2.2.2.1)) then l (.out (.ret (false, ()))) else bif (!(decide (c.1 < (c.2.2.1.g (Int.toNat v.1)).1))) then bif (decide (c.2.2.2.2.2.2.2.1 = (0 : Int))) then bif (decide ((0 : Int) ≤ c.2.2.2.2.2.2.1)) then bif (decide (c.2.2.2.2.2.2.1 ≤ v.1)) then l (.out (.ret (false, ()))) else l (.next ((W (v.1 + (1 : Int))), ())) else l (.next ((W (v.1 + (1 : Int))), ())) else l (.next ((W (v.1 + (1 : Int))), ())) else l (.next ((W (v.1 + (1 : Int))), ())) else bif (!(decide (c.1 < (c.2.2.1.g (Int.toNat v.1)).1))) then bif (decide (c.2.2.2.2.2.2.2.1 = (0 : Int))) then bif (decide ((0 : Int) ≤ c.2.2.2.2.2.2.1)) then bif (decide (c.2.2.2.2.2.2.1 ≤ v.1)) then l (.out (.ret (false, ()))) else l (.next ((W (v.1 + (1 : Int))), ())) else l (.next ((W (v.1 + (1 : Int))), ())) else l (.next ((W (v.1 + (1 : Int))), ())) else l (.next ((W (v.1 + (1 : Int))), ())) else l .bad else l .bad else l .bad else bif (decide (((0 : Int) ≤ v.1) ∧ (v.1 < ((c.2.2.1.n : Nat) : Int)))) then bif (decide (c.1 < (c.2.2.1.g (Int.toNat v.1)).1)) then bif (!(decide (c.2.2.2.2.2.2.2.1 = (0 : Int)))) then l (.out (.ret (false, ()))) else bif (decide (v.1 < c.2.2.2.2.2.1)) then l (.out (.ret (false, ()))) else bif (!(decide (c.1 < (c.2.2.1.g (Int.toNat v.1)).1))) then bif (decide (c.2.2.2.2.2.2.2.1 = (0 : Int))) then bif (decide ((0 : Int) ≤ c.2.2.2.2.2.2.1)) then bif (decide (c.2.2.2.2.2.2.1 ≤ v.1)) then l (.out (.ret (false, ()))) else l (.next ((W (v.1 + (1 : Int))), ())) else l (.next ((W (v.1 + (1 : Int))), ())) else l (.next ((W (v.1 + (1 : Int))), ())) else l (.next ((W (v.1 + (1 : Int))), ())) else bif (!(decide (c.1 < (c.2.2.1.g (Int.toNat v.1)).1))) then bif (decide (c.2.2.2.2.2.2.2.1 = (0 : Int))) then bif (decide ((0 : Int) ≤ c.2.2.2.2.2.2.1)) then bif (decide (c.2.2.2.2.2.2.1 ≤ v.1)) then l (.out (.ret (false, ()))) else l (.next ((W (v.1 + (1 : Int))), ())) else l (.next ((W (v.1 + (1 : Int))), ())) else l (.next ((W (v.1 + (1 : Int))), ())) else l (.next ((W (v.1 + (1 : Int))), ())) else l .bad else l .bad else l .bad else l .bad else l .bad else l .bad else l .bad else l .bad else l (.out (.exit 0 ()))
theorem z13x0 (c : (patsTy cs13x0).den) (v : (patsTy vs13x0).den) : roundQ Try.prog E0 G13 0 247 [] ps13x0 wy13x0 b13x0 [] (j13x0 c v) = Z13x0 (fun r => .leaf (r.lift j13x0 je13x0 jr13x0 c)) .any c v := by kernel_rfl
def S13x0 (c : (patsTy cs13x0).den) (v : (patsTy vs13x0).den) : RQ vs13x0 wv13x0 := Z13x0 (fun r => r) (fun _ _ => .bad) c v
theorem s13x0 (c : (patsTy cs13x0).den) (v : (patsTy vs13x0).den) : detQ (roundQ Try.prog E0 G13 0 247 [] ps13x0 wy13x0 b13x0 [] (j13x0 c v)) = (S13x0 c v).lift j13x0 je13x0 jr13x0 c := by rw [z13x0]; unfold S13x0 Z13x0; simp only [detQ_cond, lift_cond, lift_bad, detQ]
def L13x0 (c : (patsTy cs13x0).den) (v : (patsTy vs13x0).den) : LQ wv13x0 := iterQ (S13x0 c) big v
theorem lo13 : loopsOf (c13) = [.loop b13x0] := by kernel_rfl
noncomputable def l13 : List Loop := [.known (loopF 0 [] ps13x0 fun x => spreadV wy13x0 je13x0 jr13x0 true (sp13x0 x).1 (L13x0 (sp13x0 x).1 (sp13x0 x).2) wy13x0.exits)]
def Q13 {α : Type} (l : Option (r13).den → α) (an : α → α → α) (x : (a13).den) : α := bif (p21 (x.1, ())) then bif (!(v21 (x.1, ())).1) then bif (p19 ()) then l (some (v19 ())) else l none else bif (decide ((11 : Int) < ((x.2.2.1.n : Nat) : Int))) then bif (p19 ()) then l (some (v19 ())) else l none else bif (p23 (x.1, ())) then bif (!(v23 (x.1, ())).1) then bif (p19 ()) then l (some (v19 ())) else l none else bif (p24 (x.1, (x.2.1, (x.2.2.1, ())))) then bif (!(v24 (x.1, (x.2.1, (x.2.2.1, ())))).1) then bif (p19 ()) then l (some (v19 ())) else l none else bif (p53 x.2.2.2) then bif (!(v53 x.2.2.2).1) then bif (p19 ()) then l (some (v19 ())) else l none else bif (p40 (x.1, ())) then bif (p22 (x.1, (x.2.1, (x.2.2.1, ())))) then bif (p55 (x.1, (false, ()))) then bif (p22 (x.1, (x.1.1, (v55 (x.1, (false, ())))))) then bif (p55 (x.1, (true, ()))) then bif (p22 (x.1, (x.1.2.1, (v55 (x.1, (true, ())))))) then bif (p50 (x.1, x.2.2.2)) then bif (!(decide ((v40 (x.1, ())).2.1 = (0 : Int)))) then l (some (false, ())) else bif (!(decide ((v22 (x.1, (x.2.1, (x.2.2.1, ())))).2.1 = (0 : Int)))) then l (some (false, ())) else bif (!(decide ((v22 (x.1, (x.1.1, (v55 (x.1, (false, ())))))).2.1 = (0 : Int)))) then l (some (false, ())) else bif (!(decide ((v22 (x.1, (x.1.2.1, (v55 (x.1, (true, ())))))).2.1 = (0 : Int)))) then l (some (false, ())) else bif (!(decide ((((v40 (x.1, ())).1.n : Nat) : Int) = ((x.1.2.2.1.n : Nat) : Int)))) then l (some (false, ())) else bif (!(decide ((((v22 (x.1, (x.2.1, (x.2.2.1, ())))).1.n : Nat) : Int) = ((x.1.2.2.1.n : Nat) : Int)))) then l (some (false, ())) else bif (!(decide ((((v22 (x.1, (x.1.1, (v55 (x.1, (false, ())))))).1.n : Nat) : Int) = ((x.1.2.2.1.n : Nat) : Int)))) then l (some (false, ())) else bif (!(decide ((((v22 (x.1, (x.1.2.1, (v55 (x.1, (true, ())))))).1.n : Nat) : Int) = ((x.1.2.2.1.n : Nat) : Int)))) then l (some (false, ())) else bif (!(decide ((v50 (x.1, x.2.2.2)).2.2.1 = (0 : Int)))) then bif (!(decide ((v50 (x.1, x.2.2.2)).2.2.1 = (5 : Int)))) then l (some (false, ())) else bif (decide ((v50 (x.1, x.2.2.2)).2.2.1 = (0 : Int))) then bif (decide ((v50 (x.1, x.2.2.2)).1 < (0 : Int))) then l (some (false, ())) else bif (decide (((x.1.2.2.1.n : Nat) : Int) ≤ (v50 (x.1, x.2.2.2)).1)) then l (some (false, ())) else bif (decide ((v50 (x.1, x.2.2.2)).2.1 < (-1 : Int))) then l (some (false, ())) else bif (decide (((x.1.2.2.1.n : Nat) : Int) ≤ (v50 (x.1, x.2.2.2)).2.1)) then l (some (false, ())) else bif (decide ((0 : Int) ≤ (v50 (x.1, x.2.2.2)).2.1)) then bif (decide ((v50 (x.1, x.2.2.2)).2.1 < (v50 (x.1, x.2.2.2)).1)) then l (some (false, ())) else bif (LQ.isExit (L13x0 (x.2.2.2.1, ((v40 (x.1, ())).1, ((v22 (x.1, (x.2.1, (x.2.2.1, ())))).1, ((v22 (x.1, (x.1.1, (v55 (x.1, (false, ())))))).1, ((v22 (x.1, (x.1.2.1, (v55 (x.1, (true, ())))))).1, ((v50 (x.1, x.2.2.2)).1, ((v50 (x.1, x.2.2.2)).2.1, ((v50 (x.1, x.2.2.2)).2.2.1, (((x.1.2.2.1.n : Nat) : Int), ()))))))))) ((0 : Int), ())) 0) then bif (p19 ()) then l (some (v19 ())) else l none else bif (LQ.isRet (L13x0 (x.2.2.2.1, ((v40 (x.1, ())).1, ((v22 (x.1, (x.2.1, (x.2.2.1, ())))).1, ((v22 (x.1, (x.1.1, (v55 (x.1, (false, ())))))).1, ((v22 (x.1, (x.1.2.1, (v55 (x.1, (true, ())))))).1, ((v50 (x.1, x.2.2.2)).1, ((v50 (x.1, x.2.2.2)).2.1, ((v50 (x.1, x.2.2.2)).2.2.1, (((x.1.2.2.1.n : Nat) : Int), ()))))))))) ((0 : Int), ()))) then l (some (LQ.getRet (L13x0 (x.2.2.2.1, ((v40 (x.1, ())).1, ((v22 (x.1, (x.2.1, (x.2.2.1, ())))).1, ((v22 (x.1, (x.1.1, (v55 (x.1, (false, ())))))).1, ((v22 (x.1, (x.1.2.1, (v55 (x.1, (true, ())))))).1, ((v50 (x.1, x.2.2.2)).1, ((v50 (x.1, x.2.2.2)).2.1, ((v50 (x.1, x.2.2.2)).2.2.1, (((x.1.2.2.1.n : Nat) : Int), ()))))))))) ((0 : Int), ())))) else l none else bif (LQ.isExit (L13x0 (x.2.2.2.1, ((v40 (x.1, ())).1, ((v22 (x.1, (x.2.1, (x.2.2.1, ())))).1, ((v22 (x.1, (x.1.1, (v55 (x.1, (false, ())))))).1, ((v22 (x.1, (x.1.2.1, (v55 (x.1, (true, ())))))).1, ((v50 (x.1, x.2.2.2)).1, ((v50 (x.1, x.2.2.2)).2.1, ((v50 (x.1, x.2.2.2)).2.2.1, (((x.1.2.2.1.n : Nat) : Int), ()))))))))) ((0 : Int), ())) 0) then bif (p19 ()) then l (some (v19 ())) else l none else bif (LQ.isRet (L13x0 (x.2.2.2.1, ((v40 (x.1, ())).1, ((v22 (x.1, (x.2.1, (x.2.2.1, ())))).1, ((v22 (x.1, (x.1.1, (v55 (x.1, (false, ())))))).1, ((v22 (x.1, (x.1.2.1, (v55 (x.1, (true, ())))))).1, ((v50 (x.1, x.2.2.2)).1, ((v50 (x.1, x.2.2.2)).2.1, ((v50 (x.1, x.2.2.2)).2.2.1, (((x.1.2.2.1.n : Nat) : Int), ()))))))))) ((0 : Int), ()))) then l (some (LQ.getRet (L13x0 (x.2.2.2.1, ((v40 (x.1, ())).1, ((v22 (x.1, (x.2.1, (x.2.2.1, ())))).1, ((v22 (x.1, (x.1.1, (v55 (x.1, (false, ())))))).1, ((v22 (x.1, (x.1.2.1, (v55 (x.1, (true, ())))))).1, ((v50 (x.1, x.2.2.2)).1, ((v50 (x.1, x.2.2.2)).2.1, ((v50 (x.1, x.2.2.2)).2.2.1, (((x.1.2.2.1.n : Nat) : Int), ()))))))))) ((0 : Int), ())))) else l none else bif (LQ.isExit (L13x0 (x.2.2.2.1, ((v40 (x.1, ())).1, ((v22 (x.1, (x.2.1, (x.2.2.1, ())))).1, ((v22 (x.1, (x.1.1, (v55 (x.1, (false, ())))))).1, ((v22 (x.1, (x.1.2.1, (v55 (x.1, (true, ())))))).1, ((v50 (x.1, x.2.2.2)).1, ((v50 (x.1, x.2.2.2)).2.1, ((v50 (x.1, x.2.2.2)).2.2.1, (((x.1.2.2.1.n : Nat) : Int), ()))))))))) ((0 : Int), ())) 0) then bif (p19 ()) then l (some (v19 ())) else l none else bif (LQ.isRet (L13x0 (x.2.2.2.1, ((v40 (x.1, ())).1, ((v22 (x.1, (x.2.1, (x.2.2.1, ())))).1, ((v22 (x.1, (x.1.1, (v55 (x.1, (false, ())))))).1, ((v22 (x.1, (x.1.2.1, (v55 (x.1, (true, ())))))).1, ((v50 (x.1, x.2.2.2)).1, ((v50 (x.1, x.2.2.2)).2.1, ((v50 (x.1, x.2.2.2)).2.2.1, (((x.1.2.2.1.n : Nat) : Int), ()))))))))) ((0 : Int), ()))) then l (some (LQ.getRet (L13x0 (x.2.2.2.1, ((v40 (x.1, ())).1, ((v22 (x.1, (x.2.1, (x.2.2.1, ())))).1, ((v22 (x.1, (x.1.1, (v55 (x.1, (false, ())))))).1, ((v22 (x.1, (x.1.2.1, (v55 (x.1, (true, ())))))).1, ((v50 (x.1, x.2.2.2)).1, ((v50 (x.1, x.2.2.2)).2.1, ((v50 (x.1, x.2.2.2)).2.2.1, (((x.1.2.2.1.n : Nat) : Int), ()))))))))) ((0 : Int), ())))) else l none else bif (decide ((v50 (x.1, x.2.2.2)).2.2.1 = (0 : Int))) then bif (decide ((v50 (x.1, x.2.2.2)).1 < (0 : Int))) then l (some (false, ())) else bif (decide (((x.1.2.2.1.n : Nat) : Int) ≤ (v50 (x.1, x.2.2.2)).1)) then l (some (false, ())) else bif (decide ((v50 (x.1, x.2.2.2)).2.1 < (-1 : Int))) then l (some (false, ())) else bif (decide (((x.1.2.2.1.n : Nat) : Int) ≤ (v50 (x.1, x.2.2.2)).2.1)) then l (some (false, ())) else bif (decide ((0 : Int) ≤ (v50 (x.1, x.2.2.2)).2.1)) then bif (decide ((v50 (x.1, x.2.2.2)).2.1 < (v50 (x.1, x.2.2.2)).1)) then l (some (false, ())) else bif (LQ.isExit (L13x0 (x.2.2.2.1, ((v40 (x.1, ())).1, ((v22 (x.1, (x.2.1, (x.2.2.1, ())))).1, ((v22 (x.1, (x.1.1, (v55 (x.1, (false, ())))))).1, ((v22 (x.1, (x.1.2.1, (v55 (x.1, (true, ())))))).1, ((v50 (x.1, x.2.2.2)).1, ((v50 (x.1, x.2.2.2)).2.1, ((v50 (x.1, x.2.2.2)).2.2.1, (((x.1.2.2.1.n : Nat) : Int), ()))))))))) ((0 : Int), ())) 0) then bif (p19 ()) then l (some (v19 ())) else l none else bif (LQ.isRet (L13x0 (x.2.2.2.1, ((v40 (x.1, ())).1, ((v22 (x.1, (x.2.1, (x.2.2.1, ())))).1, ((v22 (x.1, (x.1.1, (v55 (x.1, (false, ())))))).1, ((v22 (x.1, (x.1.2.1, (v55 (x.1, (true, ())))))).1, ((v50 (x.1, x.2.2.2)).1, ((v50 (x.1, x.2.2.2)).2.1, ((v50 (x.1, x.2.2.2)).2.2.1, (((x.1.2.2.1.n : Nat) : Int), ()))))))))) ((0 : Int), ()))) then l (some (LQ.getRet (L13x0 (x.2.2.2.1, ((v40 (x.1, ())).1, ((v22 (x.1, (x.2.1, (x.2.2.1, ())))).1, ((v22 (x.1, (x.1.1, (v55 (x.1, (false, ())))))).1, ((v22 (x.1, (x.1.2.1, (v55 (x.1, (true, ())))))).1, ((v50 (x.1, x.2.2.2)).1, ((v50 (x.1, x.2.2.2)).2.1, ((v50 (x.1, x.2.2.2)).2.2.1, (((x.1.2.2.1.n : Nat) : Int), ()))))))))) ((0 : Int), ())))) else l none else bif (LQ.isExit (L13x0 (x.2.2.2.1, ((v40 (x.1, ())).1, ((v22 (x.1, (x.2.1, (x.2.2.1, ())))).1, ((v22 (x.1, (x.1.1, (v55 (x.1, (false, ())))))).1, ((v22 (x.1, (x.1.2.1, (v55 (x.1, (true, ())))))).1, ((v50 (x.1, x.2.2.2)).1, ((v50 (x.1, x.2.2.2)).2.1, ((v50 (x.1, x.2.2.2)).2.2.1, (((x.1.2.2.1.n : Nat) : Int), ()))))))))) ((0 : Int), ())) 0) then bif (p19 ()) then l (some (v19 ())) else l none else bif (LQ.isRet (L13x0 (x.2.2.2.1, ((v40 (x.1, ())).1, ((v22 (x.1, (x.2.1, (x.2.2.1, ())))).1, ((v22 (x.1, (x.1.1, (v55 (x.1, (false, ())))))).1, ((v22 (x.1, (x.1.2.1, (v55 (x.1, (true, ())))))).1, ((v50 (x.1, x.2.2.2)).1, ((v50 (x.1, x.2.2.2)).2.1, ((v50 (x.1, x.2.2.2)).2.2.1, (((x.1.2.2.1.n : Nat) : Int), ()))))))))) ((0 : Int), ()))) then l (some (LQ.getRet (L13x0 (x.2.2.2.1, ((v40 (x.1, ())).1, ((v22 (x.1, (x.2.1, (x.2.2.1, ())))).1, ((v22 (x.1, (x.1.1, (v55 (x.1, (false, ())))))).1, ((v22 (x.1, (x.1.2.1, (v55 (x.1, (true, ())))))).1, ((v50 (x.1, x.2.2.2)).1, ((v50 (x.1, x.2.2.2)).2.1, ((v50 (x.1, x.2.2.2)).2.2.1, (((x.1.2.2.1.n : Nat) : Int), ()))))))))) ((0 : Int), ())))) else l none else bif (LQ.isExit (L13x0 (x.2.2.2.1, ((v40 (x.1, ())).1, ((v22 (x.1, (x.2.1, (x.2.2.1, ())))).1, ((v22 (x.1, (x.1.1, (v55 (x.1, (false, ())))))).1, ((v22 (x.1, (x.1.2.1, (v55 (x.1, (true, ())))))).1, ((v50 (x.1, x.2.2.2)).1, ((v50 (x.1, x.2.2.2)).2.1, ((v50 (x.1, x.2.2.2)).2.2.1, (((x.1.2.2.1.n : Nat) : Int), ()))))))))) ((0 : Int), ())) 0) then bif (p19 ()) then l (some (v19 ())) else l none else bif (LQ.isRet (L13x0 (x.2.2.2.1, ((v40 (x.1, ())).1, ((v22 (x.1, (x.2.1, (x.2.2.1, ())))).1, ((v22 (x.1, (x.1.1, (v55 (x.1, (false, ())))))).1, ((v22 (x.1, (x.1.2.1, (v55 (x.1, (true, ())))))).1, ((v50 (x.1, x.2.2.2)).1, ((v50 (x.1, x.2.2.2)).2.1, ((v50 (x.1, x.2.2.2)).2.2.1, (((x.1.2.2.1.n : Nat) : Int), ()))))))))) ((0 : Int), ()))) then l (some (LQ.getRet (L13x0 (x.2.2.2.1, ((v40 (x.1, ())).1, ((v22 (x.1, (x.2.1, (x.2.2.1, ())))).1, ((v22 (x.1, (x.1.1, (v55 (x.1, (false, ())))))).1, ((v22 (x.1, (x.1.2.1, (v55 (x.1, (true, ())))))).1, ((v50 (x.1, x.2.2.2)).1, ((v50 (x.1, x.2.2.2)).2.1, ((v50 (x.1, x.2.2.2)).2.2.1, (((x.1.2.2.1.n : Nat) : Int), ()))))))))) ((0 : Int), ())))) else l none else l none else l none else l none else l none else l none else l none else l none else l none else l none else l none else l none
theorem q13 (x : (a13).den) : runFn Try.prog E0 G13 Try.f13 l13 a13 r13 x = Q13 .leaf .any x := by kernel_rfl
def M13 (x : (a13).den) : Option (r13).den := Q13 (fun r => r) (fun _ _ => none) x
theorem m13 (x : (a13).den) : (runFn Try.prog E0 G13 Try.f13 l13 a13 r13 x).sure = M13 x := by rw [q13]; unfold M13 Q13; simp only [sure_cond, Tree.sure]
def p13 (x : (a13).den) : Bool := (M13 x).isSome
def v13 (x : (a13).den) : (r13).den := (M13 x).getD (r13).dflt
def k13 : Con := ⟨a13, r13, p13, v13⟩
theorem h13 : Holds Try.prog 13 k13 := holds_of_M' (E := E0) follows_ok g13 eqTy_sound keyTy_sound at13 bd13 (by kernel_rfl) m13 fun G' hlo hF hE => LsOK_kn (by rw [lo13]; exact .cons (loopV_ok hE hF hlo (LsOK_kn (by rw [lo13x0]; exact .nil)) (by kernel_rfl) (by kernel_rfl) sp13x0 (fun _ => rfl) (fun _ _ => rfl) (s13x0) big) (.nil))
/-- isobar/isobarlaw07.KiteLands -/
noncomputable def c11 : Code := Try.f11.body.getD .skip
theorem at11 : Try.prog.funcs[11]? = some Try.f11 := by kernel_rfl
theorem bd11 : Try.f11.body = some c11 := by kernel_rfl
theorem cl11 : Callable Try.prog 11 := callable_of at11 (by kernel_rfl) (by kernel_rfl)
abbrev a11 : Ty := T43
abbrev r11 : Ty := T3
noncomputable def G11 : Ctx := Ctx.of [(19, .pure k19), (27, .pure k27), (38, .pure k38), (47, .pure k47), (48, .pure k48), (49, .pure k49)]
theorem g11 : Sound Try.prog (G11) := sound_of (List.forall_mem_cons.2 ⟨⟨cl19, h19⟩, List.forall_mem_cons.2 ⟨⟨cl27, h27⟩, List.forall_mem_cons.2 ⟨⟨cl38, h38⟩, List.forall_mem_cons.2 ⟨⟨cl47, h47⟩, List.forall_mem_cons.2 ⟨⟨cl48, h48⟩, List.forall_mem_cons.2 ⟨⟨cl49, h49⟩, fun _ h => by cases h⟩⟩⟩⟩⟩⟩)
theorem lo11 : loopsOf (c11) = [] := by kernel_rfl
noncomputable def l11 : List Loop := []
def Q11 {α : Type} (l : Option (r11).den → α) (an : α → α → α) (x : (a11).den) : α := bif (p27 (x.1, ())) then bif (!(v27 (x.1, ())).1) then bif (p19 ()) then l (some (v19 ())) else l none else bif (p47 (x.1, ())) then bif (p48 (x.1, ())) then bif (p38 (x.1, ())) then bif (!(v38 (x.1, ())).1) then bif (decide ((v47 (x.1, ())).1 = (2 : Int))) then bif (decide ((v48 (x.1, ())).2.1 = (2 : Int))) then bif ((decide ((v48 (x.1, ())).1.1 = (0 : Int))) && ((decide ((v48 (x.1, ())).1.2.1 = (0 : Int))) && ((decide ((v48 (x.1, ())).1.2.2.1 = (0 : Int))) && ((decide ((v48 (x.1, ())).1.2.2.2.1 = (0 : Int))) && ((decide ((v48 (x.1, ())).1.2.2.2.2.1 = (0 : Int))) && ((decide ((v48 (x.1, ())).1.2.2.2.2.2.1 = (0 : Int))) && true)))))) then bif (p19 ()) then l (some (v19 ())) else l none else l (some (false, ())) else l (some (false, ())) else l (some (false, ())) else bif (decide ((v47 (x.1, ())).1 = (0 : Int))) then bif (decide ((v48 (x.1, ())).2.1 = (0 : Int))) then bif (p49 (x.1, ())) then bif ((decide ((v48 (x.1, ())).1.1 = (v49 (x.1, ())).1.1)) && ((decide ((v48 (x.1, ())).1.2.1 = (v49 (x.1, ())).1.2.1)) && ((decide ((v48 (x.1, ())).1.2.2.1 = (v49 (x.1, ())).1.2.2.1)) && ((decide ((v48 (x.1, ())).1.2.2.2.1 = (v49 (x.1, ())).1.2.2.2.1)) && ((decide ((v48 (x.1, ())).1.2.2.2.2.1 = (v49 (x.1, ())).1.2.2.2.2.1)) && ((decide ((v48 (x.1, ())).1.2.2.2.2.2.1 = (v49 (x.1, ())).1.2.2.2.2.2.1)) && true)))))) then bif (p19 ()) then l (some (v19 ())) else l none else l (some (false, ())) else l none else l (some (false, ())) else l (some (false, ())) else l none else l none else l none else l none
theorem q11 (x : (a11).den) : runFn Try.prog E0 G11 Try.f11 l11 a11 r11 x = Q11 .leaf .any x := by kernel_rfl
def M11 (x : (a11).den) : Option (r11).den := Q11 (fun r => r) (fun _ _ => none) x
theorem m11 (x : (a11).den) : (runFn Try.prog E0 G11 Try.f11 l11 a11 r11 x).sure = M11 x := by rw [q11]; unfold M11 Q11; simp only [sure_cond, Tree.sure]
def p11 (x : (a11).den) : Bool := (M11 x).isSome
def v11 (x : (a11).den) : (r11).den := (M11 x).getD (r11).dflt
def k11 : Con := ⟨a11, r11, p11, v11⟩
theorem h11 : Holds Try.prog 11 k11 := holds_of_M' (E := E0) follows_ok g11 eqTy_sound keyTy_sound at11 bd11 (by kernel_rfl) m11 fun G' hlo hF hE => LsOK_kn (by rw [lo11]; exact .nil)
/-- isobar/isobarlaw07.KitePlays -/
noncomputable def c16 : Code := Try.f16.body.getD .skip
theorem at16 : Try.prog.funcs[16]? = some Try.f16 := by kernel_rfl
theorem bd16 : Try.f16.body = some c16 := by kernel_rfl
theorem cl16 : Callable Try.prog 16 := callable_of at16 (by kernel_rfl) (by kernel_rfl)
abbrev a16 : Ty := T112
abbrev r16 : Ty := T3
noncomputable def G16 : Ctx := Ctx.of [(19, .pure k19), (27, .pure k27), (38, .pure k38), (56, .pure k56), (57, .pure k57), (58, .pure k58), (60, .pure k60), (63, .pure k63), (64, .pure k64)]
theorem g16 : Sound Try.prog (G16) := sound_of (List.forall_mem_cons.2 ⟨⟨cl19, h19⟩, List.forall_mem_cons.2 ⟨⟨cl27, h27⟩, List.forall_mem_cons.2 ⟨⟨cl38, h38⟩, List.forall_mem_cons.2 ⟨⟨cl56, h56⟩, List.forall_mem_cons.2 ⟨⟨cl57, h57⟩, List.forall_mem_cons.2 ⟨⟨cl58, h58⟩, List.forall_mem_cons.2 ⟨⟨cl60, h60⟩, List.forall_mem_cons.2 ⟨⟨cl63, h63⟩, List.forall_mem_cons.2 ⟨⟨cl64, h64⟩, fun _ h => by cases h⟩⟩⟩⟩⟩⟩⟩⟩⟩)
theorem lo16 : loopsOf (c16) = [] := by kernel_rfl
noncomputable def l16 : List Loop := []
def Q16 {α : Type} (l : Option (r16).den → α) (an : α → α → α) (x : (a16).den) : α := bif (p27 (x.1, ())) then bif (!(v27 (x.1, ())).1) then bif (p19 ()) then l (some (v19 ())) else l none else bif (p56 (x.2.1, ())) then bif (!(v56 (x.2.1, ())).1) then bif (p19 ()) then l (some (v19 ())) else l none else bif (p58 (x.1, (x.2.1, ()))) then bif (p60 (x.1, (x.2.1, ()))) then bif (p38 (x.1, ())) then bif (!(v38 (x.1, ())).1) then bif (decide ((v58 (x.1, (x.2.1, ()))).2.2.2.1 = (2 : Int))) then bif (decide ((v58 (x.1, (x.2.1, ()))).1 = (0 : Int))) then bif (decide ((v58 (x.1, (x.2.1, ()))).2.1 = (0 : Int))) then bif (decide ((v58 (x.1, (x.2.1, ()))).2.2.1 = (0 : Int))) then bif (decide ((v60 (x.1, (x.2.1, ()))).2.1 = (2 : Int))) then bif (!(v60 (x.1, (x.2.1, ()))).1) then bif (p19 ()) then l (some (v19 ())) else l none else l (some (false, ())) else l (some (false, ())) else l (some (false, ())) else l (some (false, ())) else l (some (false, ())) else l (some (false, ())) else bif (p57 (x.1, (x.2.1, ()))) then bif (!(v57 (x.1, (x.2.1, ()))).1) then bif (decide ((v58 (x.1, (x.2.1, ()))).2.2.2.1 = (2 : Int))) then bif (decide ((v58 (x.1, (x.2.1, ()))).1 = (0 : Int))) then bif (decide ((v58 (x.1, (x.2.1, ()))).2.1 = (0 : Int))) then bif (decide ((v58 (x.1, (x.2.1, ()))).2.2.1 = (0 : Int))) then bif (decide ((v60 (x.1, (x.2.1, ()))).2.1 = (2 : Int))) then bif (!(v60 (x.1, (x.2.1, ()))).1) then bif (p19 ()) then l (some (v19 ())) else l none else l (some (false, ())) else l (some (false, ())) else l (some (false, ())) else l (some (false, ())) else l (some (false, ())) else l (some (false, ())) else bif (p63 (x.1, (x.2.1, ()))) then bif (decide ((v58 (x.1, (x.2.1, ()))).2.2.2.1 = (0 : Int))) then bif (decide ((v58 (x.1, (x.2.1, ()))).1 = (v63 (x.1, (x.2.1, ()))).1)) then bif (decide ((v58 (x.1, (x.2.1, ()))).2.1 = (v63 (x.1, (x.2.1, ()))).2.1)) then bif (decide ((v58 (x.1, (x.2.1, ()))).2.2.1 = (v63 (x.1, (x.2.1, ()))).2.2.1)) then bif (decide ((v60 (x.1, (x.2.1, ()))).2.1 = (0 : Int))) then bif (p64 (x.1, (x.2.1, ()))) then bif ((v60 (x.1, (x.2.1, ()))).1 == (v64 (x.1, (x.2.1, ()))).1) then bif (p19 ()) then l (some (v19 ())) else l none else l (some (false, ())) else l none else l (some (false, ())) else l (some (false, ())) else l (some (false, ())) else l (some (false, ())) else l (some (false, ())) else l none else l none else l none else l none else l none else l none else l none
theorem q16 (x : (a16).den) : runFn Try.prog E0 G16 Try.f16 l16 a16 r16 x = Q16 .leaf .any x := by kernel_rfl
def M16 (x : (a16).den) : Option (r16).den := Q16 (fun r => r) (fun _ _ => none) x
theorem m16 (x : (a16).den) : (runFn Try.prog E0 G16 Try.f16 l16 a16 r16 x).sure = M16 x := by rw [q16]; unfold M16 Q16; simp only [sure_cond, Tree.sure]
def p16 (x : (a16).den) : Bool := (M16 x).isSome
def v16 (x : (a16).den) : (r16).den := (M16 x).getD (r16).dflt
def k16 : Con := ⟨a16, r16, p16, v16⟩
theorem h16 : Holds Try.prog 16 k16 := holds_of_M' (E := E0) follows_ok g16 eqTy_sound keyTy_sound at16 bd16 (by kernel_rfl) m16 fun G' hlo hF hE => LsOK_kn (by rw [lo16]; exact .nil)


end Go.Dm

/-
  Each function of the program as a Lean function, and that its calls come to what that says.
-/
import Derived.Test.YtlfgdpjompacjaaGA
set_option linter.unusedVariables false
set_option linter.unusedSimpArgs false
namespace Go.Dm
open Go.RowKit Go.Proofs
set_option maxRecDepth 100000
/-- isobar/kite.Land -/
noncomputable def c48 : Code := Try.f48.body.getD .skip
theorem at48 : Try.prog.funcs[48]? = some Try.f48 := by kernel_rfl
theorem bd48 : Try.f48.body = some c48 := by kernel_rfl
theorem cl48 : Callable Try.prog 48 := callable_of at48 (by kernel_rfl) (by kernel_rfl)
abbrev T76 : Ty := (.cons T11 T0)
abbrev a48 : Ty := T43
abbrev r48 : Ty := T76
noncomputable def G48 : Ctx := Ctx.of [(92, .pure k92), (93, .pure k93), (94, .pure k94), (95, .pure k95), (96, .pure k96), (97, .pure k97), (98, .pure k98)]
theorem g48 : Sound Try.prog (G48) := sound_of (List.forall_mem_cons.2 ⟨⟨cl92, h92⟩, List.forall_mem_cons.2 ⟨⟨cl93, h93⟩, List.forall_mem_cons.2 ⟨⟨cl94, h94⟩, List.forall_mem_cons.2 ⟨⟨cl95, h95⟩, List.forall_mem_cons.2 ⟨⟨cl96, h96⟩, List.forall_mem_cons.2 ⟨⟨cl97, h97⟩, List.forall_mem_cons.2 ⟨⟨cl98, h98⟩, fun _ h => by cases h⟩⟩⟩⟩⟩⟩⟩)
noncomputable def b48x0 : Code := rangeBody ((loopsOf (c48))[0]?)
noncomputable def as48x0 : Code := rangeAs ((loopsOf (c48))[0]?)
abbrev mp48x0 : List Pat := [.slot 2 (.ptr 2), .slot 4 (.ptr 226), .slot 5 (.ptr 227), .box 2 [.pc tI, .pc tI, .pc tI, .pc tI, .pc tI, .pc tI], .box 226 [.own 1227000 3 T0, .own 1227001 3 T0, .own 1227002 3 T0], .box 227 [.own 1228000 3 T0, .own 1228001 3 T0, .own 1228002 3 T0]]
noncomputable def b48x0x0 : Code := loopBody ((loopsOf (b48x0))[0]?)
noncomputable def b48x0x0x0 : Code := loopBody ((loopsOf (b48x0x0))[0]?)
theorem lo48x0x0x0 : loopsOf (b48x0x0x0) = [] := by kernel_rfl
abbrev cs48x0x0x0 : List Pat := [.slot 2 (.ptr 2), .slot 4 (.ptr 226), .slot 5 (.ptr 227), .slot 6 (.ptr 1228009), .slot 8 (.pc tI), .agg 27 T1, .slot 28 (.pc tI), .slot 33 (.pc (.sl T1)), .slot 34 (.pc tI), .box 2 [.pc tI, .pc tI, .pc tI, .pc tI, .pc tI, .pc tI], .box 226 [.own 1227000 3 T0, .own 1227001 3 T0, .own 1227002 3 T0], .box 227 [.own 1228000 3 T0, .own 1228001 3 T0, .own 1228002 3 T0], .box 1228009 [.pc (.sl T9), .pc tI, .pc tI, .pc tI, .pc tI, .pc tI, .pc tI, .pc tI, .pc tI, .pc tI, .pc tI, .pc tI, .pc tI, .pc tI, .pc tI, .pc tI]]
abbrev vs48x0x0x0 : List Pat := [.slot 9 (.own 1000009 3 T0), .slot 10 (.own 1000010 3 T0), .slot 35 (.pc tI)]
abbrev ps48x0x0x0 : List Pat := [.slot 2 (.ptr 2), .slot 4 (.ptr 226), .slot 5 (.ptr 227), .slot 6 (.ptr 1228009), .slot 8 (.pc tI), .agg 27 T1, .slot 28 (.pc tI), .slot 33 (.pc (.sl T1)), .slot 34 (.pc tI), .box 2 [.pc tI, .pc tI, .pc tI, .pc tI, .pc tI, .pc tI], .box 226 [.own 1227000 3 T0, .own 1227001 3 T0, .own 1227002 3 T0], .box 227 [.own 1228000 3 T0, .own 1228001 3 T0, .own 1228002 3 T0], .box 1228009 [.pc (.sl T9), .pc tI, .pc tI, .pc tI, .pc tI, .pc tI, .pc tI, .pc tI, .pc tI, .pc tI, .pc tI, .pc tI, .pc tI, .pc tI, .pc tI, .pc tI], .slot 9 (.own 1000009 3 T0), .slot 10 (.own 1000010 3 T0), .slot 35 (.pc tI)]
def j48x0x0x0 : (patsTy cs48x0x0x0).den → (patsTy vs48x0x0x0).den → (patsTy ps48x0x0x0).den := fun c v => (c.1, (c.2.1, (c.2.2.1, (c.2.2.2.1, (c.2.2.2.2.1, (c.2.2.2.2.2.1, (c.2.2.2.2.2.2.1, (c.2.2.2.2.2.2.2.1, (c.2.2.2.2.2.2.2.2.1, (c.2.2.2.2.2.2.2.2.2.1, (c.2.2.2.2.2.2.2.2.2.2.1, (c.2.2.2.2.2.2.2.2.2.2.2.1, (c.2.2.2.2.2.2.2.2.2.2.2.2.1, v)))))))))))))
def sp48x0x0x0 : (patsTy ps48x0x0x0).den → (patsTy cs48x0x0x0).den × (patsTy vs48x0x0x0).den := fun x => ((x.1, (x.2.1, (x.2.2.1, (x.2.2.2.1, (x.2.2.2.2.1, (x.2.2.2.2.2.1, (x.2.2.2.2.2.2.1, (x.2.2.2.2.2.2.2.1, (x.2.2.2.2.2.2.2.2.1, (x.2.2.2.2.2.2.2.2.2.1, (x.2.2.2.2.2.2.2.2.2.2.1, (x.2.2.2.2.2.2.2.2.2.2.2.1, (x.2.2.2.2.2.2.2.2.2.2.2.2.1, ()))))))))))))), x.2.2.2.2.2.2.2.2.2.2.2.2.2)
abbrev wy48x0x0x0 : Ways := ⟨[(4, [.slot 2 (.ptr 2), .slot 4 (.ptr 226), .slot 5 (.ptr 227), .slot 6 (.ptr 1228009), .slot 8 (.pc tI), .agg 27 T1, .slot 28 (.pc tI), .box 2 [.pc tI, .pc tI, .pc tI, .pc tI, .pc tI, .pc tI], .box 226 [.own 1227000 3 T0, .own 1227001 3 T0, .own 1227002 3 T0], .box 227 [.own 1228000 3 T0, .own 1228001 3 T0, .own 1228002 3 T0], .box 1228009 [.pc (.sl T9), .pc tI, .pc tI, .pc tI, .pc tI, .pc tI, .pc tI, .pc tI, .pc tI, .pc tI, .pc tI, .pc tI, .pc tI, .pc tI, .pc tI, .pc tI], .slot 9 (.pc (.sl T0)), .slot 10 (.pc (.sl T0))])], [], []⟩
abbrev wv48x0x0x0 : Ways := ⟨[(4, [.slot 9 (.pc (.sl T0)), .slot 10 (.pc (.sl T0))])], [], []⟩
def je48x0x0x0 : (id : Nat) → (patsTy cs48x0x0x0).den → (patsTy (wayP wv48x0x0x0 id)).den → (patsTy (wayP wy48x0x0x0 id)).den := fun id => match id with | 4 => fun c y => (c.1, (c.2.1, (c.2.2.1, (c.2.2.2.1, (c.2.2.2.2.1, (c.2.2.2.2.2.1, (c.2.2.2.2.2.2.1, (c.2.2.2.2.2.2.2.2.2.1, (c.2.2.2.2.2.2.2.2.2.2.1, (c.2.2.2.2.2.2.2.2.2.2.2.1, (c.2.2.2.2.2.2.2.2.2.2.2.2.1, y))))))))))) | id => fun _ _ => (patsTy (wayP wy48x0x0x0 id)).dflt
def jr48x0x0x0 : (patsTy cs48x0x0x0).den → (patsTy (wv48x0x0x0).ret).den → (patsTy (wy48x0x0x0).ret).den := fun c y => y
def Z48x0x0x0 {α : Type} (l : RQ vs48x0x0x0 wv48x0x0x0 → α) (an : α → α → α) (c : (patsTy cs48x0x0x0).den) (v : (patsTy vs48x0x0x0).den) : α := bif (decide (v.2.2.1 < c.2.2.2.2.2.2.2.2.1)) then bif (decide (((0 : Int) ≤ v.2.2.1) ∧ (v.2.2.1 < ((c.2.2.2.2.2.2.2.1.n : Nat) : Int)))) then bif (decide (((v.1.n + 1) * 8) ≤ 140737488355328)) then bif (decide (((v.2.1.n + 1) * 8) ≤ 140737488355328)) then l (.next ((catSl v.1 (⟨1, fun i => List.getD [((c.2.2.2.2.2.2.2.1.g (Int.toNat v.2.2.1)).1, ())] i ((c.2.2.2.2.2.2.2.1.g (Int.toNat v.2.2.1)).1, ())⟩ : Sl (Ty.den T0))), ((catSl v.2.1 (⟨1, fun i => List.getD [(c.2.2.2.2.2.2.2.1.g (Int.toNat v.2.2.1)).2] i (c.2.2.2.2.2.2.2.1.g (Int.toNat v.2.2.1)).2⟩ : Sl (Ty.den T0))), ((W (v.2.2.1 + (1 : Int))), ())))) else l .bad else l .bad else l .bad else l (.out (.exit 4 (v.1, (v.2.1, ()))))
theorem z48x0x0x0 (c : (patsTy cs48x0x0x0).den) (v : (patsTy vs48x0x0x0).den) : roundQ Try.prog E0.noDfr G48 500000 111 [] ps48x0x0x0 wy48x0x0x0 b48x0x0x0 [] (j48x0x0x0 c v) = Z48x0x0x0 (fun r => .leaf (r.lift j48x0x0x0 je48x0x0x0 jr48x0x0x0 c)) .any c v := by kernel_rfl
def S48x0x0x0 (c : (patsTy cs48x0x0x0).den) (v : (patsTy vs48x0x0x0).den) : RQ vs48x0x0x0 wv48x0x0x0 := Z48x0x0x0 (fun r => r) (fun _ _ => .bad) c v
theorem s48x0x0x0 (c : (patsTy cs48x0x0x0).den) (v : (patsTy vs48x0x0x0).den) : detQ (roundQ Try.prog E0.noDfr G48 500000 111 [] ps48x0x0x0 wy48x0x0x0 b48x0x0x0 [] (j48x0x0x0 c v)) = (S48x0x0x0 c v).lift j48x0x0x0 je48x0x0x0 jr48x0x0x0 c := by rw [z48x0x0x0]; unfold S48x0x0x0 Z48x0x0x0; simp only [detQ_cond, lift_cond, lift_bad, detQ]
def L48x0x0x0 (c : (patsTy cs48x0x0x0).den) (v : (patsTy vs48x0x0x0).den) : LQ wv48x0x0x0 := iterQ (S48x0x0x0 c) big v
theorem lo48x0x0 : loopsOf (b48x0x0) = [.loop b48x0x0x0] := by kernel_rfl
theorem lo48x0 : loopsOf (b48x0) = [.loop b48x0x0] := by kernel_rfl
def Z48x0 {α : Type} (l : RO mp48x0 → α) (an : α → α → α) (x : (patsTy mp48x0).den) (it : Ty.den T58) : α := bif (p94 (it.1, ((0 : Int), ()))) then bif (LQ.isExit (L48x0x0x0 ((), ((), ((), ((), ((0 : Int), (((0 : Int), ((1 : Int), ())), ((0 : Int), ((v94 (it.1, ((0 : Int), ()))).1, ((((v94 (it.1, ((0 : Int), ()))).1.n : Nat) : Int), (x.2.2.2.1, (x.2.2.2.2.1, (x.2.2.2.2.2.1, (it.1, ()))))))))))))) ((⟨0, fun i => ((0 : Int), ())⟩ : Sl _), ((⟨0, fun i => ((0 : Int), ())⟩ : Sl _), ((0 : Int), ())))) 4) then bif (p95 (it.1, ((LQ.getExit (L48x0x0x0 ((), ((), ((), ((), ((0 : Int), (((0 : Int), ((1 : Int), ())), ((0 : Int), ((v94 (it.1, ((0 : Int), ()))).1, ((((v94 (it.1, ((0 : Int), ()))).1.n : Nat) : Int), (x.2.2.2.1, (x.2.2.2.2.1, (x.2.2.2.2.2.1, (it.1, ()))))))))))))) ((⟨0, fun i => ((0 : Int), ())⟩ : Sl _), ((⟨0, fun i => ((0 : Int), ())⟩ : Sl _), ((0 : Int), ())))) 4).1, ()))) then bif (p95 (it.1, (LQ.getExit (L48x0x0x0 ((), ((), ((), ((), ((0 : Int), (((0 : Int), ((1 : Int), ())), ((0 : Int), ((v94 (it.1, ((0 : Int), ()))).1, ((((v94 (it.1, ((0 : Int), ()))).1.n : Nat) : Int), (x.2.2.2.1, (x.2.2.2.2.1, (x.2.2.2.2.2.1, (it.1, ()))))))))))))) ((⟨0, fun i => ((0 : Int), ())⟩ : Sl _), ((⟨0, fun i => ((0 : Int), ())⟩ : Sl _), ((0 : Int), ())))) 4).2)) then bif (decide (((x.2.2.2.2.1.1.n + 1) * 8) ≤ 140737488355328)) then bif (decide (((x.2.2.2.2.2.1.1.n + 1) * 8) ≤ 140737488355328)) then bif (p94 (it.1, ((1 : Int), ()))) then bif (LQ.isExit (L48x0x0x0 ((), ((), ((), ((), ((1 : Int), (((0 : Int), ((1 : Int), ())), ((1 : Int), ((v94 (it.1, ((1 : Int), ()))).1, ((((v94 (it.1, ((1 : Int), ()))).1.n : Nat) : Int), (x.2.2.2.1, (((catSl x.2.2.2.2.1.1 (⟨1, fun i => List.getD [(v95 (it.1, ((LQ.getExit (L48x0x0x0 ((), ((), ((), ((), ((0 : Int), (((0 : Int), ((1 : Int), ())), ((0 : Int), ((v94 (it.1, ((0 : Int), ()))).1, ((((v94 (it.1, ((0 : Int), ()))).1.n : Nat) : Int), (x.2.2.2.1, (x.2.2.2.2.1, (x.2.2.2.2.2.1, (it.1, ()))))))))))))) ((⟨0, fun i => ((0 : Int), ())⟩ : Sl _), ((⟨0, fun i => ((0 : Int), ())⟩ : Sl _), ((0 : Int), ())))) 4).1, ())))] i (v95 (it.1, ((LQ.getExit (L48x0x0x0 ((), ((), ((), ((), ((0 : Int), (((0 : Int), ((1 : Int), ())), ((0 : Int), ((v94 (it.1, ((0 : Int), ()))).1, ((((v94 (it.1, ((0 : Int), ()))).1.n : Nat) : Int), (x.2.2.2.1, (x.2.2.2.2.1, (x.2.2.2.2.2.1, (it.1, ()))))))))))))) ((⟨0, fun i => ((0 : Int), ())⟩ : Sl _), ((⟨0, fun i => ((0 : Int), ())⟩ : Sl _), ((0 : Int), ())))) 4).1, ())))⟩ : Sl (Ty.den T0))), x.2.2.2.2.1.2), (((catSl x.2.2.2.2.2.1.1 (⟨1, fun i => List.getD [(v95 (it.1, (LQ.getExit (L48x0x0x0 ((), ((), ((), ((), ((0 : Int), (((0 : Int), ((1 : Int), ())), ((0 : Int), ((v94 (it.1, ((0 : Int), ()))).1, ((((v94 (it.1, ((0 : Int), ()))).1.n : Nat) : Int), (x.2.2.2.1, (x.2.2.2.2.1, (x.2.2.2.2.2.1, (it.1, ()))))))))))))) ((⟨0, fun i => ((0 : Int), ())⟩ : Sl _), ((⟨0, fun i => ((0 : Int), ())⟩ : Sl _), ((0 : Int), ())))) 4).2))] i (v95 (it.1, (LQ.getExit (L48x0x0x0 ((), ((), ((), ((), ((0 : Int), (((0 : Int), ((1 : Int), ())), ((0 : Int), ((v94 (it.1, ((0 : Int), ()))).1, ((((v94 (it.1, ((0 : Int), ()))).1.n : Nat) : Int), (x.2.2.2.1, (x.2.2.2.2.1, (x.2.2.2.2.2.1, (it.1, ()))))))))))))) ((⟨0, fun i => ((0 : Int), ())⟩ : Sl _), ((⟨0, fun i => ((0 : Int), ())⟩ : Sl _), ((0 : Int), ())))) 4).2))⟩ : Sl (Ty.den T0))), x.2.2.2.2.2.1.2), (it.1, ()))))))))))))) ((⟨0, fun i => ((0 : Int), ())⟩ : Sl _), ((⟨0, fun i => ((0 : Int), ())⟩ : Sl _), ((0 : Int), ())))) 4) then bif (p95 (it.1, ((LQ.getExit (L48x0x0x0 ((), ((), ((), ((), ((1 : Int), (((0 : Int), ((1 : Int), ())), ((1 : Int), ((v94 (it.1, ((1 : Int), ()))).1, ((((v94 (it.1, ((1 : Int), ()))).1.n : Nat) : Int), (x.2.2.2.1, (((catSl x.2.2.2.2.1.1 (⟨1, fun i => List.getD [(v95 (it.1, ((LQ.getExit (L48x0x0x0 ((), ((), ((), ((), ((0 : Int), (((0 : Int), ((1 : Int), ())), ((0 : Int), ((v94 (it.1, ((0 : Int), ()))).1, ((((v94 (it.1, ((0 : Int), ()))).1.n : Nat) : Int), (x.2.2.2.1, (x.2.2.2.2.1, (x.2.2.2.2.2.1, (it.1, ()))))))))))))) ((⟨0, fun i => ((0 : Int), ())⟩ : Sl _), ((⟨0, fun i => ((0 : Int), ())⟩ : Sl _), ((0 : Int), ())))) 4).1, ())))] i (v95 (it.1, ((LQ.getExit (L48x0x0x0 ((), ((), ((), ((), ((0 : Int), (((0 : Int), ((1 : Int), ())), ((0 : Int), ((v94 (it.1, ((0 : Int), ()))).1, ((((v94 (it.1, ((0 : Int), ()))).1.n : Nat) : Int), (x.2.2.2.1, (x.2.2.2.2.1, (x.2.2.2.2.2.1, (it.1, ()))))))))))))) ((⟨0, fun i => ((0 : Int), ())⟩ : Sl _), ((⟨0, fun i => ((0 : Int), ())⟩ : Sl _), ((0 : Int), ())))) 4).1, ())))⟩ : Sl (Ty.den T0))), x.2.2.2.2.1.2), (((catSl x.2.2.2.2.2.1.1 (⟨1, fun i => List.getD [(v95 (it.1, (LQ.getExit (L48x0x0x0 ((), ((), ((), ((), ((0 : Int), (((0 : Int), ((1 : Int), ())), ((0 : Int), ((v94 (it.1, ((0 : Int), ()))).1, ((((v94 (it.1, ((0 : Int), ()))).1.n : Nat) : Int), (x.2.2.2.1, (x.2.2.2.2.1, (x.2.2.2.2.2.1, (it.1, ()))))))))))))) ((⟨0, fun i => ((0 : Int), ())⟩ : Sl _), ((⟨0, fun i => ((0 : Int), ())⟩ : Sl _), ((0 : Int), ())))) 4).2))] i (v95 (it.1, (LQ.getExit (L48x0x0x0 ((), ((), ((), ((), ((0 : Int), (((0 : Int), ((1 : Int), ())), ((0 : Int), ((v94 (it.1, ((0 : Int), ()))).1, ((((v94 (it.1, ((0 : Int), ()))).1.n : Nat) : Int), (x.2.2.2.1, (x.2.2.2.2.1, (x.2.2.2.2.2.1, (it.1, ()))))))))))))) ((⟨0, fun i => ((0 : Int), ())⟩ : Sl _), ((⟨0, fun i => ((0 : Int), ())⟩ : Sl _), ((0 : Int), ())))) 4).2))⟩ : Sl (Ty.den T0))), x.2.2.2.2.2.1.2), (it.1, ()))))))))))))) ((⟨0, fun i => ((0 : Int), ())⟩ : Sl _), ((⟨0, fun i => ((0 : Int), ())⟩ : Sl _), ((0 : Int), ())))) 4).1, ()))) then bif (p95 (it.1, (LQ.getExit (L48x0x0x0 ((), ((), ((), ((), ((1 : Int), (((0 : Int), ((1 : Int), ())), ((1 : Int), ((v94 (it.1, ((1 : Int), ()))).1, ((((v94 (it.1, ((1 : Int), ()))).1.n : Nat) : Int), (x.2.2.2.1, (((catSl x.2.2.2.2.1.1 (⟨1, fun i => List.getD [(v95 (it.1, ((LQ.getExit (L48x0x0x0 ((), ((), ((), ((), ((0 : Int), (((0 : Int), ((1 : Int), ())), ((0 : Int), ((v94 (it.1, ((0 : Int), ()))).1, ((((v94 (it.1, ((0 : Int), ()))).1.n : Nat) : Int), (x.2.2.2.1, (x.2.2.2.2.1, (x.2.2.2.2.2.1, (it.1, ()))))))))))))) ((⟨0, fun i => ((0 : Int), ())⟩ : Sl _), ((⟨0, fun i => ((0 : Int), ())⟩ : Sl _), ((0 : Int), ())))) 4).1, ())))] i (v95 (it.1, ((LQ.getExit (L48x0x0x0 ((), ((), ((), ((), ((0 : Int), (((0 : Int), ((1 : Int), ())), ((0 : Int), ((v94 (it.1, ((0 : Int), ()))).1, ((((v94 (it.1, ((0 : Int), ()))).1.n : Nat) : Int), (x.2.2.2.1, (x.2.2.2.2.1, (x.2.2.2.2.2.1, (it.1, ()))))))))))))) ((⟨0, fun i => ((0 : Int), ())⟩ : Sl _), ((⟨0, fun i => ((0 : Int), ())⟩ : Sl _), ((0 : Int), ())))) 4).1, ())))⟩ : Sl (Ty.den T0))), x.2.2.2.2.1.2), (((catSl x.2.2.2.2.2.1.1 (⟨1, fun i => List.getD [(v95 (it.1, (LQ.getExit (L48x0x0x0 ((), ((), ((), ((), ((0 : Int), (((0 : Int), ((1 : Int), ())), ((0 : Int), ((v94 (it.1, ((0 : Int), ()))).1, ((((v94 (it.1, ((0 : Int), ()))).1.n : Nat) : Int), (x.2.2.2.1, (x.2.2.2.2.1, (x.2.2.2.2.2.1, (it.1, ()))))))))))))) ((⟨0, fun i => ((0 : Int), ())⟩ : Sl _), ((⟨0, fun i => ((0 : Int), ())⟩ : Sl _), ((0 : Int), ())))) 4).2))] i (v95 (it.1, (LQ.getExit (L48x0x0x0 ((), ((), ((), ((), ((0 : Int), (((0 : Int), ((1 : Int), ())), ((0 : Int), ((v94 (it.1, ((0 : Int), ()))).1, ((((v94 (it.1, ((0 : Int), ()))).1.n : Nat) : Int), (x.2.2.2.1, (x.2.2.2.2.1, (x.2.2.2.2.2.1, (it.1, ()))))))))))))) ((⟨0, fun i => ((0 : Int), ())⟩ : Sl _), ((⟨0, fun i => ((0 : Int), ())⟩ : Sl _), ((0 : Int), ())))) 4).2))⟩ : Sl (Ty.den T0))), x.2.2.2.2.2.1.2), (it.1, ()))))))))))))) ((⟨0, fun i => ((0 : Int), ())⟩ : Sl _), ((⟨0, fun i => ((0 : Int), ())⟩ : Sl _), ((0 : Int), ())))) 4).2)) then bif (decide (((x.2.2.2.2.1.2.1.n + 1) * 8) ≤ 140737488355328)) then bif (decide (((x.2.2.2.2.2.1.2.1.n + 1) * 8) ≤ 140737488355328)) then bif (p96 (it.1, ())) then bif (decide (((x.2.2.2.2.1.2.2.1.n + 1) * 8) ≤ 140737488355328)) then bif (decide (((x.2.2.2.2.2.1.2.2.1.n + 1) * 8) ≤ 140737488355328)) then l (.next ((), ((), ((), (x.2.2.2.1, (((catSl x.2.2.2.2.1.1 (⟨1, fun i => List.getD [(v95 (it.1, ((LQ.getExit (L48x0x0x0 ((), ((), ((), ((), ((0 : Int), (((0 : Int), ((1 : Int), ())), ((0 : Int), ((v94 (it.1, ((0 : Int), ()))).1, ((((v94 (it.1, ((0 : Int), ()))).1.n : Nat) : Int), (x.2.2.2.1, (x.2.2.2.2.1, (x.2.2.2.2.2.1, (it.1, ()))))))))))))) ((⟨0, fun i => ((0 : Int), ())⟩ : Sl _), ((⟨0, fun i => ((0 : Int), ())⟩ : Sl _), ((0 : Int), ())))) 4).1, ())))] i (v95 (it.1, ((LQ.getExit (L48x0x0x0 ((), ((), ((), ((), ((0 : Int), (((0 : Int), ((1 : Int), ())), ((0 : Int), ((v94 (it.1, ((0 : Int), ()))).1, ((((v94 (it.1, ((0 : Int), ()))).1.n : Nat) : Int), (x.2.2.2.1, (x.2.2.2.2.1, (x.2.2.2.2.2.1, (it.1, ()))))))))))))) ((⟨0, fun i => ((0 : Int), ())⟩ : Sl _), ((⟨0, fun i => ((0 : Int), ())⟩ : Sl _), ((0 : Int), ())))) 4).1, ())))⟩ : Sl (Ty.den T0))), ((catSl x.2.2.2.2.1.2.1 (⟨1, fun i => List.getD [(v95 (it.1, ((LQ.getExit (L48x0x0x0 ((), ((), ((), ((), ((1 : Int), (((0 : Int), ((1 : Int), ())), ((1 : Int), ((v94 (it.1, ((1 : Int), ()))).1, ((((v94 (it.1, ((1 : Int), ()))).1.n : Nat) : Int), (x.2.2.2.1, (((catSl x.2.2.2.2.1.1 (⟨1, fun i => List.getD [(v95 (it.1, ((LQ.getExit (L48x0x0x0 ((), ((), ((), ((), ((0 : Int), (((0 : Int), ((1 : Int), ())), ((0 : Int), ((v94 (it.1, ((0 : Int), ()))).1, ((((v94 (it.1, ((0 : Int), ()))).1.n : Nat) : Int), (x.2.2.2.1, (x.2.2.2.2.1, (x.2.2.2.2.2.1, (it.1, ()))))))))))))) ((⟨0, fun i => ((0 : Int), ())⟩ : Sl _), ((⟨0, fun i => ((0 : Int), ())⟩ : Sl _), ((0 : Int), ())))) 4).1, ())))] i (v95 (it.1, ((LQ.getExit (L48x0x0x0 ((), ((), ((), ((), ((0 : Int), (((0 : Int), ((1 : Int), ())), ((0 : Int), ((v94 (it.1, ((0 : Int), ()))).1, ((((v94 (it.1, ((0 : Int), ()))).1.n : Nat) : Int), (x.2.2.2.1, (x.2.2.2.2.1, (x.2.2.2.2.2.1, (it.1, ()))))))))))))) ((⟨0, fun i => ((0 : Int), ())⟩ : Sl _), ((⟨0, fun i => ((0 : Int), ())⟩ : Sl _), ((0 : Int), ())))) 4).1, ())))⟩ : Sl (Ty.den T0))), x.2.2.2.2.1.2), (((catSl x.2.2.2.2.2.1.1 (⟨1, fun i => List.getD [(v95 (it.1, (LQ.getExit (L48x0x0x0 ((), ((), ((), ((), ((0 : Int), (((0 : Int), ((1 : Int), ())), ((0 : Int), ((v94 (it.1, ((0 : Int), ()))).1, ((((v94 (it.1, ((0 : Int), ()))).1.n : Nat) : Int), (x.2.2.2.1, (x.2.2.2.2.1, (x.2.2.2.2.2.1, (it.1, ()))))))))))))) ((⟨0, fun i => ((0 : Int), ())⟩ : Sl _), ((⟨0, fun i => ((0 : Int), ())⟩ : Sl _), ((0 : Int), ())))) 4).2))] i (v95 (it.1, (LQ.getExit (L48x0x0x0 ((), ((), ((), ((), ((0 : Int), (((0 : Int), ((1 : Int), ())), ((0 : Int), ((v94 (it.1, ((0 : Int), ()))).1, ((((v94 (it.1, ((0 : Int), ()))).1.n : Nat) : Int), (x.2.2.2.1, (x.2.2.2.2.1, (x.2.2.2.2.2.1, (it.1, ()))))))))))))) ((⟨0, fun i => ((0 : Int), ())⟩ : Sl _), ((⟨0, fun i => ((0 : Int), ())⟩ : Sl _), ((0 : Int), ())))) 4).2))⟩ : Sl (Ty.den T0))), x.2.2.2.2.2.1.2), (it.1, ()))))))))))))) ((⟨0, fun i => ((0 : Int), ())⟩ : Sl _), ((⟨0, fun i => ((0 : Int), ())⟩ : Sl _), ((0 : Int), ())))) 4).1, ())))] i (v95 (it.1, ((LQ.getExit (L48x0x0x0 ((), ((), ((), ((), ((1 : Int), (((0 : Int), ((1 : Int), ())), ((1 : Int), ((v94 (it.1, ((1 : Int), ()))).1, ((((v94 (it.1, ((1 : Int), ()))).1.n : Nat) : Int), (x.2.2.2.1, (((catSl x.2.2.2.2.1.1 (⟨1, fun i => List.getD [(v95 (it.1, ((LQ.getExit (L48x0x0x0 ((), ((), ((), ((), ((0 : Int), (((0 : Int), ((1 : Int), ())), ((0 : Int), ((v94 (it.1, ((0 : Int), ()))).1, ((((v94 (it.1, ((0 : Int), ()))).1.n : Nat) : Int), (x.2.2.2.1, (x.2.2.2.2.1, (x.2.2.2.2.2.1, (it.1, ()))))))))))))) ((⟨0, fun i => ((0 : Int), ())⟩ : Sl _), ((⟨0, fun i => ((0 : Int), ())⟩ : Sl _), ((0 : Int), ())))) 4).1, ())))] i (v95 (it.1, ((LQ.getExit (L48x0x0x0 ((), ((), ((), ((), ((0 : Int), (((0 : Int), ((1 : Int), ())), ((0 : Int), ((v94 (it.1, ((0 : Int), ()))).1, ((((v94 (it.1, ((0 : Int), ()))).1.n : Nat) : Int), (x.2.2.2.1, (x.2.2.2.2.1, (x.2.2.2.2.2.1, (it.1, ()))))))))))))) ((⟨0, fun i => ((0 : Int), ())⟩ : Sl _), ((⟨0, fun i => ((0 : Int), ())⟩ : Sl _), ((0 : Int), ())))) 4).1, ())))⟩ : Sl (Ty.den T0))), x.2.2.2.2.1.2), (((catSl x.2.2.2.2.2.1.1 (⟨1, fun i => List.getD [(v95 (it.1, (LQ.getExit (L48x0x0x0 ((), ((), ((), ((), ((0 : Int), (((0 : Int), ((1 : Int), ())), ((0 : Int), ((v94 (it.1, ((0 : Int), ()))).1, ((((v94 (it.1, ((0 : Int), ()))).1.n : Nat) : Int), (x.2.2.2.1, (x.2.2.2.2.1, (x.2.2.2.2.2.1, (it.1, ()))))))))))))) ((⟨0, fun i => ((0 : Int), ())⟩ : Sl _), ((⟨0, fun i => ((0 : Int), ())⟩ : Sl _), ((0 : Int), ())))) 4).2))] i (v95 (it.1, (LQ.getExit (L48x0x0x0 ((), ((), ((), ((), ((0 : Int), (((0 : Int), ((1 : Int), ())), ((0 : Int), ((v94 (it.1, ((0 : Int), ()))).1, ((((v94 (it.1, ((0 : Int), ()))).1.n : Nat) : Int), (x.2.2.2.1, (x.2.2.2.2.1, (x.2.2.2.2.2.1, (it.1, ()))))))))))))) ((⟨0, fun i => ((0 : Int), ())⟩ : Sl _), ((⟨0, fun i => ((0 : Int), ())⟩ : Sl _), ((0 : Int), ())))) 4).2))⟩ : Sl (Ty.den T0))), x.2.2.2.2.2.1.2), (it.1, ()))))))))))))) ((⟨0, fun i => ((0 : Int), ())⟩ : Sl _), ((⟨0, fun i => ((0 : Int), ())⟩ : Sl _), ((0 : Int), ())))) 4).1, ())))⟩ : Sl (Ty.den T0))), ((catSl x.2.2.2.2.1.2.2.1 (⟨1, fun i => List.getD [(v96 (it.1, ()))] i (v96 (it.1, ()))⟩ : Sl (Ty.den T0))), ()))), (((catSl x.2.2.2.2.2.1.1 (⟨1, fun i => List.getD [(v95 (it.1, (LQ.getExit (L48x0x0x0 ((), ((), ((), ((), ((0 : Int), (((0 : Int), ((1 : Int), ())), ((0 : Int), ((v94 (it.1, ((0 : Int), ()))).1, ((((v94 (it.1, ((0 : Int), ()))).1.n : Nat) : Int), (x.2.2.2.1, (x.2.2.2.2.1, (x.2.2.2.2.2.1, (it.1, ()))))))))))))) ((⟨0, fun i => ((0 : Int), ())⟩ : Sl _), ((⟨0, fun i => ((0 : Int), ())⟩ : Sl _), ((0 : Int), ())))) 4).2))] i (v95 (it.1, (LQ.getExit (L48x0x0x0 ((), ((), ((), ((), ((0 : Int), (((0 : Int), ((1 : Int), ())), ((0 : Int), ((v94 (it.1, ((0 : Int), ()))).1, ((((v94 (it.1, ((0 : Int), ()))).1.n : Nat) : Int), (x.2.2.2.1, (x.2.2.2.2.1, (x.2.2.2.2.2.1, (it.1, ()))))))))))))) ((⟨0, fun i => ((0 : Int), ())⟩ : Sl _), ((⟨0, fun i => ((0 : Int), ())⟩ : Sl _), ((0 : Int), ())))) 4).2))⟩ : Sl (Ty.den T0))), ((catSl x.2.2.2.2.2.1.2.1 (⟨1, fun i => List.getD [(v95 (it.1, (LQ.getExit (L48x0x0x0 ((), ((), ((), ((), ((1 : Int), (((0 : Int), ((1 : Int), ())), ((1 : Int), ((v94 (it.1, ((1 : Int), ()))).1, ((((v94 (it.1, ((1 : Int), ()))).1.n : Nat) : Int), (x.2.2.2.1, (((catSl x.2.2.2.2.1.1 (⟨1, fun i => List.getD [(v95 (it.1, ((LQ.getExit (L48x0x0x0 ((), ((), ((), ((), ((0 : Int), (((0 : Int), ((1 : Int), ())), ((0 : Int), ((v94 (it.1, ((0 : Int), ()))).1, ((((v94 (it.1, ((0 : Int), ()))).1.n : Nat) : Int), (x.2.2.2.1, (x.2.2.2.2.1, (x.2.2.2.2.2.1, (it.1, ()))))))))))))) ((⟨0, fun i => ((0 : Int), ())⟩ : Sl _), ((⟨0, fun i => ((0 : Int), ())⟩ : Sl _), ((0 : Int), ())))) 4).1, ())))] i (v95 (it.1, ((LQ.getExit (L48x0x0x0 ((), ((), ((), ((), ((0 : Int), (((0 : Int), ((1 : Int), ())), ((0 : Int), ((v94 (it.1, ((0 : Int), ()))).1, ((((v94 (it.1, ((0 : Int), ()))).1.n : Nat) : Int), (x.2.2.2.1, (x.2.2.2.2.1, (x.2.2.2.2.2.1, (it.1, ()))))))))))))) ((⟨0, fun i => ((0 : Int), ())⟩ : Sl _), ((⟨0, fun i => ((0 : Int), ())⟩ : Sl _), ((0 : Int), ())))) 4).1, ())))⟩ : Sl (Ty.den T0))), x.2.2.2.2.1.2), (((catSl x.2.2.2.2.2.1.1 (⟨1, fun i => List.getD [(v95 (it.1, (LQ.getExit (L48x0x0x0 ((), ((), ((), ((), ((0 : Int), (((0 : Int), ((1 : Int), ())), ((0 : Int), ((v94 (it.1, ((0 : Int), ()))).1, ((((v94 (it.1, ((0 : Int), ()))).1.n : Nat) : Int), (x.2.2.2.1, (x.2.2.2.2.1, (x.2.2.2.2.2.1, (it.1, ()))))))))))))) ((⟨0, fun i => ((0 : Int), ())⟩ : Sl _), ((⟨0, fun i => ((0 : Int), ())⟩ : Sl _), ((0 : Int), ())))) 4).2))] i (v95 (it.1, (LQ.getExit (L48x0x0x0 ((), ((), ((), ((), ((0 : Int), (((0 : Int), ((1 : Int), ())), ((0 : Int), ((v94 (it.1, ((0 : Int), ()))).1, ((((v94 (it.1, ((0 : Int), ()))).1.n : Nat) : Int), (x.2.2.2.1, (x.2.2.2.2.1, (x.2.2.2.2.2.1, (it.1, ()))))))))))))) ((⟨0, fun i => ((0 : Int), ())⟩ : Sl _), ((⟨0, fun i => ((0 : Int), ())⟩ : Sl _), ((0 : Int), ())))) 4).2))⟩ : Sl (Ty.den T0))), x.2.2.2.2.2.1.2), (it.1, ()))))))))))))) ((⟨0, fun i => ((0 : Int), ())⟩ : Sl _), ((⟨0, fun i => ((0 : Int), ())⟩ : Sl _), ((0 : Int), ())))) 4).2))] i (v95 (it.1, (LQ.getExit (L48x0x0x0 ((), ((), ((), ((), ((1 : Int), (((0 : Int), ((1 : Int), ())), ((1 : Int), ((v94 (it.1, ((1 : Int), ()))).1, ((((v94 (it.1, ((1 : Int), ()))).1.n : Nat) : Int), (x.2.2.2.1, (((catSl x.2.2.2.2.1.1 (⟨1, fun i => List.getD [(v95 (it.1, ((LQ.getExit (L48x0x0x0 ((), ((), ((), ((), ((0 : Int), (((0 : Int), ((1 : Int), ())), ((0 : Int), ((v94 (it.1, ((0 : Int), ()))).1, ((((v94 (it.1, ((0 : Int), ()))).1.n : Nat) : Int), (x.2.2.2.1, (x.2.2.2.2.1, (x.2.2.2.2.2.1, (it.1, ()))))))))))))) ((⟨0, fun i => ((0 : Int), ())⟩ : Sl _), ((⟨0, fun i => ((0 : Int), ())⟩ : Sl _), ((0 : Int), ())))) 4).1, ())))] i (v95 (it.1, ((LQ.getExit (L48x0x0x0 ((), ((), ((), ((), ((0 : Int), (((0 : Int), ((1 : Int), ())), ((0 : Int), ((v94 (it.1, ((0 : Int), ()))).1, ((((v94 (it.1, ((0 : Int), ()))).1.n : Nat) : Int), (x.2.2.2.1, (x.2.2.2.2.1, (x.2.2.2.2.2.1, (it.1, ()))))))))))))) ((⟨0, fun i => ((0 : Int), ())⟩ : Sl _), ((⟨0, fun i => ((0 : Int), ())⟩ : Sl _), ((0 : Int), ())))) 4).1, ())))⟩ : Sl (Ty.den T0))), x.2.2.2.2.1.2), (((catSl x.2.2.2.2.2.1.1 (⟨1, fun i => List.getD [(v95 (it.1, (LQ.getExit (L48x0x0x0 ((), ((), ((), ((), ((0 : Int), (((0 : Int), ((1 : Int), ())), ((0 : Int), ((v94 (it.1, ((0 : Int), ()))).1, ((((v94 (it.1, ((0 : Int), ()))).1.n : Nat) : Int), (x.2.2.2.1, (x.2.2.2.2.1, (x.2.2.2.2.2.1, (it.1, ()))))))))))))) ((⟨0, fun i => ((0 : Int), ())⟩ : Sl _), ((⟨0, fun i => ((0 : Int), ())⟩ : Sl _), ((0 : Int), ())))) 4).2))] i (v95 (it.1, (LQ.getExit (L48x0x0x0 ((), ((), ((), ((), ((0 : Int), (((0 : Int), ((1 : Int), ())), ((0 : Int), ((v94 (it.1, ((0 : Int), ()))).1, ((((v94 (it.1, ((0 : Int), ()))).1.n : Nat) : Int), (x.2.2.2.1, (x.2.2.2.2.1, (x.2.2.2.2.2.1, (it.1, ()))))))))))))) ((⟨0, fun i => ((0 : Int), ())⟩ : Sl _), ((⟨0, fun i => ((0 : Int), ())⟩ : Sl _), ((0 : Int), ())))) 4).2))⟩ : Sl (Ty.den T0))), x.2.2.2.2.2.1.2), (it.1, ()))))))))))))) ((⟨0, fun i => ((0 : Int), ())⟩ : Sl _), ((⟨0, fun i => ((0 : Int), ())⟩ : Sl _), ((0 : Int), ())))) 4).2))⟩ : Sl (Ty.den T0))), ((catSl x.2.2.2.2.2.1.2.2.1 (⟨1, fun i => List.getD [(v96 (it.1, ()))] i (v96 (it.1, ()))⟩ : Sl (Ty.den T0))), ()))), ()))))))) else l .bad else l .bad else l .bad else l .bad else l .bad else l .bad else l .bad else l .bad else l .bad else l .bad else l .bad else l .bad else l .bad else l .bad else l .bad
theorem z48x0 (x : (patsTy mp48x0).den) (it : Ty.den T58) : stepR Try.prog E0 G48 0 500000 111 [26] as48x0 b48x0 [] [.unroll 3 [.known (loopF 500000 [] ps48x0x0x0 fun x => spreadV wy48x0x0x0 je48x0x0x0 jr48x0x0x0 false (sp48x0x0x0 x).1 (L48x0x0x0 (sp48x0x0x0 x).1 (sp48x0x0x0 x).2) wy48x0x0x0.exits)]] T58 mp48x0 x it = Z48x0 .leaf .any x it := by kernel_rfl
def S48x0 (x : (patsTy mp48x0).den) (it : Ty.den T58) : RO mp48x0 := Z48x0 (fun r => r) (fun _ _ => .bad) x it
theorem s48x0 (x : (patsTy mp48x0).den) (it : Ty.den T58) : (stepR Try.prog E0 G48 0 500000 111 [26] as48x0 b48x0 [] [.unroll 3 [.known (loopF 500000 [] ps48x0x0x0 fun x => spreadV wy48x0x0x0 je48x0x0x0 jr48x0x0x0 false (sp48x0x0x0 x).1 (L48x0x0x0 (sp48x0x0x0 x).1 (sp48x0x0x0 x).2) wy48x0x0x0.exits)]] T58 mp48x0 x it).detB .bad = S48x0 x it := by rw [z48x0]; unfold S48x0 Z48x0; simp only [detB_cond, Tree.detB]
def L48x0 (x : (patsTy mp48x0).den) (l : List (Ty.den T58)) : RO mp48x0 := runAllD S48x0 x l
noncomputable def b48x1 : Code := loopBody ((loopsOf (c48))[1]?)
theorem lo48x1 : loopsOf (b48x1) = [] := by kernel_rfl
theorem lo48 : loopsOf (c48) = [.rangeFunc (.tmp 25) #[26] as48x0 b48x0, .loop b48x1] := by kernel_rfl
noncomputable def l48 : List Loop := [.known (rangeD 0 [] 25 T58 mp48x0 [] [] (fun x l => L48x0 x l)), .unroll 4 []]
def Q48 {α : Type} (l : Option (r48).den → α) (an : α → α → α) (x : (a48).den) : α := bif (p92 (x.1, ())) then bif (!(v92 (x.1, ())).1) then l (some (((0 : Int), ((0 : Int), ((0 : Int), ((0 : Int), ((0 : Int), ((0 : Int), ())))))), ((2 : Int), ()))) else bif (p93 (x.1, ())) then bif (RO.isNext (L48x0 ((), ((), ((), (((0 : Int), ((0 : Int), ((0 : Int), ((0 : Int), ((0 : Int), ((0 : Int), ())))))), (((⟨0, fun i => ((0 : Int), ())⟩ : Sl _), ((⟨0, fun i => ((0 : Int), ())⟩ : Sl _), ((⟨0, fun i => ((0 : Int), ())⟩ : Sl _), ()))), (((⟨0, fun i => ((0 : Int), ())⟩ : Sl _), ((⟨0, fun i => ((0 : Int), ())⟩ : Sl _), ((⟨0, fun i => ((0 : Int), ())⟩ : Sl _), ()))), ())))))) (Sl.list (v93 (x.1, ())).1))) then bif (p97 ((RO.getX (L48x0 ((), ((), ((), (((0 : Int), ((0 : Int), ((0 : Int), ((0 : Int), ((0 : Int), ((0 : Int), ())))))), (((⟨0, fun i => ((0 : Int), ())⟩ : Sl _), ((⟨0, fun i => ((0 : Int), ())⟩ : Sl _), ((⟨0, fun i => ((0 : Int), ())⟩ : Sl _), ()))), (((⟨0, fun i => ((0 : Int), ())⟩ : Sl _), ((⟨0, fun i => ((0 : Int), ())⟩ : Sl _), ((⟨0, fun i => ((0 : Int), ())⟩ : Sl _), ()))), ())))))) (Sl.list (v93 (x.1, ())).1))).2.2.2.2.1.1, ())) then bif (p98 ((RO.getX (L48x0 ((), ((), ((), (((0 : Int), ((0 : Int), ((0 : Int), ((0 : Int), ((0 : Int), ((0 : Int), ())))))), (((⟨0, fun i => ((0 : Int), ())⟩ : Sl _), ((⟨0, fun i => ((0 : Int), ())⟩ : Sl _), ((⟨0, fun i => ((0 : Int), ())⟩ : Sl _), ()))), (((⟨0, fun i => ((0 : Int), ())⟩ : Sl _), ((⟨0, fun i => ((0 : Int), ())⟩ : Sl _), ((⟨0, fun i => ((0 : Int), ())⟩ : Sl _), ()))), ())))))) (Sl.list (v93 (x.1, ())).1))).2.2.2.2.2.1.1, ())) then bif (p97 ((RO.getX (L48x0 ((), ((), ((), (((0 : Int), ((0 : Int), ((0 : Int), ((0 : Int), ((0 : Int), ((0 : Int), ())))))), (((⟨0, fun i => ((0 : Int), ())⟩ : Sl _), ((⟨0, fun i => ((0 : Int), ())⟩ : Sl _), ((⟨0, fun i => ((0 : Int), ())⟩ : Sl _), ()))), (((⟨0, fun i => ((0 : Int), ())⟩ : Sl _), ((⟨0, fun i => ((0 : Int), ())⟩ : Sl _), ((⟨0, fun i => ((0 : Int), ())⟩ : Sl _), ()))), ())))))) (Sl.list (v93 (x.1, ())).1))).2.2.2.2.1.2.1, ())) then bif (p98 ((RO.getX (L48x0 ((), ((), ((), (((0 : Int), ((0 : Int), ((0 : Int), ((0 : Int), ((0 : Int), ((0 : Int), ())))))), (((⟨0, fun i => ((0 : Int), ())⟩ : Sl _), ((⟨0, fun i => ((0 : Int), ())⟩ : Sl _), ((⟨0, fun i => ((0 : Int), ())⟩ : Sl _), ()))), (((⟨0, fun i => ((0 : Int), ())⟩ : Sl _), ((⟨0, fun i => ((0 : Int), ())⟩ : Sl _), ((⟨0, fun i => ((0 : Int), ())⟩ : Sl _), ()))), ())))))) (Sl.list (v93 (x.1, ())).1))).2.2.2.2.2.1.2.1, ())) then bif (p97 (RO.getX (L48x0 ((), ((), ((), (((0 : Int), ((0 : Int), ((0 : Int), ((0 : Int), ((0 : Int), ((0 : Int), ())))))), (((⟨0, fun i => ((0 : Int), ())⟩ : Sl _), ((⟨0, fun i => ((0 : Int), ())⟩ : Sl _), ((⟨0, fun i => ((0 : Int), ())⟩ : Sl _), ()))), (((⟨0, fun i => ((0 : Int), ())⟩ : Sl _), ((⟨0, fun i => ((0 : Int), ())⟩ : Sl _), ((⟨0, fun i => ((0 : Int), ())⟩ : Sl _), ()))), ())))))) (Sl.list (v93 (x.1, ())).1))).2.2.2.2.1.2.2) then bif (p98 (RO.getX (L48x0 ((), ((), ((), (((0 : Int), ((0 : Int), ((0 : Int), ((0 : Int), ((0 : Int), ((0 : Int), ())))))), (((⟨0, fun i => ((0 : Int), ())⟩ : Sl _), ((⟨0, fun i => ((0 : Int), ())⟩ : Sl _), ((⟨0, fun i => ((0 : Int), ())⟩ : Sl _), ()))), (((⟨0, fun i => ((0 : Int), ())⟩ : Sl _), ((⟨0, fun i => ((0 : Int), ())⟩ : Sl _), ((⟨0, fun i => ((0 : Int), ())⟩ : Sl _), ()))), ())))))) (Sl.list (v93 (x.1, ())).1))).2.2.2.2.2.1.2.2) then l (some (((v97 ((RO.getX (L48x0 ((), ((), ((), (((0 : Int), ((0 : Int), ((0 : Int), ((0 : Int), ((0 : Int), ((0 : Int), ())))))), (((⟨0, fun i => ((0 : Int), ())⟩ : Sl _), ((⟨0, fun i => ((0 : Int), ())⟩ : Sl _), ((⟨0, fun i => ((0 : Int), ())⟩ : Sl _), ()))), (((⟨0, fun i => ((0 : Int), ())⟩ : Sl _), ((⟨0, fun i => ((0 : Int), ())⟩ : Sl _), ((⟨0, fun i => ((0 : Int), ())⟩ : Sl _), ()))), ())))))) (Sl.list (v93 (x.1, ())).1))).2.2.2.2.1.1, ())).1, ((v98 ((RO.getX (L48x0 ((), ((), ((), (((0 : Int), ((0 : Int), ((0 : Int), ((0 : Int), ((0 : Int), ((0 : Int), ())))))), (((⟨0, fun i => ((0 : Int), ())⟩ : Sl _), ((⟨0, fun i => ((0 : Int), ())⟩ : Sl _), ((⟨0, fun i => ((0 : Int), ())⟩ : Sl _), ()))), (((⟨0, fun i => ((0 : Int), ())⟩ : Sl _), ((⟨0, fun i => ((0 : Int), ())⟩ : Sl _), ((⟨0, fun i => ((0 : Int), ())⟩ : Sl _), ()))), ())))))) (Sl.list (v93 (x.1, ())).1))).2.2.2.2.2.1.1, ())).1, ((v97 ((RO.getX (L48x0 ((), ((), ((), (((0 : Int), ((0 : Int), ((0 : Int), ((0 : Int), ((0 : Int), ((0 : Int), ())))))), (((⟨0, fun i => ((0 : Int), ())⟩ : Sl _), ((⟨0, fun i => ((0 : Int), ())⟩ : Sl _), ((⟨0, fun i => ((0 : Int), ())⟩ : Sl _), ()))), (((⟨0, fun i => ((0 : Int), ())⟩ : Sl _), ((⟨0, fun i => ((0 : Int), ())⟩ : Sl _), ((⟨0, fun i => ((0 : Int), ())⟩ : Sl _), ()))), ())))))) (Sl.list (v93 (x.1, ())).1))).2.2.2.2.1.2.1, ())).1, ((v98 ((RO.getX (L48x0 ((), ((), ((), (((0 : Int), ((0 : Int), ((0 : Int), ((0 : Int), ((0 : Int), ((0 : Int), ())))))), (((⟨0, fun i => ((0 : Int), ())⟩ : Sl _), ((⟨0, fun i => ((0 : Int), ())⟩ : Sl _), ((⟨0, fun i => ((0 : Int), ())⟩ : Sl _), ()))), (((⟨0, fun i => ((0 : Int), ())⟩ : Sl _), ((⟨0, fun i => ((0 : Int), ())⟩ : Sl _), ((⟨0, fun i => ((0 : Int), ())⟩ : Sl _), ()))), ())))))) (Sl.list (v93 (x.1, ())).1))).2.2.2.2.2.1.2.1, ())).1, ((v97 (RO.getX (L48x0 ((), ((), ((), (((0 : Int), ((0 : Int), ((0 : Int), ((0 : Int), ((0 : Int), ((0 : Int), ())))))), (((⟨0, fun i => ((0 : Int), ())⟩ : Sl _), ((⟨0, fun i => ((0 : Int), ())⟩ : Sl _), ((⟨0, fun i => ((0 : Int), ())⟩ : Sl _), ()))), (((⟨0, fun i => ((0 : Int), ())⟩ : Sl _), ((⟨0, fun i => ((0 : Int), ())⟩ : Sl _), ((⟨0, fun i => ((0 : Int), ())⟩ : Sl _), ()))), ())))))) (Sl.list (v93 (x.1, ())).1))).2.2.2.2.1.2.2).1, (v98 (RO.getX (L48x0 ((), ((), ((), (((0 : Int), ((0 : Int), ((0 : Int), ((0 : Int), ((0 : Int), ((0 : Int), ())))))), (((⟨0, fun i => ((0 : Int), ())⟩ : Sl _), ((⟨0, fun i => ((0 : Int), ())⟩ : Sl _), ((⟨0, fun i => ((0 : Int), ())⟩ : Sl _), ()))), (((⟨0, fun i => ((0 : Int), ())⟩ : Sl _), ((⟨0, fun i => ((0 : Int), ())⟩ : Sl _), ((⟨0, fun i => ((0 : Int), ())⟩ : Sl _), ()))), ())))))) (Sl.list (v93 (x.1, ())).1))).2.2.2.2.2.1.2.2)))))), ((0 : Int), ()))) else l none else l none else l none else l none else l none else l none else bif (RO.isRet (L48x0 ((), ((), ((), (((0 : Int), ((0 : Int), ((0 : Int), ((0 : Int), ((0 : Int), ((0 : Int), ())))))), (((⟨0, fun i => ((0 : Int), ())⟩ : Sl _), ((⟨0, fun i => ((0 : Int), ())⟩ : Sl _), ((⟨0, fun i => ((0 : Int), ())⟩ : Sl _), ()))), (((⟨0, fun i => ((0 : Int), ())⟩ : Sl _), ((⟨0, fun i => ((0 : Int), ())⟩ : Sl _), ((⟨0, fun i => ((0 : Int), ())⟩ : Sl _), ()))), ())))))) (Sl.list (v93 (x.1, ())).1))) then l none else l none else l none else l none
theorem q48 (x : (a48).den) : runFn Try.prog E0 G48 Try.f48 l48 a48 r48 x = Q48 .leaf .any x := by kernel_rfl
def M48 (x : (a48).den) : Option (r48).den := Q48 (fun r => r) (fun _ _ => none) x
theorem m48 (x : (a48).den) : (runFn Try.prog E0 G48 Try.f48 l48 a48 r48 x).sure = M48 x := by rw [q48]; unfold M48 Q48; simp only [sure_cond, Tree.sure]
def p48 (x : (a48).den) : Bool := (M48 x).isSome
def v48 (x : (a48).den) : (r48).den := (M48 x).getD (r48).dflt
def k48 : Con := ⟨a48, r48, p48, v48⟩
theorem h48 : Holds Try.prog 48 k48 := holds_of_M' (E := E0) follows_ok g48 eqTy_sound keyTy_sound at48 bd48 (by kernel_rfl) m48 fun G' hlo hF hE => LsOK_kn (by rw [lo48]; exact .cons (rangeD_ok hE hF hlo at48 (by kernel_rfl) (by kernel_rfl) (by kernel_rfl) (by kernel_rfl) (by kernel_rfl) (fun G' hlo hF l hE => LsOK_nil) (fun G' hlo hF l hE => LsOK_kn (by rw [lo48x0]; exact .unr (LsOK_kn (by rw [lo48x0x0]; exact .cons (loopV_ok hE hF hlo (LsOK_kn (by rw [lo48x0x0x0]; exact .nil)) (by kernel_rfl) (by kernel_rfl) sp48x0x0x0 (fun _ => rfl) (fun _ _ => rfl) (s48x0x0x0) big) (.nil))) (.nil))) s48x0) (.unr (LsOK_kn (by rw [lo48x1]; exact .nil)) (.nil)))
/-- (isobar/kite.flight).blow$1 -/
noncomputable def c124 : Code := Try.f124.body.getD .skip
theorem at124 : Try.prog.funcs[124]? = some Try.f124 := by kernel_rfl
theorem bd124 : Try.f124.body = some c124 := by kernel_rfl
theorem cl124 : Callable Try.prog 124 := callable_of at124 (by kernel_rfl) (by kernel_rfl)
abbrev r124 : Ty := T3
abbrev ps124 : List Pat := [.agg 0 tII, .slot 1 (.ptr 5), .slot 2 (.ptr 34), .slot 3 (.ptr 88), .slot 4 (.ptr 3), .slot 5 (.ptr 61), .slot 6 (.ptr 115), .box 5 [.pc (.sl tII)], .box 34 [.pc tI, .pc tI], .box 88 [.mp 97], .box 3 fl16, .box 61 [.row 70], .box 115 [.clo 124 [5, 34, 88, 3, 61, 115]], .row 70 3 (.cons tI .nil), .mp 97 (.agg tII) .bool]
abbrev pans124 : List (Nat × Ty) := []
noncomputable def G124 : ((patsTy ps124).den → GO r124 (objPats ps124)) → Ctx := fun R124 => Ctx.of [(73, .pure k73), (118, .pure k118), (124, .gen (gappD Try.f124.ntmps r124 ps124 pans124 R124))]
theorem g124 (R124 : (patsTy ps124).den → GO r124 (objPats ps124)) (hR : GHolds Try.prog 124 (gappD Try.f124.ntmps r124 ps124 pans124 R124)) : Sound Try.prog (G124 R124) := sound_of (List.forall_mem_cons.2 ⟨⟨cl73, h73⟩, List.forall_mem_cons.2 ⟨⟨cl118, h118⟩, List.forall_mem_cons.2 ⟨⟨cl124, hR⟩, fun _ h => by cases h⟩⟩⟩)
noncomputable def b124x0 : Code := loopBody ((loopsOf (c124))[0]?)
theorem lo124x0 : loopsOf (b124x0) = [] := by kernel_rfl
abbrev cs124x0 : List Pat := [.slot 1 (.ptr 5), .slot 2 (.ptr 34), .slot 3 (.ptr 88), .slot 4 (.ptr 3), .slot 5 (.ptr 61), .slot 6 (.ptr 115), .slot 7 (.ptr 207), .slot 9 (.pc tI), .box 207 [.pc tI, .pc tI]]
abbrev vs124x0 : List Pat := [.slot 10 (.pc tI), .box 5 [.pc (.sl T1)], .box 34 [.pc tI, .pc tI], .box 88 [.mp 97], .box 3 [.pc (.sl T9), .pc tI, .pc tI, .pc tI, .pc tI, .pc tI, .pc tI, .pc tI, .pc tI, .pc tI, .pc tI, .pc tI, .pc tI, .pc tI, .pc tI, .pc tI], .box 61 [.row 70], .box 115 [.clo 124 [5, 34, 88, 3, 61, 115]], .mp 97 T4 .bool, .row 70 3 T0]
abbrev ps124x0 : List Pat := [.slot 1 (.ptr 5), .slot 2 (.ptr 34), .slot 3 (.ptr 88), .slot 4 (.ptr 3), .slot 5 (.ptr 61), .slot 6 (.ptr 115), .slot 7 (.ptr 207), .slot 9 (.pc tI), .box 207 [.pc tI, .pc tI], .slot 10 (.pc tI), .box 5 [.pc (.sl T1)], .box 34 [.pc tI, .pc tI], .box 88 [.mp 97], .box 3 [.pc (.sl T9), .pc tI, .pc tI, .pc tI, .pc tI, .pc tI, .pc tI, .pc tI, .pc tI, .pc tI, .pc tI, .pc tI, .pc tI, .pc tI, .pc tI, .pc tI], .box 61 [.row 70], .box 115 [.clo 124 [5, 34, 88, 3, 61, 115]], .mp 97 T4 .bool, .row 70 3 T0]
def j124x0 : (patsTy cs124x0).den → (patsTy vs124x0).den → (patsTy ps124x0).den := fun c v => (c.1, (c.2.1, (c.2.2.1, (c.2.2.2.1, (c.2.2.2.2.1, (c.2.2.2.2.2.1, (c.2.2.2.2.2.2.1, (c.2.2.2.2.2.2.2.1, (c.2.2.2.2.2.2.2.2.1, v)))))))))
def sp124x0 : (patsTy ps124x0).den → (patsTy cs124x0).den × (patsTy vs124x0).den := fun x => ((x.1, (x.2.1, (x.2.2.1, (x.2.2.2.1, (x.2.2.2.2.1, (x.2.2.2.2.2.1, (x.2.2.2.2.2.2.1, (x.2.2.2.2.2.2.2.1, (x.2.2.2.2.2.2.2.2.1, ()))))))))), x.2.2.2.2.2.2.2.2.2)
abbrev wy124x0 : Ways := ⟨[(0, [.slot 1 (.ptr 5), .slot 2 (.ptr 34), .slot 3 (.ptr 88), .slot 4 (.ptr 3), .slot 5 (.ptr 61), .slot 6 (.ptr 115), .slot 7 (.ptr 207), .box 207 [.pc tI, .pc tI], .box 5 [.pc (.sl T1)], .box 34 [.pc tI, .pc tI], .box 88 [.mp 97], .box 3 [.pc (.sl T9), .pc tI, .pc tI, .pc tI, .pc tI, .pc tI, .pc tI, .pc tI, .pc tI, .pc tI, .pc tI, .pc tI, .pc tI, .pc tI, .pc tI, .pc tI], .box 61 [.row 70], .box 115 [.clo 124 [5, 34, 88, 3, 61, 115]], .mp 97 T4 .bool, .row 70 3 T0])], [.slot 1 (.ptr 5), .slot 2 (.ptr 34), .slot 3 (.ptr 88), .slot 4 (.ptr 3), .slot 5 (.ptr 61), .slot 6 (.ptr 115), .slot 8 (.pc .bool), .box 5 [.pc (.sl T1)], .box 34 [.pc tI, .pc tI], .box 88 [.mp 97], .box 3 [.pc (.sl T9), .pc tI, .pc tI, .pc tI, .pc tI, .pc tI, .pc tI, .pc tI, .pc tI, .pc tI, .pc tI, .pc tI, .pc tI, .pc tI, .pc tI, .pc tI], .box 61 [.row 70], .box 115 [.clo 124 [5, 34, 88, 3, 61, 115]], .mp 97 T4 .bool, .row 70 3 T0], []⟩
abbrev wv124x0 : Ways := ⟨[(0, [.box 5 [.pc (.sl T1)], .box 34 [.pc tI, .pc tI], .box 88 [.mp 97], .box 3 [.pc (.sl T9), .pc tI, .pc tI, .pc tI, .pc tI, .pc tI, .pc tI, .pc tI, .pc tI, .pc tI, .pc tI, .pc tI, .pc tI, .pc tI, .pc tI, .pc tI], .box 61 [.row 70], .box 115 [.clo 124 [5, 34, 88, 3, 61, 115]], .mp 97 T4 .bool, .row 70 3 T0])], [.slot 8 (.pc .bool), .box 5 [.pc (.sl T1)], .box 34 [.pc tI, .pc tI], .box 88 [.mp 97], .box 3 [.pc (.sl T9), .pc tI, .pc tI, .pc tI, .pc tI, .pc tI, .pc tI, .pc tI, .pc tI, .pc tI, .pc tI, .pc tI, .pc tI, .pc tI, .pc tI, .pc tI], .box 61 [.row 70], .box 115 [.clo 124 [5, 34, 88, 3, 61, 115]], .mp 97 T4 .bool, .row 70 3 T0], []⟩
def je124x0 : (id : Nat) → (patsTy cs124x0).den → (patsTy (wayP wv124x0 id)).den → (patsTy (wayP wy124x0 id)).den := fun id => match id with | 0 => fun c y => (c.1, (c.2.1, (c.2.2.1, (c.2.2.2.1, (c.2.2.2.2.1, (c.2.2.2.2.2.1, (c.2.2.2.2.2.2.1, (c.2.2.2.2.2.2.2.2.1, y)))))))) | id => fun _ _ => (patsTy (wayP wy124x0 id)).dflt
def jr124x0 : (patsTy cs124x0).den → (patsTy (wv124x0).ret).den → (patsTy (wy124x0).ret).den := fun c y => (c.1, (c.2.1, (c.2.2.1, (c.2.2.2.1, (c.2.2.2.2.1, (c.2.2.2.2.2.1, y))))))
def Z124x0 (R124 : (patsTy ps124).den → GO r124 (objPats ps124)) {α : Type} (l : RQ vs124x0 wv124x0 → α) (an : α → α → α) (c : (patsTy cs124x0).den) (v : (patsTy vs124x0).den) : α := bif (decide (((0 : Int) ≤ c.2.2.2.2.2.2.2.2.1.1) ∧ (c.2.2.2.2.2.2.2.2.1.1 < ((v.2.1.1.n : Nat) : Int)))) then bif (decide (v.1 ≤ (v.2.1.1.g (Int.toNat c.2.2.2.2.2.2.2.2.1.1)).2.1)) then bif (decide (((0 : Int) ≤ c.2.2.2.2.2.2.2.2.1.1) ∧ (c.2.2.2.2.2.2.2.2.1.1 < ((v.2.2.2.2.2.2.2.2.1.n : Nat) : Int)))) then bif (GO.isOk (R124 (((W (c.2.2.2.2.2.2.2.2.1.1 + (1 : Int))), ((W (c.2.2.2.2.2.2.2.2.1.2.1 + (W (v.1 * c.2.2.2.2.2.2.2.1)))), ())), ((), ((), ((), ((), ((), ((), (v.2.1, (v.2.2.1, (((), ()), (v.2.2.2.2.1, (((), ()), (((), ()), ((setSl v.2.2.2.2.2.2.2.2.1 (Int.toNat c.2.2.2.2.2.2.2.2.1.1) (v.1, ())), (v.2.2.2.2.2.2.2.1, ()))))))))))))))))) then bif (!(GO.getR (R124 (((W (c.2.2.2.2.2.2.2.2.1.1 + (1 : Int))), ((W (c.2.2.2.2.2.2.2.2.1.2.1 + (W (v.1 * c.2.2.2.2.2.2.2.1)))), ())), ((), ((), ((), ((), ((), ((), (v.2.1, (v.2.2.1, (((), ()), (v.2.2.2.2.1, (((), ()), (((), ()), ((setSl v.2.2.2.2.2.2.2.2.1 (Int.toNat c.2.2.2.2.2.2.2.2.1.1) (v.1, ())), (v.2.2.2.2.2.2.2.1, ()))))))))))))))))).1) then l (.next ((W (v.1 + (1 : Int))), ((GO.getY (R124 (((W (c.2.2.2.2.2.2.2.2.1.1 + (1 : Int))), ((W (c.2.2.2.2.2.2.2.2.1.2.1 + (W (v.1 * c.2.2.2.2.2.2.2.1)))), ())), ((), ((), ((), ((), ((), ((), (v.2.1, (v.2.2.1, (((), ()), (v.2.2.2.2.1, (((), ()), (((), ()), ((setSl v.2.2.2.2.2.2.2.2.1 (Int.toNat c.2.2.2.2.2.2.2.2.1.1) (v.1, ())), (v.2.2.2.2.2.2.2.1, ()))))))))))))))))).1, ((GO.getY (R124 (((W (c.2.2.2.2.2.2.2.2.1.1 + (1 : Int))), ((W (c.2.2.2.2.2.2.2.2.1.2.1 + (W (v.1 * c.2.2.2.2.2.2.2.1)))), ())), ((), ((), ((), ((), ((), ((), (v.2.1, (v.2.2.1, (((), ()), (v.2.2.2.2.1, (((), ()), (((), ()), ((setSl v.2.2.2.2.2.2.2.2.1 (Int.toNat c.2.2.2.2.2.2.2.2.1.1) (v.1, ())), (v.2.2.2.2.2.2.2.1, ()))))))))))))))))).2.1, (((), ()), ((GO.getY (R124 (((W (c.2.2.2.2.2.2.2.2.1.1 + (1 : Int))), ((W (c.2.2.2.2.2.2.2.2.1.2.1 + (W (v.1 * c.2.2.2.2.2.2.2.1)))), ())), ((), ((), ((), ((), ((), ((), (v.2.1, (v.2.2.1, (((), ()), (v.2.2.2.2.1, (((), ()), (((), ()), ((setSl v.2.2.2.2.2.2.2.2.1 (Int.toNat c.2.2.2.2.2.2.2.2.1.1) (v.1, ())), (v.2.2.2.2.2.2.2.1, ()))))))))))))))))).2.2.2.1, (((), ()), (((), ()), ((GO.getY (R124 (((W (c.2.2.2.2.2.2.2.2.1.1 + (1 : Int))), ((W (c.2.2.2.2.2.2.2.2.1.2.1 + (W (v.1 * c.2.2.2.2.2.2.2.1)))), ())), ((), ((), ((), ((), ((), ((), (v.2.1, (v.2.2.1, (((), ()), (v.2.2.2.2.1, (((), ()), (((), ()), ((setSl v.2.2.2.2.2.2.2.2.1 (Int.toNat c.2.2.2.2.2.2.2.2.1.1) (v.1, ())), (v.2.2.2.2.2.2.2.1, ()))))))))))))))))).2.2.2.2.2.2.2.1, ((GO.getY (R124 (((W (c.2.2.2.2.2.2.2.2.1.1 + (1 : Int))), ((W (c.2.2.2.2.2.2.2.2.1.2.1 + (W (v.1 * c.2.2.2.2.2.2.2.1)))), ())), ((), ((), ((), ((), ((), ((), (v.2.1, (v.2.2.1, (((), ()), (v.2.2.2.2.1, (((), ()), (((), ()), ((setSl v.2.2.2.2.2.2.2.2.1 (Int.toNat c.2.2.2.2.2.2.2.2.1.1) (v.1, ())), (v.2.2.2.2.2.2.2.1, ()))))))))))))))))).2.2.2.2.2.2.1, ())))))))))) else bif (decide (((0 : Int) ≤ c.2.2.2.2.2.2.2.2.1.1) ∧ (c.2.2.2.2.2.2.2.2.1.1 < (((GO.getY (R124 (((W (c.2.2.2.2.2.2.2.2.1.1 + (1 : Int))), ((W (c.2.2.2.2.2.2.2.2.1.2.1 + (W (v.1 * c.2.2.2.2.2.2.2.1)))), ())), ((), ((), ((), ((), ((), ((), (v.2.1, (v.2.2.1, (((), ()), (v.2.2.2.2.1, (((), ()), (((), ()), ((setSl v.2.2.2.2.2.2.2.2.1 (Int.toNat c.2.2.2.2.2.2.2.2.1.1) (v.1, ())), (v.2.2.2.2.2.2.2.1, ()))))))))))))))))).2.2.2.2.2.2.1.n : Nat) : Int)))) then l (.out (.ret (true, ((GO.getY (R124 (((W (c.2.2.2.2.2.2.2.2.1.1 + (1 : Int))), ((W (c.2.2.2.2.2.2.2.2.1.2.1 + (W (v.1 * c.2.2.2.2.2.2.2.1)))), ())), ((), ((), ((), ((), ((), ((), (v.2.1, (v.2.2.1, (((), ()), (v.2.2.2.2.1, (((), ()), (((), ()), ((setSl v.2.2.2.2.2.2.2.2.1 (Int.toNat c.2.2.2.2.2.2.2.2.1.1) (v.1, ())), (v.2.2.2.2.2.2.2.1, ()))))))))))))))))).1, ((GO.getY (R124 (((W (c.2.2.2.2.2.2.2.2.1.1 + (1 : Int))), ((W (c.2.2.2.2.2.2.2.2.1.2.1 + (W (v.1 * c.2.2.2.2.2.2.2.1)))), ())), ((), ((), ((), ((), ((), ((), (v.2.1, (v.2.2.1, (((), ()), (v.2.2.2.2.1, (((), ()), (((), ()), ((setSl v.2.2.2.2.2.2.2.2.1 (Int.toNat c.2.2.2.2.2.2.2.2.1.1) (v.1, ())), (v.2.2.2.2.2.2.2.1, ()))))))))))))))))).2.1, (((), ()), ((GO.getY (R124 (((W (c.2.2.2.2.2.2.2.2.1.1 + (1 : Int))), ((W (c.2.2.2.2.2.2.2.2.1.2.1 + (W (v.1 * c.2.2.2.2.2.2.2.1)))), ())), ((), ((), ((), ((), ((), ((), (v.2.1, (v.2.2.1, (((), ()), (v.2.2.2.2.1, (((), ()), (((), ()), ((setSl v.2.2.2.2.2.2.2.2.1 (Int.toNat c.2.2.2.2.2.2.2.2.1.1) (v.1, ())), (v.2.2.2.2.2.2.2.1, ()))))))))))))))))).2.2.2.1, (((), ()), (((), ()), ((GO.getY (R124 (((W (c.2.2.2.2.2.2.2.2.1.1 + (1 : Int))), ((W (c.2.2.2.2.2.2.2.2.1.2.1 + (W (v.1 * c.2.2.2.2.2.2.2.1)))), ())), ((), ((), ((), ((), ((), ((), (v.2.1, (v.2.2.1, (((), ()), (v.2.2.2.2.1, (((), ()), (((), ()), ((setSl v.2.2.2.2.2.2.2.2.1 (Int.toNat c.2.2.2.2.2.2.2.2.1.1) (v.1, ())), (v.2.2.2.2.2.2.2.1, ()))))))))))))))))).2.2.2.2.2.2.2.1, ((setSl (GO.getY (R124 (((W (c.2.2.2.2.2.2.2.2.1.1 + (1 : Int))), ((W (c.2.2.2.2.2.2.2.2.1.2.1 + (W (v.1 * c.2.2.2.2.2.2.2.1)))), ())), ((), ((), ((), ((), ((), ((), (v.2.1, (v.2.2.1, (((), ()), (v.2.2.2.2.1, (((), ()), (((), ()), ((setSl v.2.2.2.2.2.2.2.2.1 (Int.toNat c.2.2.2.2.2.2.2.2.1.1) (v.1, ())), (v.2.2.2.2.2.2.2.1, ()))))))))))))))))).2.2.2.2.2.2.1 (Int.toNat c.2.2.2.2.2.2.2.2.1.1) (v.1, ())), ()))))))))))) else l .bad else l .bad else l .bad else l (.out (.exit 0 (v.2.1, (v.2.2.1, (((), ()), (v.2.2.2.2.1, (((), ()), (((), ()), v.2.2.2.2.2.2.2)))))))) else l .bad
theorem z124x0 (R124 : (patsTy ps124).den → GO r124 (objPats ps124)) (c : (patsTy cs124x0).den) (v : (patsTy vs124x0).den) : roundQ Try.prog E0 (G124 R124) 200 68 [] ps124x0 wy124x0 b124x0 [] (j124x0 c v) = Z124x0 R124 (fun r => .leaf (r.lift j124x0 je124x0 jr124x0 c)) .any c v := by kernel_rfl
def S124x0 (R124 : (patsTy ps124).den → GO r124 (objPats ps124)) (c : (patsTy cs124x0).den) (v : (patsTy vs124x0).den) : RQ vs124x0 wv124x0 := Z124x0 R124 (fun r => r) (fun _ _ => .bad) c v
theorem s124x0 (R124 : (patsTy ps124).den → GO r124 (objPats ps124)) (c : (patsTy cs124x0).den) (v : (patsTy vs124x0).den) : detQ (roundQ Try.prog E0 (G124 R124) 200 68 [] ps124x0 wy124x0 b124x0 [] (j124x0 c v)) = (S124x0 R124 c v).lift j124x0 je124x0 jr124x0 c := by rw [z124x0]; unfold S124x0 Z124x0; simp only [detQ_cond, lift_cond, lift_bad, detQ]
def L124x0 (R124 : (patsTy ps124).den → GO r124 (objPats ps124)) (c : (patsTy cs124x0).den) (v : (patsTy vs124x0).den) : LQ wv124x0 := iterQ (S124x0 R124 c) big v
theorem lo124 : loopsOf (c124) = [.loop b124x0] := by kernel_rfl
noncomputable def l124 : ((patsTy ps124).den → GO r124 (objPats ps124)) → List Loop := fun R124 => [.known (loopF 200 [] ps124x0 fun x => spreadV wy124x0 je124x0 jr124x0 true (sp124x0 x).1 (L124x0 R124 (sp124x0 x).1 (sp124x0 x).2) wy124x0.exits)]
def Q124 (R124 : (patsTy ps124).den → GO r124 (objPats ps124)) {α : Type} (l : GO r124 (objPats ps124) → α) (an : α → α → α) (x : (patsTy ps124).den) : α := bif (decide (x.1.1 = ((x.2.2.2.2.2.2.2.1.1.n : Nat) : Int))) then bif (p73 (x.1.2.1, (x.2.2.2.2.2.2.2.2.1, ()))) then bif (bif (Nat.beq x.2.2.2.2.2.2.2.2.2.2.2.2.2.1.n x.2.2.2.2.2.2.2.2.2.2.2.2.2.1.n) then true else false) then l (.ok (v73 (x.1.2.1, (x.2.2.2.2.2.2.2.2.1, ()))) (x.2.2.2.2.2.2.2.1, (x.2.2.2.2.2.2.2.2.1, (((), ()), (x.2.2.2.2.2.2.2.2.2.2.1, (((), ()), (((), ()), x.2.2.2.2.2.2.2.2.2.2.2.2.2))))))) else l .bad else l .bad else bif (Option.getD (x.2.2.2.2.2.2.2.2.2.2.2.2.2.2.1 x.1) false) then bif (bif (Nat.beq x.2.2.2.2.2.2.2.2.2.2.2.2.2.1.n x.2.2.2.2.2.2.2.2.2.2.2.2.2.1.n) then true else false) then l (.ok (false, ()) (x.2.2.2.2.2.2.2.1, (x.2.2.2.2.2.2.2.2.1, (((), ()), (x.2.2.2.2.2.2.2.2.2.2.1, (((), ()), (((), ()), x.2.2.2.2.2.2.2.2.2.2.2.2.2))))))) else l .bad else bif (p118 (x.2.2.2.2.2.2.2.2.2.2.1, (x.1.1, ()))) then bif (decide (((0 : Int) ≤ x.1.1) ∧ (x.1.1 < ((x.2.2.2.2.2.2.2.1.1.n : Nat) : Int)))) then bif (LQ.isExit (L124x0 R124 ((), ((), ((), ((), ((), ((), ((), ((v118 (x.2.2.2.2.2.2.2.2.2.2.1, (x.1.1, ()))).1, (x.1, ()))))))))) ((x.2.2.2.2.2.2.2.1.1.g (Int.toNat x.1.1)).1, (x.2.2.2.2.2.2.2.1, (x.2.2.2.2.2.2.2.2.1, (((), ()), (x.2.2.2.2.2.2.2.2.2.2.1, (((), ()), (((), ()), (x.2.2.2.2.2.2.2.2.2.2.2.2.2.2.1, (x.2.2.2.2.2.2.2.2.2.2.2.2.2.1, ())))))))))) 0) then bif (bif (Nat.beq x.2.2.2.2.2.2.2.2.2.2.2.2.2.1.n (LQ.getExit (L124x0 R124 ((), ((), ((), ((), ((), ((), ((), ((v118 (x.2.2.2.2.2.2.2.2.2.2.1, (x.1.1, ()))).1, (x.1, ()))))))))) ((x.2.2.2.2.2.2.2.1.1.g (Int.toNat x.1.1)).1, (x.2.2.2.2.2.2.2.1, (x.2.2.2.2.2.2.2.2.1, (((), ()), (x.2.2.2.2.2.2.2.2.2.2.1, (((), ()), (((), ()), (x.2.2.2.2.2.2.2.2.2.2.2.2.2.2.1, (x.2.2.2.2.2.2.2.2.2.2.2.2.2.1, ())))))))))) 0).2.2.2.2.2.2.2.1.n) then true else false) then l (.ok (false, ()) ((LQ.getExit (L124x0 R124 ((), ((), ((), ((), ((), ((), ((), ((v118 (x.2.2.2.2.2.2.2.2.2.2.1, (x.1.1, ()))).1, (x.1, ()))))))))) ((x.2.2.2.2.2.2.2.1.1.g (Int.toNat x.1.1)).1, (x.2.2.2.2.2.2.2.1, (x.2.2.2.2.2.2.2.2.1, (((), ()), (x.2.2.2.2.2.2.2.2.2.2.1, (((), ()), (((), ()), (x.2.2.2.2.2.2.2.2.2.2.2.2.2.2.1, (x.2.2.2.2.2.2.2.2.2.2.2.2.2.1, ())))))))))) 0).1, ((LQ.getExit (L124x0 R124 ((), ((), ((), ((), ((), ((), ((), ((v118 (x.2.2.2.2.2.2.2.2.2.2.1, (x.1.1, ()))).1, (x.1, ()))))))))) ((x.2.2.2.2.2.2.2.1.1.g (Int.toNat x.1.1)).1, (x.2.2.2.2.2.2.2.1, (x.2.2.2.2.2.2.2.2.1, (((), ()), (x.2.2.2.2.2.2.2.2.2.2.1, (((), ()), (((), ()), (x.2.2.2.2.2.2.2.2.2.2.2.2.2.2.1, (x.2.2.2.2.2.2.2.2.2.2.2.2.2.1, ())))))))))) 0).2.1, (((), ()), ((LQ.getExit (L124x0 R124 ((), ((), ((), ((), ((), ((), ((), ((v118 (x.2.2.2.2.2.2.2.2.2.2.1, (x.1.1, ()))).1, (x.1, ()))))))))) ((x.2.2.2.2.2.2.2.1.1.g (Int.toNat x.1.1)).1, (x.2.2.2.2.2.2.2.1, (x.2.2.2.2.2.2.2.2.1, (((), ()), (x.2.2.2.2.2.2.2.2.2.2.1, (((), ()), (((), ()), (x.2.2.2.2.2.2.2.2.2.2.2.2.2.2.1, (x.2.2.2.2.2.2.2.2.2.2.2.2.2.1, ())))))))))) 0).2.2.2.1, (((), ()), (((), ()), ((LQ.getExit (L124x0 R124 ((), ((), ((), ((), ((), ((), ((), ((v118 (x.2.2.2.2.2.2.2.2.2.2.1, (x.1.1, ()))).1, (x.1, ()))))))))) ((x.2.2.2.2.2.2.2.1.1.g (Int.toNat x.1.1)).1, (x.2.2.2.2.2.2.2.1, (x.2.2.2.2.2.2.2.2.1, (((), ()), (x.2.2.2.2.2.2.2.2.2.2.1, (((), ()), (((), ()), (x.2.2.2.2.2.2.2.2.2.2.2.2.2.2.1, (x.2.2.2.2.2.2.2.2.2.2.2.2.2.1, ())))))))))) 0).2.2.2.2.2.2.2.1, ((setMap (eqD T4) (LQ.getExit (L124x0 R124 ((), ((), ((), ((), ((), ((), ((), ((v118 (x.2.2.2.2.2.2.2.2.2.2.1, (x.1.1, ()))).1, (x.1, ()))))))))) ((x.2.2.2.2.2.2.2.1.1.g (Int.toNat x.1.1)).1, (x.2.2.2.2.2.2.2.1, (x.2.2.2.2.2.2.2.2.1, (((), ()), (x.2.2.2.2.2.2.2.2.2.2.1, (((), ()), (((), ()), (x.2.2.2.2.2.2.2.2.2.2.2.2.2.2.1, (x.2.2.2.2.2.2.2.2.2.2.2.2.2.1, ())))))))))) 0).2.2.2.2.2.2.1 x.1 true), ()))))))))) else l .bad else bif (LQ.isRet (L124x0 R124 ((), ((), ((), ((), ((), ((), ((), ((v118 (x.2.2.2.2.2.2.2.2.2.2.1, (x.1.1, ()))).1, (x.1, ()))))))))) ((x.2.2.2.2.2.2.2.1.1.g (Int.toNat x.1.1)).1, (x.2.2.2.2.2.2.2.1, (x.2.2.2.2.2.2.2.2.1, (((), ()), (x.2.2.2.2.2.2.2.2.2.2.1, (((), ()), (((), ()), (x.2.2.2.2.2.2.2.2.2.2.2.2.2.2.1, (x.2.2.2.2.2.2.2.2.2.2.2.2.2.1, ()))))))))))) then bif (bif (Nat.beq x.2.2.2.2.2.2.2.2.2.2.2.2.2.1.n (LQ.getRet (L124x0 R124 ((), ((), ((), ((), ((), ((), ((), ((v118 (x.2.2.2.2.2.2.2.2.2.2.1, (x.1.1, ()))).1, (x.1, ()))))))))) ((x.2.2.2.2.2.2.2.1.1.g (Int.toNat x.1.1)).1, (x.2.2.2.2.2.2.2.1, (x.2.2.2.2.2.2.2.2.1, (((), ()), (x.2.2.2.2.2.2.2.2.2.2.1, (((), ()), (((), ()), (x.2.2.2.2.2.2.2.2.2.2.2.2.2.2.1, (x.2.2.2.2.2.2.2.2.2.2.2.2.2.1, ()))))))))))).2.2.2.2.2.2.2.2.1.n) then true else false) then l (.ok ((LQ.getRet (L124x0 R124 ((), ((), ((), ((), ((), ((), ((), ((v118 (x.2.2.2.2.2.2.2.2.2.2.1, (x.1.1, ()))).1, (x.1, ()))))))))) ((x.2.2.2.2.2.2.2.1.1.g (Int.toNat x.1.1)).1, (x.2.2.2.2.2.2.2.1, (x.2.2.2.2.2.2.2.2.1, (((), ()), (x.2.2.2.2.2.2.2.2.2.2.1, (((), ()), (((), ()), (x.2.2.2.2.2.2.2.2.2.2.2.2.2.2.1, (x.2.2.2.2.2.2.2.2.2.2.2.2.2.1, ()))))))))))).1, ()) ((LQ.getRet (L124x0 R124 ((), ((), ((), ((), ((), ((), ((), ((v118 (x.2.2.2.2.2.2.2.2.2.2.1, (x.1.1, ()))).1, (x.1, ()))))))))) ((x.2.2.2.2.2.2.2.1.1.g (Int.toNat x.1.1)).1, (x.2.2.2.2.2.2.2.1, (x.2.2.2.2.2.2.2.2.1, (((), ()), (x.2.2.2.2.2.2.2.2.2.2.1, (((), ()), (((), ()), (x.2.2.2.2.2.2.2.2.2.2.2.2.2.2.1, (x.2.2.2.2.2.2.2.2.2.2.2.2.2.1, ()))))))))))).2.1, ((LQ.getRet (L124x0 R124 ((), ((), ((), ((), ((), ((), ((), ((v118 (x.2.2.2.2.2.2.2.2.2.2.1, (x.1.1, ()))).1, (x.1, ()))))))))) ((x.2.2.2.2.2.2.2.1.1.g (Int.toNat x.1.1)).1, (x.2.2.2.2.2.2.2.1, (x.2.2.2.2.2.2.2.2.1, (((), ()), (x.2.2.2.2.2.2.2.2.2.2.1, (((), ()), (((), ()), (x.2.2.2.2.2.2.2.2.2.2.2.2.2.2.1, (x.2.2.2.2.2.2.2.2.2.2.2.2.2.1, ()))))))))))).2.2.1, (((), ()), ((LQ.getRet (L124x0 R124 ((), ((), ((), ((), ((), ((), ((), ((v118 (x.2.2.2.2.2.2.2.2.2.2.1, (x.1.1, ()))).1, (x.1, ()))))))))) ((x.2.2.2.2.2.2.2.1.1.g (Int.toNat x.1.1)).1, (x.2.2.2.2.2.2.2.1, (x.2.2.2.2.2.2.2.2.1, (((), ()), (x.2.2.2.2.2.2.2.2.2.2.1, (((), ()), (((), ()), (x.2.2.2.2.2.2.2.2.2.2.2.2.2.2.1, (x.2.2.2.2.2.2.2.2.2.2.2.2.2.1, ()))))))))))).2.2.2.2.1, (((), ()), (((), ()), ((LQ.getRet (L124x0 R124 ((), ((), ((), ((), ((), ((), ((), ((v118 (x.2.2.2.2.2.2.2.2.2.2.1, (x.1.1, ()))).1, (x.1, ()))))))))) ((x.2.2.2.2.2.2.2.1.1.g (Int.toNat x.1.1)).1, (x.2.2.2.2.2.2.2.1, (x.2.2.2.2.2.2.2.2.1, (((), ()), (x.2.2.2.2.2.2.2.2.2.2.1, (((), ()), (((), ()), (x.2.2.2.2.2.2.2.2.2.2.2.2.2.2.1, (x.2.2.2.2.2.2.2.2.2.2.2.2.2.1, ()))))))))))).2.2.2.2.2.2.2.2.1, ((LQ.getRet (L124x0 R124 ((), ((), ((), ((), ((), ((), ((), ((v118 (x.2.2.2.2.2.2.2.2.2.2.1, (x.1.1, ()))).1, (x.1, ()))))))))) ((x.2.2.2.2.2.2.2.1.1.g (Int.toNat x.1.1)).1, (x.2.2.2.2.2.2.2.1, (x.2.2.2.2.2.2.2.2.1, (((), ()), (x.2.2.2.2.2.2.2.2.2.2.1, (((), ()), (((), ()), (x.2.2.2.2.2.2.2.2.2.2.2.2.2.2.1, (x.2.2.2.2.2.2.2.2.2.2.2.2.2.1, ()))))))))))).2.2.2.2.2.2.2.1, ()))))))))) else l .bad else l .bad else l .bad else l .bad
theorem q124 (R124 : (patsTy ps124).den → GO r124 (objPats ps124)) (x : (patsTy ps124).den) : runG Try.prog E0 (G124 R124) Try.f124 (l124 R124) 200 r124 ps124 x = Q124 R124 .leaf .any x := by kernel_rfl
def U124 (R124 : (patsTy ps124).den → GO r124 (objPats ps124)) (x : (patsTy ps124).den) : GO r124 (objPats ps124) := Q124 R124 (fun r => r) (fun _ _ => .bad) x
theorem m124 (R124 : (patsTy ps124).den → GO r124 (objPats ps124)) (x : (patsTy ps124).den) : (runG Try.prog E0 (G124 R124) Try.f124 (l124 R124) 200 r124 ps124 x).detB .bad = U124 R124 x := by rw [q124]; unfold U124 Q124; simp only [detB_cond, Tree.detB]
theorem hr124 (R124 : (patsTy ps124).den → GO r124 (objPats ps124)) (hR : GHolds Try.prog 124 (gappD Try.f124.ntmps r124 ps124 pans124 R124)) : GHolds Try.prog 124 (gappD Try.f124.ntmps r124 ps124 pans124 (U124 R124)) := gappD_holds (E := E0) follows_ok (g124 R124 hR) eqTy_sound keyTy_sound at124 bd124 (by kernel_rfl) (fun G' hlo hF hE => LsOK_kn (by rw [lo124]; exact .cons (loopV_ok hE hF hlo (LsOK_kn (by rw [lo124x0]; exact .nil)) (by kernel_rfl) (by kernel_rfl) sp124x0 (fun _ => rfl) (fun _ _ => rfl) (s124x0 R124) big) (.nil))) pans124 (m124 R124)
def F124 : Nat → (patsTy ps124).den → GO r124 (objPats ps124)
  | 0 => fun _ => .bad
  | n + 1 => U124 (F124 n)
theorem h124 : ∀ n, GHolds Try.prog 124 (gappD Try.f124.ntmps r124 ps124 pans124 (F124 n))
  | 0 => gappD_bad
  | n + 1 => hr124 _ (h124 n)
/-- (isobar/kite.flight).blow -/
noncomputable def c122 : Code := Try.f122.body.getD .skip
theorem at122 : Try.prog.funcs[122]? = some Try.f122 := by kernel_rfl
theorem bd122 : Try.f122.body = some c122 := by kernel_rfl
theorem cl122 : Callable Try.prog 122 := callable_of at122 (by kernel_rfl) (by kernel_rfl)
abbrev T77 : Ty := (.cons tI T51)
abbrev T78 : Ty := (.cons T57 T77)
abbrev T79 : Ty := (.cons (.sl T0) T3)
abbrev a122 : Ty := T78
abbrev r122 : Ty := T79
noncomputable def G122 : Ctx := Ctx.of [(123, .pure k123), (124, .gen (gappD Try.f124.ntmps r124 ps124 pans124 (F124 6)))]
theorem g122 : Sound Try.prog (G122) := sound_of (List.forall_mem_cons.2 ⟨⟨cl123, h123⟩, List.forall_mem_cons.2 ⟨⟨cl124, h124 6⟩, fun _ h => by cases h⟩⟩)
theorem lo122 : loopsOf (c122) = [] := by kernel_rfl
noncomputable def l122 : List Loop := []
def Q122 {α : Type} (l : Option (r122).den → α) (an : α → α → α) (x : (a122).den) : α := bif (p123 (x.1, (x.2.1, ()))) then bif (decide (((0 : Int) ≤ ((x.2.2.1.n : Nat) : Int)) ∧ ((((x.2.2.1.n : Nat) : Int) ≤ (281474976710656 : Int)) ∧ ((((x.2.2.1.n : Nat) : Int) * (8 : Int)) ≤ (281474976710656 : Int))))) then bif (GO.isOk (F124 6 (((0 : Int), ((0 : Int), ())), ((), ((), ((), ((), ((), ((), (x.2.2, ((v123 (x.1, (x.2.1, ()))).1, (((), ()), (x.1, (((), ()), (((), ()), ((⟨(Int.toNat ((x.2.2.1.n : Nat) : Int)), fun i => ((0 : Int), ())⟩ : Sl _), ((fun y1 => none), ()))))))))))))))))) then l (some ((GO.getY (F124 6 (((0 : Int), ((0 : Int), ())), ((), ((), ((), ((), ((), ((), (x.2.2, ((v123 (x.1, (x.2.1, ()))).1, (((), ()), (x.1, (((), ()), (((), ()), ((⟨(Int.toNat ((x.2.2.1.n : Nat) : Int)), fun i => ((0 : Int), ())⟩ : Sl _), ((fun y1 => none), ()))))))))))))))))).2.2.2.2.2.2.1, (GO.getR (F124 6 (((0 : Int), ((0 : Int), ())), ((), ((), ((), ((), ((), ((), (x.2.2, ((v123 (x.1, (x.2.1, ()))).1, (((), ()), (x.1, (((), ()), (((), ()), ((⟨(Int.toNat ((x.2.2.1.n : Nat) : Int)), fun i => ((0 : Int), ())⟩ : Sl _), ((fun y1 => none), ()))))))))))))))))))) else l none else l none else l none
theorem q122 (x : (a122).den) : runFn Try.prog E0 G122 Try.f122 l122 a122 r122 x = Q122 .leaf .any x := by kernel_rfl
def M122 (x : (a122).den) : Option (r122).den := Q122 (fun r => r) (fun _ _ => none) x
theorem m122 (x : (a122).den) : (runFn Try.prog E0 G122 Try.f122 l122 a122 r122 x).sure = M122 x := by rw [q122]; unfold M122 Q122; simp only [sure_cond, Tree.sure]
def p122 (x : (a122).den) : Bool := (M122 x).isSome
def v122 (x : (a122).den) : (r122).den := (M122 x).getD (r122).dflt
def k122 : Con := ⟨a122, r122, p122, v122⟩
theorem h122 : Holds Try.prog 122 k122 := holds_of_M' (E := E0) follows_ok g122 eqTy_sound keyTy_sound at122 bd122 (by kernel_rfl) m122 fun G' hlo hF hE => LsOK_kn (by rw [lo122]; exact .nil)
def X94 {α : Type} (l : Option FR → α) (an : α → α → α) (x : (a94).den) : α := bif (decide ((x.2.1 < (2 : Int)) ∧ ((0 : Int) ≤ x.2.1))) then bif (decide (((Int.toNat x.2.1) * 1) < 2)) then bif (LQ.isExit (L94x0 ((List.getD [(fun y1 => ((p116 (x.1, y1)), (v116 (x.1, y1)))), (fun y1 => ((p117 (x.1, y1)), (v117 (x.1, y1))))] ((Int.toNat x.2.1) * 1) (fun y1 => ((p116 (x.1, y1)), (v116 (x.1, y1))))), (((x.1.1.n : Nat) : Int), ())) ((⟨0, fun i => ((0 : Int), ((0 : Int), ()))⟩ : Sl _), ((0 : Int), ()))) 0) then l (some ⟨23, T1, (LQ.getExit (L94x0 ((List.getD [(fun y1 => ((p116 (x.1, y1)), (v116 (x.1, y1)))), (fun y1 => ((p117 (x.1, y1)), (v117 (x.1, y1))))] ((Int.toNat x.2.1) * 1) (fun y1 => ((p116 (x.1, y1)), (v116 (x.1, y1))))), (((x.1.1.n : Nat) : Int), ())) ((⟨0, fun i => ((0 : Int), ((0 : Int), ()))⟩ : Sl _), ((0 : Int), ()))) 0).1⟩) else l none else l none else l none
theorem x94 (x : (a94).den) : runF Try.prog E0 G94 Try.f94 l94 4 a94 x = X94 .leaf .any x := by kernel_rfl
def R94 (x : (a94).den) : Option (Sl (Ty.den T1)) := frOf 23 T1 (X94 (fun r => r) (fun _ _ => none) x)
theorem r94xeq (x : (a94).den) : frOf 23 T1 (runF Try.prog E0 G94 Try.f94 l94 4 a94 x).sure = R94 x := by rw [x94]; unfold R94 X94; simp only [sure_cond, Tree.sure]
theorem hw94 : GHolds Try.prog 94 (rowD Try.f94.ntmps a94 23 T1 R94) := rowD_holds (E := E0) follows_ok g94 eqTy_sound keyTy_sound at94 bd94 (by kernel_rfl) (fun G' hlo hF hE => LsOK_kn (by rw [lo94]; exact .cons (loopV_ok hE hF hlo (LsOK_kn (by rw [lo94x0]; exact .nil)) (by kernel_rfl) (by kernel_rfl) sp94x0 (fun _ => rfl) (fun _ _ => rfl) (s94x0) big) (.nil))) r94xeq
/-- (isobar/kite.flight).try -/
noncomputable def c109 : Code := Try.f109.body.getD .skip
theorem at109 : Try.prog.funcs[109]? = some Try.f109 := by kernel_rfl
theorem bd109 : Try.f109.body = some c109 := by kernel_rfl
theorem cl109 : Callable Try.prog 109 := callable_of at109 (by kernel_rfl) (by kernel_rfl)
abbrev r109 : Ty := .nil
abbrev ps109 : List Pat := [.agg 0 (.cons (.sl (.cons tI (.cons tI (.cons tI (.cons tI (.cons tI .nil)))))) (.cons tI (.cons tI (.cons tI (.cons tI (.cons tI (.cons tI (.cons tI (.cons tI (.cons tI (.cons tI (.cons tI (.cons tI (.cons tI (.cons tI (.cons tI .nil)))))))))))))))), .agg 1 (.cons tI (.cons tI (.cons tI (.cons tI .nil))))]
abbrev pans109 : List (Nat × Ty) := [(152, .agg (.cons tI (.cons tI (.cons tI (.cons tL (.cons tL .nil))))))]
noncomputable def G109 : Ctx := Ctx.of [(73, .pure k73), (94, .gen (rowD Try.f94.ntmps a94 23 T1 R94)), (96, .pure k96), (122, .pure k122)]
theorem g109 : Sound Try.prog (G109) := sound_of (List.forall_mem_cons.2 ⟨⟨cl73, h73⟩, List.forall_mem_cons.2 ⟨⟨cl94, hw94⟩, List.forall_mem_cons.2 ⟨⟨cl96, h96⟩, List.forall_mem_cons.2 ⟨⟨cl122, h122⟩, fun _ h => by cases h⟩⟩⟩⟩)
noncomputable def b109x0 : Code := loopBody ((loopsOf (c109))[0]?)
theorem lo109x0 : loopsOf (b109x0) = [] := by kernel_rfl
theorem lo109 : loopsOf (c109) = [.loop b109x0] := by kernel_rfl
noncomputable def l109 : List Loop := [.unroll 3 []]
def Q109 {α : Type} (l : GO r109 (objPats ps109) → α) (an : α → α → α) (x : (patsTy ps109).den) : α := bif (p96 (x.1, ())) then bif (p73 ((v96 (x.1, ())).1, ((x.1.2.2.2.2.2.2.2.2.2.2.2.1, (x.1.2.2.2.2.2.2.2.2.2.2.2.2.1, ())), ()))) then bif (!(v73 ((v96 (x.1, ())).1, ((x.1.2.2.2.2.2.2.2.2.2.2.2.1, (x.1.2.2.2.2.2.2.2.2.2.2.2.2.1, ())), ()))).1) then l (.ok () ()) else bif (Option.isSome (R94 (x.1, ((0 : Int), ())))) then bif (Nat.blt 0 (Option.getD (R94 (x.1, ((0 : Int), ()))) (⟨0, fun i => ((0 : Int), ((0 : Int), ()))⟩ : Sl (Ty.den T1))).n) then bif (decide ((0 : Int) = x.2.1.2.1)) then bif (decide (((0 : Int) ≤ x.2.1.1) ∧ (x.2.1.1 < (((Option.getD (R94 (x.1, ((0 : Int), ()))) (⟨0, fun i => ((0 : Int), ((0 : Int), ()))⟩ : Sl (Ty.den T1))).n : Nat) : Int)))) then bif (p122 (x.1, ((0 : Int), ((setSl (Option.getD (R94 (x.1, ((0 : Int), ()))) (⟨0, fun i => ((0 : Int), ((0 : Int), ()))⟩ : Sl (Ty.den T1))) (Int.toNat x.2.1.1) x.2.1.2.2), ())))) then bif (!(v122 (x.1, ((0 : Int), ((setSl (Option.getD (R94 (x.1, ((0 : Int), ()))) (⟨0, fun i => ((0 : Int), ((0 : Int), ()))⟩ : Sl (Ty.den T1))) (Int.toNat x.2.1.1) x.2.1.2.2), ())))).2.1) then l (.ok () ()) else bif (Option.isSome (R94 (x.1, ((1 : Int), ())))) then bif (Nat.blt 0 (Option.getD (R94 (x.1, ((1 : Int), ()))) (⟨0, fun i => ((0 : Int), ((0 : Int), ()))⟩ : Sl (Ty.den T1))).n) then bif (decide ((1 : Int) = x.2.1.2.1)) then bif (decide (((0 : Int) ≤ x.2.1.1) ∧ (x.2.1.1 < (((Option.getD (R94 (x.1, ((1 : Int), ()))) (⟨0, fun i => ((0 : Int), ((0 : Int), ()))⟩ : Sl (Ty.den T1))).n : Nat) : Int)))) then bif (p122 (x.1, ((1 : Int), ((setSl (Option.getD (R94 (x.1, ((1 : Int), ()))) (⟨0, fun i => ((0 : Int), ((0 : Int), ()))⟩ : Sl (Ty.den T1))) (Int.toNat x.2.1.1) x.2.1.2.2), ())))) then bif (!(v122 (x.1, ((1 : Int), ((setSl (Option.getD (R94 (x.1, ((1 : Int), ()))) (⟨0, fun i => ((0 : Int), ((0 : Int), ()))⟩ : Sl (Ty.den T1))) (Int.toNat x.2.1.1) x.2.1.2.2), ())))).2.1) then l (.ok () ()) else l (.pan 152 T71 (x.1.2.2.2.2.2.2.2.2.2.2.2.2.2.1, (x.1.2.2.2.2.2.2.2.2.2.2.2.2.2.2.1, (x.1.2.2.2.2.2.2.2.2.2.2.2.2.2.2.2.1, ((v122 (x.1, ((0 : Int), ((setSl (Option.getD (R94 (x.1, ((0 : Int), ()))) (⟨0, fun i => ((0 : Int), ((0 : Int), ()))⟩ : Sl (Ty.den T1))) (Int.toNat x.2.1.1) x.2.1.2.2), ())))).1, ((v122 (x.1, ((1 : Int), ((setSl (Option.getD (R94 (x.1, ((1 : Int), ()))) (⟨0, fun i => ((0 : Int), ((0 : Int), ()))⟩ : Sl (Ty.den T1))) (Int.toNat x.2.1.1) x.2.1.2.2), ())))).1, ()))))) ()) else l .bad else l .bad else bif (p122 (x.1, ((1 : Int), ((Option.getD (R94 (x.1, ((1 : Int), ()))) (⟨0, fun i => ((0 : Int), ((0 : Int), ()))⟩ : Sl (Ty.den T1))), ())))) then bif (!(v122 (x.1, ((1 : Int), ((Option.getD (R94 (x.1, ((1 : Int), ()))) (⟨0, fun i => ((0 : Int), ((0 : Int), ()))⟩ : Sl (Ty.den T1))), ())))).2.1) then l (.ok () ()) else l (.pan 152 T71 (x.1.2.2.2.2.2.2.2.2.2.2.2.2.2.1, (x.1.2.2.2.2.2.2.2.2.2.2.2.2.2.2.1, (x.1.2.2.2.2.2.2.2.2.2.2.2.2.2.2.2.1, ((v122 (x.1, ((0 : Int), ((setSl (Option.getD (R94 (x.1, ((0 : Int), ()))) (⟨0, fun i => ((0 : Int), ((0 : Int), ()))⟩ : Sl (Ty.den T1))) (Int.toNat x.2.1.1) x.2.1.2.2), ())))).1, ((v122 (x.1, ((1 : Int), ((Option.getD (R94 (x.1, ((1 : Int), ()))) (⟨0, fun i => ((0 : Int), ((0 : Int), ()))⟩ : Sl (Ty.den T1))), ())))).1, ()))))) ()) else l .bad else l .bad else l .bad else l .bad else l .bad else bif (p122 (x.1, ((0 : Int), ((Option.getD (R94 (x.1, ((0 : Int), ()))) (⟨0, fun i => ((0 : Int), ((0 : Int), ()))⟩ : Sl (Ty.den T1))), ())))) then bif (!(v122 (x.1, ((0 : Int), ((Option.getD (R94 (x.1, ((0 : Int), ()))) (⟨0, fun i => ((0 : Int), ((0 : Int), ()))⟩ : Sl (Ty.den T1))), ())))).2.1) then l (.ok () ()) else bif (Option.isSome (R94 (x.1, ((1 : Int), ())))) then bif (Nat.blt 0 (Option.getD (R94 (x.1, ((1 : Int), ()))) (⟨0, fun i => ((0 : Int), ((0 : Int), ()))⟩ : Sl (Ty.den T1))).n) then bif (decide ((1 : Int) = x.2.1.2.1)) then bif (decide (((0 : Int) ≤ x.2.1.1) ∧ (x.2.1.1 < (((Option.getD (R94 (x.1, ((1 : Int), ()))) (⟨0, fun i => ((0 : Int), ((0 : Int), ()))⟩ : Sl (Ty.den T1))).n : Nat) : Int)))) then bif (p122 (x.1, ((1 : Int), ((setSl (Option.getD (R94 (x.1, ((1 : Int), ()))) (⟨0, fun i => ((0 : Int), ((0 : Int), ()))⟩ : Sl (Ty.den T1))) (Int.toNat x.2.1.1) x.2.1.2.2), ())))) then bif (!(v122 (x.1, ((1 : Int), ((setSl (Option.getD (R94 (x.1, ((1 : Int), ()))) (⟨0, fun i => ((0 : Int), ((0 : Int), ()))⟩ : Sl (Ty.den T1))) (Int.toNat x.2.1.1) x.2.1.2.2), ())))).2.1) then l (.ok () ()) else l (.pan 152 T71 (x.1.2.2.2.2.2.2.2.2.2.2.2.2.2.1, (x.1.2.2.2.2.2.2.2.2.2.2.2.2.2.2.1, (x.1.2.2.2.2.2.2.2.2.2.2.2.2.2.2.2.1, ((v122 (x.1, ((0 : Int), ((Option.getD (R94 (x.1, ((0 : Int), ()))) (⟨0, fun i => ((0 : Int), ((0 : Int), ()))⟩ : Sl (Ty.den T1))), ())))).1, ((v122 (x.1, ((1 : Int), ((setSl (Option.getD (R94 (x.1, ((1 : Int), ()))) (⟨0, fun i => ((0 : Int), ((0 : Int), ()))⟩ : Sl (Ty.den T1))) (Int.toNat x.2.1.1) x.2.1.2.2), ())))).1, ()))))) ()) else l .bad else l .bad else bif (p122 (x.1, ((1 : Int), ((Option.getD (R94 (x.1, ((1 : Int), ()))) (⟨0, fun i => ((0 : Int), ((0 : Int), ()))⟩ : Sl (Ty.den T1))), ())))) then bif (!(v122 (x.1, ((1 : Int), ((Option.getD (R94 (x.1, ((1 : Int), ()))) (⟨0, fun i => ((0 : Int), ((0 : Int), ()))⟩ : Sl (Ty.den T1))), ())))).2.1) then l (.ok () ()) else l (.pan 152 T71 (x.1.2.2.2.2.2.2.2.2.2.2.2.2.2.1, (x.1.2.2.2.2.2.2.2.2.2.2.2.2.2.2.1, (x.1.2.2.2.2.2.2.2.2.2.2.2.2.2.2.2.1, ((v122 (x.1, ((0 : Int), ((Option.getD (R94 (x.1, ((0 : Int), ()))) (⟨0, fun i => ((0 : Int), ((0 : Int), ()))⟩ : Sl (Ty.den T1))), ())))).1, ((v122 (x.1, ((1 : Int), ((Option.getD (R94 (x.1, ((1 : Int), ()))) (⟨0, fun i => ((0 : Int), ((0 : Int), ()))⟩ : Sl (Ty.den T1))), ())))).1, ()))))) ()) else l .bad else l .bad else l .bad else l .bad else l .bad else l .bad else l .bad else l .bad
theorem q109 (x : (patsTy ps109).den) : runG Try.prog E0 G109 Try.f109 l109 0 r109 ps109 x = Q109 .leaf .any x := by kernel_rfl
def U109 (x : (patsTy ps109).den) : GO r109 (objPats ps109) := Q109 (fun r => r) (fun _ _ => .bad) x
theorem m109 (x : (patsTy ps109).den) : (runG Try.prog E0 G109 Try.f109 l109 0 r109 ps109 x).detB .bad = U109 x := by rw [q109]; unfold U109 Q109; simp only [detB_cond, Tree.detB]
theorem h109 : GHolds Try.prog 109 (gappD Try.f109.ntmps r109 ps109 pans109 U109) := gappD_holds (E := E0) follows_ok g109 eqTy_sound keyTy_sound at109 bd109 (by kernel_rfl) (fun G' hlo hF hE => LsOK_kn (by rw [lo109]; exact .unr (LsOK_kn (by rw [lo109x0]; exact .nil)) (.nil))) pans109 m109
/-- isobar/kite.first$1 -/
noncomputable def c108 : Code := Try.f108.body.getD .skip
theorem at108 : Try.prog.funcs[108]? = some Try.f108 := by kernel_rfl
theorem bd108 : Try.f108.body = some c108 := by kernel_rfl
theorem cl108 : Callable Try.prog 108 := callable_of at108 (by kernel_rfl) (by kernel_rfl)
abbrev ps108 : List Pat := [.slot 0 (.ptr 6), .slot 1 (.ptr 7), .box 6 [.pc tI, .pc tI, .pc tI, .pc tL, .pc tL], .box 7 [.pc .bool]]
noncomputable def G108 : Ctx := Ctx.of []
theorem g108 : Sound Try.prog (G108) := sound_of (fun _ h => by cases h)
noncomputable def rest108 : Code := match c108 with | .seq _ r => r | _ => .skip
theorem gbad108 : GHolds Try.prog 108 (fun _ _ _ _ => .leaf .bad) := fun _ _ _ _ _ _ _ _ _ _ _ _ _ _ _ _ hall => absurd rfl (hall .bad rfl)
noncomputable def d108 : DApp := dapp Try.f108.ntmps ps108 (runD Try.prog E0 G108 Try.f108.ntmps rest108 [] 100 ps108 5)
noncomputable def op108 : Oper := match c108 with | .seq (.region _ ops _) _ => ops.toList.headD default | _ => default
noncomputable def rid108 : Nat := match c108 with | .seq (.region r _ _) _ => r | _ => 0
noncomputable def cal108 : Call := match op108.op with | .call c => c | _ => default
theorem dh108 : DHolds Try.prog 108 d108 := dholds_of_run (E := E0) (o := op108) (rid := rid108) (c := cal108) follows_ok g108 eqTy_sound keyTy_sound at108 (rest := rest108) (by kernel_rfl) (by kernel_rfl) (by kernel_rfl) (by kernel_rfl) (by kernel_rfl) (by kernel_rfl) (by kernel_rfl) (by kernel_rfl) (by kernel_rfl) fun G' _ _ _ => LsOK_nil
/-- isobar/kite.first -/
noncomputable def c79 : Code := Try.f79.body.getD .skip
theorem at79 : Try.prog.funcs[79]? = some Try.f79 := by kernel_rfl
theorem bd79 : Try.f79.body = some c79 := by kernel_rfl
theorem cl79 : Callable Try.prog 79 := callable_of at79 (by kernel_rfl) (by kernel_rfl)
abbrev T80 : Ty := (.agg T8)
abbrev T81 : Ty := (.cons T80 T6)
abbrev T82 : Ty := (.cons T42 T81)
abbrev T83 : Ty := (.cons T71 T3)
abbrev a79 : Ty := T82
abbrev r79 : Ty := T83
noncomputable def G79 : Ctx := Ctx.of [(93, .pure k93), (108, .gen (fun _ _ _ _ => .leaf .bad)), (109, .gen (gappD Try.f109.ntmps r109 ps109 pans109 U109))]
theorem g79 : Sound Try.prog (G79) := sound_of (List.forall_mem_cons.2 ⟨⟨cl93, h93⟩, List.forall_mem_cons.2 ⟨⟨cl108, gbad108⟩, List.forall_mem_cons.2 ⟨⟨cl109, h109⟩, fun _ h => by cases h⟩⟩⟩)
noncomputable def b79x0 : Code := rangeBody ((loopsOf (c79))[0]?)
noncomputable def as79x0 : Code := rangeAs ((loopsOf (c79))[0]?)
abbrev mp79x0 : List Pat := [.slot 4 (.ptr 4), .slot 6 (.ptr 6), .slot 7 (.ptr 7), .box 4 [.pc tI, .pc tI, .pc tI, .pc tI], .box 6 [.pc tI, .pc tI, .pc tI, .own 1007003 3 T0, .own 1007004 3 T0], .box 7 [.pc .bool]]
theorem lo79x0 : loopsOf (b79x0) = [] := by kernel_rfl
def Z79x0 {α : Type} (l : RO mp79x0 → α) (an : α → α → α) (x : (patsTy mp79x0).den) (it : Ty.den T58) : α := bif (GO.isPan (U109 (it.1, (x.2.2.2.1, ()))) 152 (Ty.agg (Ty.cons (Ty.int Go.IntKind.i64) (Ty.cons (Ty.int Go.IntKind.i64) (Ty.cons (Ty.int Go.IntKind.i64) (Ty.cons (Ty.sl (Ty.cons (Ty.int Go.IntKind.i64) Ty.nil)) (Ty.cons (Ty.sl (Ty.cons (Ty.int Go.IntKind.i64) Ty.nil)) Ty.nil))))))) then l (.pan 152 T71 (GO.getPan (U109 (it.1, (x.2.2.2.1, ()))) (Ty.agg (Ty.cons (Ty.int Go.IntKind.i64) (Ty.cons (Ty.int Go.IntKind.i64) (Ty.cons (Ty.int Go.IntKind.i64) (Ty.cons (Ty.sl (Ty.cons (Ty.int Go.IntKind.i64) Ty.nil)) (Ty.cons (Ty.sl (Ty.cons (Ty.int Go.IntKind.i64) Ty.nil)) Ty.nil))))))) ((), ((), ((), (x.2.2.2.1, (x.2.2.2.2.1, (x.2.2.2.2.2.1, ()))))))) else bif (GO.isOk (U109 (it.1, (x.2.2.2.1, ())))) then l (.next ((), ((), ((), (x.2.2.2.1, (x.2.2.2.2.1, (x.2.2.2.2.2.1, ()))))))) else l .bad
theorem z79x0 (x : (patsTy mp79x0).den) (it : Ty.den T58) : stepR Try.prog E0 G79 0 500000 19 [14] as79x0 b79x0 [] [] T58 mp79x0 x it = Z79x0 .leaf .any x it := by kernel_rfl
def S79x0 (x : (patsTy mp79x0).den) (it : Ty.den T58) : RO mp79x0 := Z79x0 (fun r => r) (fun _ _ => .bad) x it
theorem s79x0 (x : (patsTy mp79x0).den) (it : Ty.den T58) : (stepR Try.prog E0 G79 0 500000 19 [14] as79x0 b79x0 [] [] T58 mp79x0 x it).detB .bad = S79x0 x it := by rw [z79x0]; unfold S79x0 Z79x0; simp only [detB_cond, Tree.detB]
def L79x0 (x : (patsTy mp79x0).den) (l : List (Ty.den T58)) : RO mp79x0 := runAllD S79x0 x l
theorem lo79 : loopsOf (c79) = [.rangeFunc (.tmp 13) #[14] as79x0 b79x0] := by kernel_rfl
noncomputable def l79 : List Loop := [.known (rangeD 0 [.clo 108 [6, 7]] 13 T58 mp79x0 [] [(152, T71)] (fun x l => L79x0 x l))]
noncomputable def D79 : DCtx := DCtx.of [(108, d108)]
theorem ds79 : DSound Try.prog D79 := dsound_of (List.forall_mem_cons.2 ⟨⟨cl108, dh108⟩, fun _ h => by cases h⟩)
def Q79 {α : Type} (l : Option (r79).den → α) (an : α → α → α) (x : (a79).den) : α := bif (p93 ((x.1.1, (x.1.2.1, (x.1.2.2.1, (x.1.2.2.2.1, (x.1.2.2.2.2.1, (x.2.2.1.1, (x.2.2.1.2.1, x.1.2.2.2.2.2.2.2))))))), ())) then bif (RO.isNext (L79x0 ((), ((), ((), (x.2.1, (((0 : Int), ((0 : Int), ((0 : Int), ((⟨0, fun i => ((0 : Int), ())⟩ : Sl _), ((⟨0, fun i => ((0 : Int), ())⟩ : Sl _), ()))))), ((false, ()), ())))))) (Sl.list (v93 ((x.1.1, (x.1.2.1, (x.1.2.2.1, (x.1.2.2.2.1, (x.1.2.2.2.2.1, (x.2.2.1.1, (x.2.2.1.2.1, x.1.2.2.2.2.2.2.2))))))), ())).1))) then l (some (((0 : Int), ((0 : Int), ((0 : Int), ((⟨0, fun i => ((0 : Int), ())⟩ : Sl _), ((⟨0, fun i => ((0 : Int), ())⟩ : Sl _), ()))))), (false, ()))) else bif (RO.isRet (L79x0 ((), ((), ((), (x.2.1, (((0 : Int), ((0 : Int), ((0 : Int), ((⟨0, fun i => ((0 : Int), ())⟩ : Sl _), ((⟨0, fun i => ((0 : Int), ())⟩ : Sl _), ()))))), ((false, ()), ())))))) (Sl.list (v93 ((x.1.1, (x.1.2.1, (x.1.2.2.1, (x.1.2.2.2.1, (x.1.2.2.2.2.1, (x.2.2.1.1, (x.2.2.1.2.1, x.1.2.2.2.2.2.2.2))))))), ())).1))) then l (some ((RO.getX (L79x0 ((), ((), ((), (x.2.1, (((0 : Int), ((0 : Int), ((0 : Int), ((⟨0, fun i => ((0 : Int), ())⟩ : Sl _), ((⟨0, fun i => ((0 : Int), ())⟩ : Sl _), ()))))), ((false, ()), ())))))) (Sl.list (v93 ((x.1.1, (x.1.2.1, (x.1.2.2.1, (x.1.2.2.2.1, (x.1.2.2.2.2.1, (x.2.2.1.1, (x.2.2.1.2.1, x.1.2.2.2.2.2.2.2))))))), ())).1))).2.2.2.2.1, (RO.getX (L79x0 ((), ((), ((), (x.2.1, (((0 : Int), ((0 : Int), ((0 : Int), ((⟨0, fun i => ((0 : Int), ())⟩ : Sl _), ((⟨0, fun i => ((0 : Int), ())⟩ : Sl _), ()))))), ((false, ()), ())))))) (Sl.list (v93 ((x.1.1, (x.1.2.1, (x.1.2.2.1, (x.1.2.2.2.1, (x.1.2.2.2.2.1, (x.2.2.1.1, (x.2.2.1.2.1, x.1.2.2.2.2.2.2.2))))))), ())).1))).2.2.2.2.2.1)) else bif (RO.isPan (L79x0 ((), ((), ((), (x.2.1, (((0 : Int), ((0 : Int), ((0 : Int), ((⟨0, fun i => ((0 : Int), ())⟩ : Sl _), ((⟨0, fun i => ((0 : Int), ())⟩ : Sl _), ()))))), ((false, ()), ())))))) (Sl.list (v93 ((x.1.1, (x.1.2.1, (x.1.2.2.1, (x.1.2.2.2.1, (x.1.2.2.2.2.1, (x.2.2.1.1, (x.2.2.1.2.1, x.1.2.2.2.2.2.2.2))))))), ())).1)) 152 (Ty.agg (Ty.cons (Ty.int Go.IntKind.i64) (Ty.cons (Ty.int Go.IntKind.i64) (Ty.cons (Ty.int Go.IntKind.i64) (Ty.cons (Ty.sl (Ty.cons (Ty.int Go.IntKind.i64) Ty.nil)) (Ty.cons (Ty.sl (Ty.cons (Ty.int Go.IntKind.i64) Ty.nil)) Ty.nil))))))) then l (some ((RO.getPan (L79x0 ((), ((), ((), (x.2.1, (((0 : Int), ((0 : Int), ((0 : Int), ((⟨0, fun i => ((0 : Int), ())⟩ : Sl _), ((⟨0, fun i => ((0 : Int), ())⟩ : Sl _), ()))))), ((false, ()), ())))))) (Sl.list (v93 ((x.1.1, (x.1.2.1, (x.1.2.2.1, (x.1.2.2.2.1, (x.1.2.2.2.2.1, (x.2.2.1.1, (x.2.2.1.2.1, x.1.2.2.2.2.2.2.2))))))), ())).1)) (Ty.agg (Ty.cons (Ty.int Go.IntKind.i64) (Ty.cons (Ty.int Go.IntKind.i64) (Ty.cons (Ty.int Go.IntKind.i64) (Ty.cons (Ty.sl (Ty.cons (Ty.int Go.IntKind.i64) Ty.nil)) (Ty.cons (Ty.sl (Ty.cons (Ty.int Go.IntKind.i64) Ty.nil)) Ty.nil))))))), (true, ()))) else l none else l none
theorem q79 (x : (a79).den) : runFnD Try.prog E0 G79 D79 Try.f79 l79 a79 r79 x = Q79 .leaf .any x := by kernel_rfl
def M79 (x : (a79).den) : Option (r79).den := Q79 (fun r => r) (fun _ _ => none) x
theorem m79 (x : (a79).den) : (runFnD Try.prog E0 G79 D79 Try.f79 l79 a79 r79 x).sure = M79 x := by rw [q79]; unfold M79 Q79; simp only [sure_cond, Tree.sure]
def p79 (x : (a79).den) : Bool := (M79 x).isSome
def v79 (x : (a79).den) : (r79).den := (M79 x).getD (r79).dflt
def k79 : Con := ⟨a79, r79, p79, v79⟩
theorem h79 : Holds Try.prog 79 k79 := holds_of_MD (E := E0) follows_ok g79 ds79 eqTy_sound keyTy_sound at79 bd79 (by kernel_rfl) m79 fun G' hlo hF hE => LsOK_kn (by rw [lo79]; exact .cons (rangeD_ok hE hF hlo at79 (by kernel_rfl) (by kernel_rfl) (by kernel_rfl) (by kernel_rfl) (by kernel_rfl) (fun G' hlo hF l hE => LsOK_nil) (fun G' hlo hF l hE => LsOK_kn (by rw [lo79x0]; exact .nil)) s79x0) (.nil))
/-- isobar/kite.anything -/
noncomputable def c80 : Code := Try.f80.body.getD .skip
theorem at80 : Try.prog.funcs[80]? = some Try.f80 := by kernel_rfl
theorem bd80 : Try.f80.body = some c80 := by kernel_rfl
theorem cl80 : Callable Try.prog 80 := callable_of at80 (by kernel_rfl) (by kernel_rfl)
abbrev T84 : Ty := (.cons T42 T1)
abbrev T85 : Ty := (.cons T80 .nil)
abbrev a80 : Ty := T84
abbrev r80 : Ty := T85
noncomputable def G80 : Ctx := Ctx.of [(94, .gen (rowD Try.f94.ntmps a94 23 T1 R94))]
theorem g80 : Sound Try.prog (G80) := sound_of (List.forall_mem_cons.2 ⟨⟨cl94, hw94⟩, fun _ h => by cases h⟩)
theorem lo80 : loopsOf (c80) = [] := by kernel_rfl
noncomputable def l80 : List Loop := []
def Q80 {α : Type} (l : Option (r80).den → α) (an : α → α → α) (x : (a80).den) : α := bif (Option.isSome (R94 ((x.1.1, (x.1.2.1, (x.1.2.2.1, (x.1.2.2.2.1, (x.1.2.2.2.2.1, (x.1.2.2.2.2.2.1, (x.1.2.2.2.2.2.2.1, (x.1.2.2.2.2.2.2.2.1, (x.1.2.2.2.2.2.2.2.2.1, (x.1.2.2.2.2.2.2.2.2.2.1, (x.1.2.2.2.2.2.2.2.2.2.2.1, (x.1.2.2.2.2.2.2.2.2.2.2.2.1, (x.1.2.2.2.2.2.2.2.2.2.2.2.2.1, ((0 : Int), ((0 : Int), ((0 : Int), ())))))))))))))))), x.2.2))) then bif (Nat.blt 0 (Option.getD (R94 ((x.1.1, (x.1.2.1, (x.1.2.2.1, (x.1.2.2.2.1, (x.1.2.2.2.2.1, (x.1.2.2.2.2.2.1, (x.1.2.2.2.2.2.2.1, (x.1.2.2.2.2.2.2.2.1, (x.1.2.2.2.2.2.2.2.2.1, (x.1.2.2.2.2.2.2.2.2.2.1, (x.1.2.2.2.2.2.2.2.2.2.2.1, (x.1.2.2.2.2.2.2.2.2.2.2.2.1, (x.1.2.2.2.2.2.2.2.2.2.2.2.2.1, ((0 : Int), ((0 : Int), ((0 : Int), ())))))))))))))))), x.2.2)) (⟨0, fun i => ((0 : Int), ((0 : Int), ()))⟩ : Sl (Ty.den T1))).n) then bif (decide (((0 : Int) ≤ x.2.1) ∧ (x.2.1 < (((Option.getD (R94 ((x.1.1, (x.1.2.1, (x.1.2.2.1, (x.1.2.2.2.1, (x.1.2.2.2.2.1, (x.1.2.2.2.2.2.1, (x.1.2.2.2.2.2.2.1, (x.1.2.2.2.2.2.2.2.1, (x.1.2.2.2.2.2.2.2.2.1, (x.1.2.2.2.2.2.2.2.2.2.1, (x.1.2.2.2.2.2.2.2.2.2.2.1, (x.1.2.2.2.2.2.2.2.2.2.2.2.1, (x.1.2.2.2.2.2.2.2.2.2.2.2.2.1, ((0 : Int), ((0 : Int), ((0 : Int), ())))))))))))))))), x.2.2)) (⟨0, fun i => ((0 : Int), ((0 : Int), ()))⟩ : Sl (Ty.den T1))).n : Nat) : Int)))) then l (some ((x.2.1, (x.2.2.1, ((Option.getD (R94 ((x.1.1, (x.1.2.1, (x.1.2.2.1, (x.1.2.2.2.1, (x.1.2.2.2.2.1, (x.1.2.2.2.2.2.1, (x.1.2.2.2.2.2.2.1, (x.1.2.2.2.2.2.2.2.1, (x.1.2.2.2.2.2.2.2.2.1, (x.1.2.2.2.2.2.2.2.2.2.1, (x.1.2.2.2.2.2.2.2.2.2.2.1, (x.1.2.2.2.2.2.2.2.2.2.2.2.1, (x.1.2.2.2.2.2.2.2.2.2.2.2.2.1, ((0 : Int), ((0 : Int), ((0 : Int), ())))))))))))))))), x.2.2)) (⟨0, fun i => ((0 : Int), ((0 : Int), ()))⟩ : Sl (Ty.den T1))).g (Int.toNat x.2.1)))), ())) else l none else l none else l none
theorem q80 (x : (a80).den) : runFn Try.prog E0 G80 Try.f80 l80 a80 r80 x = Q80 .leaf .any x := by kernel_rfl
def M80 (x : (a80).den) : Option (r80).den := Q80 (fun r => r) (fun _ _ => none) x
theorem m80 (x : (a80).den) : (runFn Try.prog E0 G80 Try.f80 l80 a80 r80 x).sure = M80 x := by rw [q80]; unfold M80 Q80; simp only [sure_cond, Tree.sure]
def p80 (x : (a80).den) : Bool := (M80 x).isSome
def v80 (x : (a80).den) : (r80).den := (M80 x).getD (r80).dflt
def k80 : Con := ⟨a80, r80, p80, v80⟩
theorem h80 : Holds Try.prog 80 k80 := holds_of_M' (E := E0) follows_ok g80 eqTy_sound keyTy_sound at80 bd80 (by kernel_rfl) m80 fun G' hlo hF hE => LsOK_kn (by rw [lo80]; exact .nil)
/-- isobar/kite.one -/
noncomputable def c81 : Code := Try.f81.body.getD .skip
theorem at81 : Try.prog.funcs[81]? = some Try.f81 := by kernel_rfl
theorem bd81 : Try.f81.body = some c81 := by kernel_rfl
theorem cl81 : Callable Try.prog 81 := callable_of at81 (by kernel_rfl) (by kernel_rfl)
abbrev a81 : Ty := T0
abbrev r81 : Ty := T6
noncomputable def G81 : Ctx := Ctx.of []
theorem g81 : Sound Try.prog (G81) := sound_of (fun _ h => by cases h)
theorem lo81 : loopsOf (c81) = [] := by kernel_rfl
noncomputable def l81 : List Loop := []
def Q81 {α : Type} (l : Option (r81).den → α) (an : α → α → α) (x : (a81).den) : α := l (some ((x.1, x), ()))
theorem q81 (x : (a81).den) : runFn Try.prog E0 G81 Try.f81 l81 a81 r81 x = Q81 .leaf .any x := by kernel_rfl
def M81 (x : (a81).den) : Option (r81).den := Q81 (fun r => r) (fun _ _ => none) x
theorem m81 (x : (a81).den) : (runFn Try.prog E0 G81 Try.f81 l81 a81 r81 x).sure = M81 x := by rw [q81]; unfold M81 Q81; simp only [sure_cond, Tree.sure]
def p81 (x : (a81).den) : Bool := (M81 x).isSome
def v81 (x : (a81).den) : (r81).den := (M81 x).getD (r81).dflt
def k81 : Con := ⟨a81, r81, p81, v81⟩
theorem h81 : Holds Try.prog 81 k81 := holds_of_M' (E := E0) follows_ok g81 eqTy_sound keyTy_sound at81 bd81 (by kernel_rfl) m81 fun G' hlo hF hE => LsOK_kn (by rw [lo81]; exact .nil)
/-- isobar/kite.possible -/
noncomputable def c76 : Code := Try.f76.body.getD .skip
theorem at76 : Try.prog.funcs[76]? = some Try.f76 := by kernel_rfl
theorem bd76 : Try.f76.body = some c76 := by kernel_rfl
theorem cl76 : Callable Try.prog 76 := callable_of at76 (by kernel_rfl) (by kernel_rfl)
abbrev T86 : Ty := (.cons T42 T0)
abbrev T87 : Ty := (.cons T71 T0)
abbrev a76 : Ty := T86
abbrev r76 : Ty := T87
noncomputable def G76 : Ctx := Ctx.of [(79, .pure k79), (80, .pure k80), (92, .pure k92), (102, .pure k102)]
theorem g76 : Sound Try.prog (G76) := sound_of (List.forall_mem_cons.2 ⟨⟨cl79, h79⟩, List.forall_mem_cons.2 ⟨⟨cl80, h80⟩, List.forall_mem_cons.2 ⟨⟨cl92, h92⟩, List.forall_mem_cons.2 ⟨⟨cl102, h102⟩, fun _ h => by cases h⟩⟩⟩⟩)
theorem lo76 : loopsOf (c76) = [] := by kernel_rfl
noncomputable def l76 : List Loop := []
def Q76 {α : Type} (l : Option (r76).den → α) (an : α → α → α) (x : (a76).den) : α := bif (p92 (x.1, ())) then bif (!(v92 (x.1, ())).1) then l (some (((0 : Int), ((0 : Int), ((0 : Int), ((⟨0, fun i => ((0 : Int), ())⟩ : Sl _), ((⟨0, fun i => ((0 : Int), ())⟩ : Sl _), ()))))), ((2 : Int), ()))) else bif (p102 (x.2.1, ((0 : Int), ((W (((x.1.1.n : Nat) : Int) - (1 : Int))), ())))) then bif (!(v102 (x.2.1, ((0 : Int), ((W (((x.1.1.n : Nat) : Int) - (1 : Int))), ())))).1) then l (some (((0 : Int), ((0 : Int), ((0 : Int), ((⟨0, fun i => ((0 : Int), ())⟩ : Sl _), ((⟨0, fun i => ((0 : Int), ())⟩ : Sl _), ()))))), ((2 : Int), ()))) else bif (p80 (x.1, ((0 : Int), ((0 : Int), ())))) then bif (p79 (x.1, ((v80 (x.1, ((0 : Int), ((0 : Int), ())))).1, ((x.1.2.2.2.2.2.1, (x.1.2.2.2.2.2.2.1, ())), ())))) then bif (!(v79 (x.1, ((v80 (x.1, ((0 : Int), ((0 : Int), ())))).1, ((x.1.2.2.2.2.2.1, (x.1.2.2.2.2.2.2.1, ())), ())))).2.1) then l (some (((0 : Int), ((0 : Int), ((0 : Int), ((⟨0, fun i => ((0 : Int), ())⟩ : Sl _), ((⟨0, fun i => ((0 : Int), ())⟩ : Sl _), ()))))), ((7 : Int), ()))) else l (some ((v79 (x.1, ((v80 (x.1, ((0 : Int), ((0 : Int), ())))).1, ((x.1.2.2.2.2.2.1, (x.1.2.2.2.2.2.2.1, ())), ())))).1, ((0 : Int), ()))) else l none else l none else l none else l none
theorem q76 (x : (a76).den) : runFn Try.prog E0 G76 Try.f76 l76 a76 r76 x = Q76 .leaf .any x := by kernel_rfl
def M76 (x : (a76).den) : Option (r76).den := Q76 (fun r => r) (fun _ _ => none) x
theorem m76 (x : (a76).den) : (runFn Try.prog E0 G76 Try.f76 l76 a76 r76 x).sure = M76 x := by rw [q76]; unfold M76 Q76; simp only [sure_cond, Tree.sure]
def p76 (x : (a76).den) : Bool := (M76 x).isSome
def v76 (x : (a76).den) : (r76).den := (M76 x).getD (r76).dflt
def k76 : Con := ⟨a76, r76, p76, v76⟩
theorem h76 : Holds Try.prog 76 k76 := holds_of_M' (E := E0) follows_ok g76 eqTy_sound keyTy_sound at76 bd76 (by kernel_rfl) m76 fun G' hlo hF hE => LsOK_kn (by rw [lo76]; exact .nil)
/-- isobar/kite.First -/
noncomputable def c32 : Code := Try.f32.body.getD .skip
theorem at32 : Try.prog.funcs[32]? = some Try.f32 := by kernel_rfl
theorem bd32 : Try.f32.body = some c32 := by kernel_rfl
theorem cl32 : Callable Try.prog 32 := callable_of at32 (by kernel_rfl) (by kernel_rfl)
abbrev a32 : Ty := T43
abbrev r32 : Ty := T87
noncomputable def G32 : Ctx := Ctx.of [(76, .pure k76)]
theorem g32 : Sound Try.prog (G32) := sound_of (List.forall_mem_cons.2 ⟨⟨cl76, h76⟩, fun _ h => by cases h⟩)
theorem lo32 : loopsOf (c32) = [] := by kernel_rfl
noncomputable def l32 : List Loop := []
def Q32 {α : Type} (l : Option (r32).den → α) (an : α → α → α) (x : (a32).den) : α := bif (p76 (x.1, ((0 : Int), ()))) then l (some ((v76 (x.1, ((0 : Int), ()))).1, (v76 (x.1, ((0 : Int), ()))).2)) else l none
theorem q32 (x : (a32).den) : runFn Try.prog E0 G32 Try.f32 l32 a32 r32 x = Q32 .leaf .any x := by kernel_rfl
def M32 (x : (a32).den) : Option (r32).den := Q32 (fun r => r) (fun _ _ => none) x
theorem m32 (x : (a32).den) : (runFn Try.prog E0 G32 Try.f32 l32 a32 r32 x).sure = M32 x := by rw [q32]; unfold M32 Q32; simp only [sure_cond, Tree.sure]
def p32 (x : (a32).den) : Bool := (M32 x).isSome
def v32 (x : (a32).den) : (r32).den := (M32 x).getD (r32).dflt
def k32 : Con := ⟨a32, r32, p32, v32⟩
theorem h32 : Holds Try.prog 32 k32 := holds_of_M' (E := E0) follows_ok g32 eqTy_sound keyTy_sound at32 bd32 (by kernel_rfl) m32 fun G' hlo hF hE => LsOK_kn (by rw [lo32]; exact .nil)
/-- isobar/kite.blows$1 -/
noncomputable def c110 : Code := Try.f110.body.getD .skip
theorem at110 : Try.prog.funcs[110]? = some Try.f110 := by kernel_rfl
theorem bd110 : Try.f110.body = some c110 := by kernel_rfl
theorem cl110 : Callable Try.prog 110 := callable_of at110 (by kernel_rfl) (by kernel_rfl)
abbrev T88 : Ty := (.ptr T0)
abbrev T89 : Ty := (.cons T88 .nil)
abbrev T90 : Ty := (.cons T88 T89)
abbrev T91 : Ty := (.cons T54 T90)
abbrev T92 : Ty := (.cons tI T91)
abbrev a110 : Ty := T92
abbrev r110 : Ty := T3
noncomputable def G110 : Ctx := Ctx.of [(79, .pure k79), (81, .pure k81)]
theorem g110 : Sound Try.prog (G110) := sound_of (List.forall_mem_cons.2 ⟨⟨cl79, h79⟩, List.forall_mem_cons.2 ⟨⟨cl81, h81⟩, fun _ h => by cases h⟩⟩)
theorem lo110 : loopsOf (c110) = [] := by kernel_rfl
noncomputable def l110 : List Loop := []
def Q110 {α : Type} (l : Option (r110).den → α) (an : α → α → α) (x : (a110).den) : α := bif (p81 (x.1, ())) then bif (p79 (x.2.1, ((x.2.2.1.1, (x.2.2.2.1.1, (v81 (x.1, ())).1)), ((x.2.1.2.2.2.2.2.1, (x.2.1.2.2.2.2.2.2.1, ())), ())))) then l (some (v79 (x.2.1, ((x.2.2.1.1, (x.2.2.2.1.1, (v81 (x.1, ())).1)), ((x.2.1.2.2.2.2.2.1, (x.2.1.2.2.2.2.2.2.1, ())), ())))).2) else l none else l none
theorem q110 (x : (a110).den) : runFn Try.prog E0 G110 Try.f110 l110 a110 r110 x = Q110 .leaf .any x := by kernel_rfl
def M110 (x : (a110).den) : Option (r110).den := Q110 (fun r => r) (fun _ _ => none) x
theorem m110 (x : (a110).den) : (runFn Try.prog E0 G110 Try.f110 l110 a110 r110 x).sure = M110 x := by rw [q110]; unfold M110 Q110; simp only [sure_cond, Tree.sure]
def p110 (x : (a110).den) : Bool := (M110 x).isSome
def v110 (x : (a110).den) : (r110).den := (M110 x).getD (r110).dflt
def k110 : Con := ⟨a110, r110, p110, v110⟩
theorem h110 : Holds Try.prog 110 k110 := holds_of_M' (E := E0) follows_ok g110 eqTy_sound keyTy_sound at110 bd110 (by kernel_rfl) m110 fun G' hlo hF hE => LsOK_kn (by rw [lo110]; exact .nil)
/-- isobar/kite.blows -/
noncomputable def c82 : Code := Try.f82.body.getD .skip
theorem at82 : Try.prog.funcs[82]? = some Try.f82 := by kernel_rfl
theorem bd82 : Try.f82.body = some c82 := by kernel_rfl
theorem cl82 : Callable Try.prog 82 := callable_of at82 (by kernel_rfl) (by kernel_rfl)
abbrev T93 : Ty := (.fn T0 T3)
abbrev T94 : Ty := (.cons T93 .nil)
abbrev a82 : Ty := T84
abbrev r82 : Ty := T94
noncomputable def G82 : Ctx := Ctx.of [(110, .pure k110)]
theorem g82 : Sound Try.prog (G82) := sound_of (List.forall_mem_cons.2 ⟨⟨cl110, h110⟩, fun _ h => by cases h⟩)
theorem lo82 : loopsOf (c82) = [] := by kernel_rfl
noncomputable def l82 : List Loop := []
def Q82 {α : Type} (l : Option (r82).den → α) (an : α → α → α) (x : (a82).den) : α := l (some ((fun y1 => ((p110 (y1.1, (x.1, ((x.2.1, ()), (x.2.2, ()))))), (v110 (y1.1, (x.1, ((x.2.1, ()), (x.2.2, ()))))))), ()))
theorem q82 (x : (a82).den) : runFn Try.prog E0 G82 Try.f82 l82 a82 r82 x = Q82 .leaf .any x := by kernel_rfl
def M82 (x : (a82).den) : Option (r82).den := Q82 (fun r => r) (fun _ _ => none) x
theorem m82 (x : (a82).den) : (runFn Try.prog E0 G82 Try.f82 l82 a82 r82 x).sure = M82 x := by rw [q82]; unfold M82 Q82; simp only [sure_cond, Tree.sure]
def p82 (x : (a82).den) : Bool := (M82 x).isSome
def v82 (x : (a82).den) : (r82).den := (M82 x).getD (r82).dflt
def k82 : Con := ⟨a82, r82, p82, v82⟩
theorem h82 : Holds Try.prog 82 k82 := holds_of_M' (E := E0) follows_ok g82 eqTy_sound keyTy_sound at82 bd82 (by kernel_rfl) m82 fun G' hlo hF hE => LsOK_kn (by rw [lo82]; exact .nil)
/-- isobar/kite.end -/
noncomputable def c87 : Code := Try.f87.body.getD .skip
theorem at87 : Try.prog.funcs[87]? = some Try.f87 := by kernel_rfl
theorem bd87 : Try.f87.body = some c87 := by kernel_rfl
theorem cl87 : Callable Try.prog 87 := callable_of at87 (by kernel_rfl) (by kernel_rfl)
abbrev T95 : Ty := (.cons .bool T94)
abbrev T96 : Ty := (.cons T4 T95)
abbrev T97 : Ty := (.cons tI T3)
abbrev a87 : Ty := T96
abbrev r87 : Ty := T97
noncomputable def G87 : Ctx := Ctx.of []
theorem g87 : Sound Try.prog (G87) := sound_of (fun _ h => by cases h)
noncomputable def b87x0 : Code := loopBody ((loopsOf (c87))[0]?)
theorem lo87x0 : loopsOf (b87x0) = [] := by kernel_rfl
abbrev cs87x0 : List Pat := [.slot 1 (.pc .bool), .slot 2 (.pc T93), .slot 3 (.ptr 3), .slot 15 (.pc tI), .box 3 [.pc tI, .pc tI]]
abbrev vs87x0 : List Pat := [.slot 16 (.pc tI)]
abbrev ps87x0 : List Pat := [.slot 1 (.pc .bool), .slot 2 (.pc T93), .slot 3 (.ptr 3), .slot 15 (.pc tI), .box 3 [.pc tI, .pc tI], .slot 16 (.pc tI)]
def j87x0 : (patsTy cs87x0).den → (patsTy vs87x0).den → (patsTy ps87x0).den := fun c v => (c.1, (c.2.1, (c.2.2.1, (c.2.2.2.1, (c.2.2.2.2.1, v)))))
def sp87x0 : (patsTy ps87x0).den → (patsTy cs87x0).den × (patsTy vs87x0).den := fun x => ((x.1, (x.2.1, (x.2.2.1, (x.2.2.2.1, (x.2.2.2.2.1, ()))))), x.2.2.2.2.2)
abbrev wy87x0 : Ways := ⟨[(0, [])], [.slot 6 (.pc tI), .slot 7 (.pc .bool)], []⟩
abbrev wv87x0 : Ways := ⟨[(0, [])], [.slot 6 (.pc tI), .slot 7 (.pc .bool)], []⟩
def je87x0 : (id : Nat) → (patsTy cs87x0).den → (patsTy (wayP wv87x0 id)).den → (patsTy (wayP wy87x0 id)).den := fun id => match id with | 0 => fun c y => y | id => fun _ _ => (patsTy (wayP wy87x0 id)).dflt
def jr87x0 : (patsTy cs87x0).den → (patsTy (wv87x0).ret).den → (patsTy (wy87x0).ret).den := fun c y => y
def Z87x0 {α : Type} (l : RQ vs87x0 wv87x0 → α) (an : α → α → α) (c : (patsTy cs87x0).den) (v : (patsTy vs87x0).den) : α := bif (decide (v.1 < c.2.2.2.1)) then bif c.1 then bif (c.2.1 ((W (c.2.2.2.2.1.2.1 - v.1)), ())).1 then bif (c.2.1 ((W (c.2.2.2.2.1.2.1 - v.1)), ())).2.1 then l (.out (.ret ((W (c.2.2.2.2.1.2.1 - v.1)), (true, ())))) else l (.next ((W (v.1 + (1 : Int))), ())) else l .bad else bif (c.2.1 ((W (c.2.2.2.2.1.1 + v.1)), ())).1 then bif (c.2.1 ((W (c.2.2.2.2.1.1 + v.1)), ())).2.1 then l (.out (.ret ((W (c.2.2.2.2.1.1 + v.1)), (true, ())))) else l (.next ((W (v.1 + (1 : Int))), ())) else l .bad else l (.out (.exit 0 ()))
theorem z87x0 (c : (patsTy cs87x0).den) (v : (patsTy vs87x0).den) : roundQ Try.prog E0 G87 0 33 [] ps87x0 wy87x0 b87x0 [] (j87x0 c v) = Z87x0 (fun r => .leaf (r.lift j87x0 je87x0 jr87x0 c)) .any c v := by kernel_rfl
def S87x0 (c : (patsTy cs87x0).den) (v : (patsTy vs87x0).den) : RQ vs87x0 wv87x0 := Z87x0 (fun r => r) (fun _ _ => .bad) c v
theorem s87x0 (c : (patsTy cs87x0).den) (v : (patsTy vs87x0).den) : detQ (roundQ Try.prog E0 G87 0 33 [] ps87x0 wy87x0 b87x0 [] (j87x0 c v)) = (S87x0 c v).lift j87x0 je87x0 jr87x0 c := by rw [z87x0]; unfold S87x0 Z87x0; simp only [detQ_cond, lift_cond, lift_bad, detQ]
def L87x0 (c : (patsTy cs87x0).den) (v : (patsTy vs87x0).den) : LQ wv87x0 := iterQ (S87x0 c) big v
theorem lo87 : loopsOf (c87) = [.loop b87x0] := by kernel_rfl
noncomputable def l87 : List Loop := [.known (loopF 0 [] ps87x0 fun x => spreadV wy87x0 je87x0 jr87x0 true (sp87x0 x).1 (L87x0 (sp87x0 x).1 (sp87x0 x).2) wy87x0.exits)]
def Q87 {α : Type} (l : Option (r87).den → α) (an : α → α → α) (x : (a87).den) : α := bif (LQ.isExit (L87x0 (x.2.1, (x.2.2.1, ((), ((W ((W (x.1.2.1 - x.1.1)) + (1 : Int))), (x.1, ()))))) ((0 : Int), ())) 0) then l (some ((0 : Int), (false, ()))) else bif (LQ.isRet (L87x0 (x.2.1, (x.2.2.1, ((), ((W ((W (x.1.2.1 - x.1.1)) + (1 : Int))), (x.1, ()))))) ((0 : Int), ()))) then l (some (LQ.getRet (L87x0 (x.2.1, (x.2.2.1, ((), ((W ((W (x.1.2.1 - x.1.1)) + (1 : Int))), (x.1, ()))))) ((0 : Int), ())))) else l none
theorem q87 (x : (a87).den) : runFn Try.prog E0 G87 Try.f87 l87 a87 r87 x = Q87 .leaf .any x := by kernel_rfl
def M87 (x : (a87).den) : Option (r87).den := Q87 (fun r => r) (fun _ _ => none) x
theorem m87 (x : (a87).den) : (runFn Try.prog E0 G87 Try.f87 l87 a87 r87 x).sure = M87 x := by rw [q87]; unfold M87 Q87; simp only [sure_cond, Tree.sure]
def p87 (x : (a87).den) : Bool := (M87 x).isSome
def v87 (x : (a87).den) : (r87).den := (M87 x).getD (r87).dflt
def k87 : Con := ⟨a87, r87, p87, v87⟩
theorem h87 : Holds Try.prog 87 k87 := holds_of_M' (E := E0) follows_ok g87 eqTy_sound keyTy_sound at87 bd87 (by kernel_rfl) m87 fun G' hlo hF hE => LsOK_kn (by rw [lo87]; exact .cons (loopV_ok hE hF hlo (LsOK_kn (by rw [lo87x0]; exact .nil)) (by kernel_rfl) (by kernel_rfl) sp87x0 (fun _ => rfl) (fun _ _ => rfl) (s87x0) big) (.nil))
/-- isobar/kite.ends$1 -/
noncomputable def c107 : Code := Try.f107.body.getD .skip
theorem at107 : Try.prog.funcs[107]? = some Try.f107 := by kernel_rfl
theorem bd107 : Try.f107.body = some c107 := by kernel_rfl
theorem cl107 : Callable Try.prog 107 := callable_of at107 (by kernel_rfl) (by kernel_rfl)
abbrev T98 : Ty := (.ptr T1)
abbrev T99 : Ty := (.ptr T94)
abbrev T100 : Ty := (.cons T99 .nil)
abbrev T101 : Ty := (.cons T98 T100)
abbrev T102 : Ty := (.cons .bool T101)
abbrev a107 : Ty := T102
abbrev r107 : Ty := T0
noncomputable def G107 : Ctx := Ctx.of [(87, .pure k87)]
theorem g107 : Sound Try.prog (G107) := sound_of (List.forall_mem_cons.2 ⟨⟨cl87, h87⟩, fun _ h => by cases h⟩)
theorem lo107 : loopsOf (c107) = [] := by kernel_rfl
noncomputable def l107 : List Loop := []
def Q107 {α : Type} (l : Option (r107).den → α) (an : α → α → α) (x : (a107).den) : α := bif (p87 (x.2.1, (x.1, x.2.2.1))) then l (some ((v87 (x.2.1, (x.1, x.2.2.1))).1, ())) else l none
theorem q107 (x : (a107).den) : runFn Try.prog E0 G107 Try.f107 l107 a107 r107 x = Q107 .leaf .any x := by kernel_rfl
def M107 (x : (a107).den) : Option (r107).den := Q107 (fun r => r) (fun _ _ => none) x
theorem m107 (x : (a107).den) : (runFn Try.prog E0 G107 Try.f107 l107 a107 r107 x).sure = M107 x := by rw [q107]; unfold M107 Q107; simp only [sure_cond, Tree.sure]
def p107 (x : (a107).den) : Bool := (M107 x).isSome
def v107 (x : (a107).den) : (r107).den := (M107 x).getD (r107).dflt
def k107 : Con := ⟨a107, r107, p107, v107⟩
theorem h107 : Holds Try.prog 107 k107 := holds_of_M' (E := E0) follows_ok g107 eqTy_sound keyTy_sound at107 bd107 (by kernel_rfl) m107 fun G' hlo hF hE => LsOK_kn (by rw [lo107]; exact .nil)
/-- isobar/kite.both[bool] -/
noncomputable def c106 : Code := Try.f106.body.getD .skip
theorem at106 : Try.prog.funcs[106]? = some Try.f106 := by kernel_rfl
theorem bd106 : Try.f106.body = some c106 := by kernel_rfl
theorem cl106 : Callable Try.prog 106 := callable_of at106 (by kernel_rfl) (by kernel_rfl)
abbrev T103 : Ty := (.fn T3 T0)
abbrev T104 : Ty := (.cons T103 .nil)
abbrev T105 : Ty := (.cons .bool T104)
abbrev T106 : Ty := (.cons .bool T105)
abbrev a106 : Ty := T106
abbrev r106 : Ty := T6
noncomputable def G106 : Ctx := Ctx.of []
theorem g106 : Sound Try.prog (G106) := sound_of (fun _ h => by cases h)
theorem lo106 : loopsOf (c106) = [] := by kernel_rfl
noncomputable def l106 : List Loop := []
def Q106 {α : Type} (l : Option (r106).den → α) (an : α → α → α) (x : (a106).den) : α := bif (x.2.2.1 (x.1, ())).1 then bif (x.2.2.1 (x.2.1, ())).1 then l (some (((x.2.2.1 (x.1, ())).2.1, (x.2.2.1 (x.2.1, ())).2), ())) else l none else l none
theorem q106 (x : (a106).den) : runFn Try.prog E0 G106 Try.f106 l106 a106 r106 x = Q106 .leaf .any x := by kernel_rfl
def M106 (x : (a106).den) : Option (r106).den := Q106 (fun r => r) (fun _ _ => none) x
theorem m106 (x : (a106).den) : (runFn Try.prog E0 G106 Try.f106 l106 a106 r106 x).sure = M106 x := by rw [q106]; unfold M106 Q106; simp only [sure_cond, Tree.sure]
def p106 (x : (a106).den) : Bool := (M106 x).isSome
def v106 (x : (a106).den) : (r106).den := (M106 x).getD (r106).dflt
def k106 : Con := ⟨a106, r106, p106, v106⟩
theorem h106 : Holds Try.prog 106 k106 := holds_of_M' (E := E0) follows_ok g106 eqTy_sound keyTy_sound at106 bd106 (by kernel_rfl) m106 fun G' hlo hF hE => LsOK_kn (by rw [lo106]; exact .nil)
/-- isobar/kite.ends -/
noncomputable def c77 : Code := Try.f77.body.getD .skip
theorem at77 : Try.prog.funcs[77]? = some Try.f77 := by kernel_rfl
theorem bd77 : Try.f77.body = some c77 := by kernel_rfl
theorem cl77 : Callable Try.prog 77 := callable_of at77 (by kernel_rfl) (by kernel_rfl)
abbrev T107 : Ty := (.cons T4 T94)
abbrev a77 : Ty := T107
abbrev r77 : Ty := T6
noncomputable def G77 : Ctx := Ctx.of [(106, .pure k106), (107, .pure k107)]
theorem g77 : Sound Try.prog (G77) := sound_of (List.forall_mem_cons.2 ⟨⟨cl106, h106⟩, List.forall_mem_cons.2 ⟨⟨cl107, h107⟩, fun _ h => by cases h⟩⟩)
theorem lo77 : loopsOf (c77) = [] := by kernel_rfl
noncomputable def l77 : List Loop := []
def Q77 {α : Type} (l : Option (r77).den → α) (an : α → α → α) (x : (a77).den) : α := bif (p106 (false, (true, ((fun y1 => ((p107 (y1.1, (x.1, (x.2, ())))), (v107 (y1.1, (x.1, (x.2, ())))))), ())))) then l (some ((v106 (false, (true, ((fun y1 => ((p107 (y1.1, (x.1, (x.2, ())))), (v107 (y1.1, (x.1, (x.2, ())))))), ())))).1, ())) else l none
theorem q77 (x : (a77).den) : runFn Try.prog E0 G77 Try.f77 l77 a77 r77 x = Q77 .leaf .any x := by kernel_rfl
def M77 (x : (a77).den) : Option (r77).den := Q77 (fun r => r) (fun _ _ => none) x
theorem m77 (x : (a77).den) : (runFn Try.prog E0 G77 Try.f77 l77 a77 r77 x).sure = M77 x := by rw [q77]; unfold M77 Q77; simp only [sure_cond, Tree.sure]
def p77 (x : (a77).den) : Bool := (M77 x).isSome
def v77 (x : (a77).den) : (r77).den := (M77 x).getD (r77).dflt
def k77 : Con := ⟨a77, r77, p77, v77⟩
theorem h77 : Holds Try.prog 77 k77 := holds_of_M' (E := E0) follows_ok g77 eqTy_sound keyTy_sound at77 bd77 (by kernel_rfl) m77 fun G' hlo hF hE => LsOK_kn (by rw [lo77]; exact .nil)
/-- isobar/kite.Winds$1 -/
noncomputable def c78 : Code := Try.f78.body.getD .skip
theorem at78 : Try.prog.funcs[78]? = some Try.f78 := by kernel_rfl
theorem bd78 : Try.f78.body = some c78 := by kernel_rfl
theorem cl78 : Callable Try.prog 78 := callable_of at78 (by kernel_rfl) (by kernel_rfl)
abbrev T108 : Ty := (.cons tI T55)
abbrev a78 : Ty := T108
abbrev r78 : Ty := T3
noncomputable def G78 : Ctx := Ctx.of [(79, .pure k79), (80, .pure k80), (81, .pure k81)]
theorem g78 : Sound Try.prog (G78) := sound_of (List.forall_mem_cons.2 ⟨⟨cl79, h79⟩, List.forall_mem_cons.2 ⟨⟨cl80, h80⟩, List.forall_mem_cons.2 ⟨⟨cl81, h81⟩, fun _ h => by cases h⟩⟩⟩)
theorem lo78 : loopsOf (c78) = [] := by kernel_rfl
noncomputable def l78 : List Loop := []
def Q78 {α : Type} (l : Option (r78).den → α) (an : α → α → α) (x : (a78).den) : α := bif (p80 (x.2.1, ((0 : Int), ((0 : Int), ())))) then bif (p81 (x.1, ())) then bif (p79 (x.2.1, ((v80 (x.2.1, ((0 : Int), ((0 : Int), ())))).1, ((v81 (x.1, ())).1, ())))) then l (some (v79 (x.2.1, ((v80 (x.2.1, ((0 : Int), ((0 : Int), ())))).1, ((v81 (x.1, ())).1, ())))).2) else l none else l none else l none
theorem q78 (x : (a78).den) : runFn Try.prog E0 G78 Try.f78 l78 a78 r78 x = Q78 .leaf .any x := by kernel_rfl
def M78 (x : (a78).den) : Option (r78).den := Q78 (fun r => r) (fun _ _ => none) x
theorem m78 (x : (a78).den) : (runFn Try.prog E0 G78 Try.f78 l78 a78 r78 x).sure = M78 x := by rw [q78]; unfold M78 Q78; simp only [sure_cond, Tree.sure]
def p78 (x : (a78).den) : Bool := (M78 x).isSome
def v78 (x : (a78).den) : (r78).den := (M78 x).getD (r78).dflt
def k78 : Con := ⟨a78, r78, p78, v78⟩
theorem h78 : Holds Try.prog 78 k78 := holds_of_M' (E := E0) follows_ok g78 eqTy_sound keyTy_sound at78 bd78 (by kernel_rfl) m78 fun G' hlo hF hE => LsOK_kn (by rw [lo78]; exact .nil)
/-- isobar/kite.Winds -/
noncomputable def c28 : Code := Try.f28.body.getD .skip
theorem at28 : Try.prog.funcs[28]? = some Try.f28 := by kernel_rfl
theorem bd28 : Try.f28.body = some c28 := by kernel_rfl
theorem cl28 : Callable Try.prog 28 := callable_of at28 (by kernel_rfl) (by kernel_rfl)
abbrev T109 : Ty := (.cons tI T53)
abbrev T110 : Ty := (.cons tI T109)
abbrev T111 : Ty := (.agg T110)
abbrev T112 : Ty := (.cons T111 T0)
abbrev a28 : Ty := T43
abbrev r28 : Ty := T112
noncomputable def G28 : Ctx := Ctx.of [(76, .pure k76), (77, .pure k77), (78, .pure k78), (82, .pure k82)]
theorem g28 : Sound Try.prog (G28) := sound_of (List.forall_mem_cons.2 ⟨⟨cl76, h76⟩, List.forall_mem_cons.2 ⟨⟨cl77, h77⟩, List.forall_mem_cons.2 ⟨⟨cl78, h78⟩, List.forall_mem_cons.2 ⟨⟨cl82, h82⟩, fun _ h => by cases h⟩⟩⟩⟩)
noncomputable def b28x0 : Code := loopBody ((loopsOf (c28))[0]?)
theorem lo28x0 : loopsOf (b28x0) = [] := by kernel_rfl
abbrev cs28x0 : List Pat := [.slot 1 (.pc T54), .slot 2 (.ptr 2), .slot 6 (.ptr 183), .slot 26 (.pc (.sl T9)), .slot 27 (.pc tI), .box 2 [.pc tI, .pc tI, .own 1003002 23 T1, .own 1003003 23 T1]]
abbrev vs28x0 : List Pat := [.slot 28 (.pc tI), .box 183 [.pc tI, .pc tI, .own 1184002 23 T1, .own 1184003 23 T1]]
abbrev ps28x0 : List Pat := [.slot 1 (.pc T54), .slot 2 (.ptr 2), .slot 6 (.ptr 183), .slot 26 (.pc (.sl T9)), .slot 27 (.pc tI), .box 2 [.pc tI, .pc tI, .own 1003002 23 T1, .own 1003003 23 T1], .slot 28 (.pc tI), .box 183 [.pc tI, .pc tI, .own 1184002 23 T1, .own 1184003 23 T1]]
def j28x0 : (patsTy cs28x0).den → (patsTy vs28x0).den → (patsTy ps28x0).den := fun c v => (c.1, (c.2.1, (c.2.2.1, (c.2.2.2.1, (c.2.2.2.2.1, (c.2.2.2.2.2.1, v))))))
def sp28x0 : (patsTy ps28x0).den → (patsTy cs28x0).den × (patsTy vs28x0).den := fun x => ((x.1, (x.2.1, (x.2.2.1, (x.2.2.2.1, (x.2.2.2.2.1, (x.2.2.2.2.2.1, ())))))), x.2.2.2.2.2.2)
abbrev wy28x0 : Ways := ⟨[(0, [.slot 2 (.ptr 2), .slot 6 (.ptr 183), .box 2 [.pc tI, .pc tI, .own 1003002 23 T1, .own 1003003 23 T1], .box 183 [.pc tI, .pc tI, .own 1184002 23 T1, .own 1184003 23 T1]])], [], []⟩
abbrev wv28x0 : Ways := ⟨[(0, [.box 183 [.pc tI, .pc tI, .own 1184002 23 T1, .own 1184003 23 T1]])], [], []⟩
def je28x0 : (id : Nat) → (patsTy cs28x0).den → (patsTy (wayP wv28x0 id)).den → (patsTy (wayP wy28x0 id)).den := fun id => match id with | 0 => fun c y => (c.2.1, (c.2.2.1, (c.2.2.2.2.2.1, y))) | id => fun _ _ => (patsTy (wayP wy28x0 id)).dflt
def jr28x0 : (patsTy cs28x0).den → (patsTy (wv28x0).ret).den → (patsTy (wy28x0).ret).den := fun c y => y
def Z28x0 {α : Type} (l : RQ vs28x0 wv28x0 → α) (an : α → α → α) (c : (patsTy cs28x0).den) (v : (patsTy vs28x0).den) : α := bif (decide (v.1 < c.2.2.2.2.1)) then bif (decide (((0 : Int) ≤ v.1) ∧ (v.1 < ((c.2.2.2.1.n : Nat) : Int)))) then bif (p82 (c.1, (v.1, ((0 : Int), ())))) then bif (p77 (((c.2.2.2.1.g (Int.toNat v.1)).2.1, ((c.2.2.2.1.g (Int.toNat v.1)).2.2.1, ())), (v82 (c.1, (v.1, ((0 : Int), ())))))) then bif (p82 (c.1, (v.1, ((1 : Int), ())))) then bif (p77 ((c.2.2.2.1.g (Int.toNat v.1)).2.2.2, (v82 (c.1, (v.1, ((1 : Int), ())))))) then bif (decide (((v.2.1.2.2.1.n + 1) * 16) ≤ 140737488355328)) then bif (decide (((v.2.1.2.2.2.1.n + 1) * 16) ≤ 140737488355328)) then l (.next ((W (v.1 + (1 : Int))), ((v.2.1.1, (v.2.1.2.1, ((catSl v.2.1.2.2.1 (⟨1, fun i => List.getD [(v77 (((c.2.2.2.1.g (Int.toNat v.1)).2.1, ((c.2.2.2.1.g (Int.toNat v.1)).2.2.1, ())), (v82 (c.1, (v.1, ((0 : Int), ())))))).1] i (v77 (((c.2.2.2.1.g (Int.toNat v.1)).2.1, ((c.2.2.2.1.g (Int.toNat v.1)).2.2.1, ())), (v82 (c.1, (v.1, ((0 : Int), ())))))).1⟩ : Sl (Ty.den T1))), ((catSl v.2.1.2.2.2.1 (⟨1, fun i => List.getD [(v77 ((c.2.2.2.1.g (Int.toNat v.1)).2.2.2, (v82 (c.1, (v.1, ((1 : Int), ())))))).1] i (v77 ((c.2.2.2.1.g (Int.toNat v.1)).2.2.2, (v82 (c.1, (v.1, ((1 : Int), ())))))).1⟩ : Sl (Ty.den T1))), ())))), ()))) else l .bad else l .bad else l .bad else l .bad else l .bad else l .bad else l .bad else l (.out (.exit 0 (v.2.1, ())))
theorem z28x0 (c : (patsTy cs28x0).den) (v : (patsTy vs28x0).den) : roundQ Try.prog E0 G28 0 59 [] ps28x0 wy28x0 b28x0 [] (j28x0 c v) = Z28x0 (fun r => .leaf (r.lift j28x0 je28x0 jr28x0 c)) .any c v := by kernel_rfl
def S28x0 (c : (patsTy cs28x0).den) (v : (patsTy vs28x0).den) : RQ vs28x0 wv28x0 := Z28x0 (fun r => r) (fun _ _ => .bad) c v
theorem s28x0 (c : (patsTy cs28x0).den) (v : (patsTy vs28x0).den) : detQ (roundQ Try.prog E0 G28 0 59 [] ps28x0 wy28x0 b28x0 [] (j28x0 c v)) = (S28x0 c v).lift j28x0 je28x0 jr28x0 c := by rw [z28x0]; unfold S28x0 Z28x0; simp only [detQ_cond, lift_cond, lift_bad, detQ]
def L28x0 (c : (patsTy cs28x0).den) (v : (patsTy vs28x0).den) : LQ wv28x0 := iterQ (S28x0 c) big v
theorem lo28 : loopsOf (c28) = [.loop b28x0] := by kernel_rfl
noncomputable def l28 : List Loop := [.known (loopF 0 [] ps28x0 fun x => spreadV wy28x0 je28x0 jr28x0 false (sp28x0 x).1 (L28x0 (sp28x0 x).1 (sp28x0 x).2) wy28x0.exits)]
def Q28 {α : Type} (l : Option (r28).den → α) (an : α → α → α) (x : (a28).den) : α := bif (p76 (x.1, ((0 : Int), ()))) then bif (!(decide ((v76 (x.1, ((0 : Int), ()))).2.1 = (0 : Int)))) then l (some (((0 : Int), ((0 : Int), ((⟨0, fun i => ((0 : Int), ((0 : Int), ()))⟩ : Sl _), ((⟨0, fun i => ((0 : Int), ((0 : Int), ()))⟩ : Sl _), ())))), (v76 (x.1, ((0 : Int), ()))).2)) else bif (p77 ((x.1.2.2.2.2.2.1, (x.1.2.2.2.2.2.2.1, ())), ((fun y1 => ((p78 (y1.1, (x.1, ()))), (v78 (y1.1, (x.1, ()))))), ()))) then bif (LQ.isExit (L28x0 (x.1, ((), ((), (x.1.1, (((x.1.1.n : Nat) : Int), (((0 : Int), ((0 : Int), ((⟨0, fun i => ((0 : Int), ((0 : Int), ()))⟩ : Sl _), ((⟨0, fun i => ((0 : Int), ((0 : Int), ()))⟩ : Sl _), ())))), ())))))) ((0 : Int), (((v77 ((x.1.2.2.2.2.2.1, (x.1.2.2.2.2.2.2.1, ())), ((fun y1 => ((p78 (y1.1, (x.1, ()))), (v78 (y1.1, (x.1, ()))))), ()))).1.1, ((v77 ((x.1.2.2.2.2.2.1, (x.1.2.2.2.2.2.2.1, ())), ((fun y1 => ((p78 (y1.1, (x.1, ()))), (v78 (y1.1, (x.1, ()))))), ()))).1.2.1, ((⟨0, fun i => ((0 : Int), ((0 : Int), ()))⟩ : Sl _), ((⟨0, fun i => ((0 : Int), ((0 : Int), ()))⟩ : Sl _), ())))), ()))) 0) then l (some ((LQ.getExit (L28x0 (x.1, ((), ((), (x.1.1, (((x.1.1.n : Nat) : Int), (((0 : Int), ((0 : Int), ((⟨0, fun i => ((0 : Int), ((0 : Int), ()))⟩ : Sl _), ((⟨0, fun i => ((0 : Int), ((0 : Int), ()))⟩ : Sl _), ())))), ())))))) ((0 : Int), (((v77 ((x.1.2.2.2.2.2.1, (x.1.2.2.2.2.2.2.1, ())), ((fun y1 => ((p78 (y1.1, (x.1, ()))), (v78 (y1.1, (x.1, ()))))), ()))).1.1, ((v77 ((x.1.2.2.2.2.2.1, (x.1.2.2.2.2.2.2.1, ())), ((fun y1 => ((p78 (y1.1, (x.1, ()))), (v78 (y1.1, (x.1, ()))))), ()))).1.2.1, ((⟨0, fun i => ((0 : Int), ((0 : Int), ()))⟩ : Sl _), ((⟨0, fun i => ((0 : Int), ((0 : Int), ()))⟩ : Sl _), ())))), ()))) 0).1, ((0 : Int), ()))) else l none else l none else l none
theorem q28 (x : (a28).den) : runFn Try.prog E0 G28 Try.f28 l28 a28 r28 x = Q28 .leaf .any x := by kernel_rfl
def M28 (x : (a28).den) : Option (r28).den := Q28 (fun r => r) (fun _ _ => none) x
theorem m28 (x : (a28).den) : (runFn Try.prog E0 G28 Try.f28 l28 a28 r28 x).sure = M28 x := by rw [q28]; unfold M28 Q28; simp only [sure_cond, Tree.sure]
def p28 (x : (a28).den) : Bool := (M28 x).isSome
def v28 (x : (a28).den) : (r28).den := (M28 x).getD (r28).dflt
def k28 : Con := ⟨a28, r28, p28, v28⟩
theorem h28 : Holds Try.prog 28 k28 := holds_of_M' (E := E0) follows_ok g28 eqTy_sound keyTy_sound at28 bd28 (by kernel_rfl) m28 fun G' hlo hF hE => LsOK_kn (by rw [lo28]; exact .cons (loopV_ok hE hF hlo (LsOK_kn (by rw [lo28x0]; exact .nil)) (by kernel_rfl) (by kernel_rfl) sp28x0 (fun _ => rfl) (fun _ _ => rfl) (s28x0) big) (.nil))
/-- isobar/kite.Show -/
noncomputable def c35 : Code := Try.f35.body.getD .skip
theorem at35 : Try.prog.funcs[35]? = some Try.f35 := by kernel_rfl
theorem bd35 : Try.f35.body = some c35 := by kernel_rfl
theorem cl35 : Callable Try.prog 35 := callable_of at35 (by kernel_rfl) (by kernel_rfl)
abbrev T113 : Ty := (.cons .bool T3)
abbrev T114 : Ty := (.cons tI T113)
abbrev T115 : Ty := (.cons T42 T114)
abbrev a35 : Ty := T115
abbrev r35 : Ty := T87
noncomputable def G35 : Ctx := Ctx.of [(76, .pure k76), (79, .pure k79), (81, .pure k81), (82, .pure k82), (87, .pure k87)]
theorem g35 : Sound Try.prog (G35) := sound_of (List.forall_mem_cons.2 ⟨⟨cl76, h76⟩, List.forall_mem_cons.2 ⟨⟨cl79, h79⟩, List.forall_mem_cons.2 ⟨⟨cl81, h81⟩, List.forall_mem_cons.2 ⟨⟨cl82, h82⟩, List.forall_mem_cons.2 ⟨⟨cl87, h87⟩, fun _ h => by cases h⟩⟩⟩⟩⟩)
theorem lo35 : loopsOf (c35) = [] := by kernel_rfl
noncomputable def l35 : List Loop := []
def Q35 {α : Type} (l : Option (r35).den → α) (an : α → α → α) (x : (a35).den) : α := bif (p76 (x.1, (x.2.1, ()))) then bif (!(decide ((v76 (x.1, (x.2.1, ()))).2.1 = (0 : Int)))) then l (some (((0 : Int), ((0 : Int), ((0 : Int), ((⟨0, fun i => ((0 : Int), ())⟩ : Sl _), ((⟨0, fun i => ((0 : Int), ())⟩ : Sl _), ()))))), (v76 (x.1, (x.2.1, ()))).2)) else bif (decide (((0 : Int) ≤ x.2.1) ∧ (x.2.1 < ((x.1.1.n : Nat) : Int)))) then bif x.2.2.1 then bif (decide (((0 : Int) ≤ x.2.1) ∧ (x.2.1 < ((x.1.1.n : Nat) : Int)))) then bif (p82 (x.1, (x.2.1, ((1 : Int), ())))) then bif (p87 ((x.1.1.g (Int.toNat x.2.1)).2.2.2, (x.2.2.2.1, (v82 (x.1, (x.2.1, ((1 : Int), ()))))))) then bif (p81 ((v87 ((x.1.1.g (Int.toNat x.2.1)).2.2.2, (x.2.2.2.1, (v82 (x.1, (x.2.1, ((1 : Int), ()))))))).1, ())) then bif (p79 (x.1, ((x.2.1, ((1 : Int), (v81 ((v87 ((x.1.1.g (Int.toNat x.2.1)).2.2.2, (x.2.2.2.1, (v82 (x.1, (x.2.1, ((1 : Int), ()))))))).1, ())).1)), ((x.1.2.2.2.2.2.1, (x.1.2.2.2.2.2.2.1, ())), ())))) then l (some ((v79 (x.1, ((x.2.1, ((1 : Int), (v81 ((v87 ((x.1.1.g (Int.toNat x.2.1)).2.2.2, (x.2.2.2.1, (v82 (x.1, (x.2.1, ((1 : Int), ()))))))).1, ())).1)), ((x.1.2.2.2.2.2.1, (x.1.2.2.2.2.2.2.1, ())), ())))).1, ((0 : Int), ()))) else l none else l none else l none else l none else l none else bif (p82 (x.1, (x.2.1, ((0 : Int), ())))) then bif (p87 (((x.1.1.g (Int.toNat x.2.1)).2.1, ((x.1.1.g (Int.toNat x.2.1)).2.2.1, ())), (x.2.2.2.1, (v82 (x.1, (x.2.1, ((0 : Int), ()))))))) then bif (p81 ((v87 (((x.1.1.g (Int.toNat x.2.1)).2.1, ((x.1.1.g (Int.toNat x.2.1)).2.2.1, ())), (x.2.2.2.1, (v82 (x.1, (x.2.1, ((0 : Int), ()))))))).1, ())) then bif (p79 (x.1, ((x.2.1, ((0 : Int), (v81 ((v87 (((x.1.1.g (Int.toNat x.2.1)).2.1, ((x.1.1.g (Int.toNat x.2.1)).2.2.1, ())), (x.2.2.2.1, (v82 (x.1, (x.2.1, ((0 : Int), ()))))))).1, ())).1)), ((x.1.2.2.2.2.2.1, (x.1.2.2.2.2.2.2.1, ())), ())))) then l (some ((v79 (x.1, ((x.2.1, ((0 : Int), (v81 ((v87 (((x.1.1.g (Int.toNat x.2.1)).2.1, ((x.1.1.g (Int.toNat x.2.1)).2.2.1, ())), (x.2.2.2.1, (v82 (x.1, (x.2.1, ((0 : Int), ()))))))).1, ())).1)), ((x.1.2.2.2.2.2.1, (x.1.2.2.2.2.2.2.1, ())), ())))).1, ((0 : Int), ()))) else l none else l none else l none else l none else l none else l none
theorem q35 (x : (a35).den) : runFn Try.prog E0 G35 Try.f35 l35 a35 r35 x = Q35 .leaf .any x := by kernel_rfl
def M35 (x : (a35).den) : Option (r35).den := Q35 (fun r => r) (fun _ _ => none) x
theorem m35 (x : (a35).den) : (runFn Try.prog E0 G35 Try.f35 l35 a35 r35 x).sure = M35 x := by rw [q35]; unfold M35 Q35; simp only [sure_cond, Tree.sure]
def p35 (x : (a35).den) : Bool := (M35 x).isSome
def v35 (x : (a35).den) : (r35).den := (M35 x).getD (r35).dflt
def k35 : Con := ⟨a35, r35, p35, v35⟩
theorem h35 : Holds Try.prog 35 k35 := holds_of_M' (E := E0) follows_ok g35 eqTy_sound keyTy_sound at35 bd35 (by kernel_rfl) m35 fun G' hlo hF hE => LsOK_kn (by rw [lo35]; exact .nil)
/-- isobar/isobarref07.SameTruth -/
noncomputable def c33 : Code := Try.f33.body.getD .skip
theorem at33 : Try.prog.funcs[33]? = some Try.f33 := by kernel_rfl
theorem bd33 : Try.f33.body = some c33 := by kernel_rfl
theorem cl33 : Callable Try.prog 33 := callable_of at33 (by kernel_rfl) (by kernel_rfl)
abbrev T116 : Ty := (.cons T71 T72)
abbrev a33 : Ty := T116
abbrev r33 : Ty := T3
noncomputable def G33 : Ctx := Ctx.of [(25, .pure k25)]
theorem g33 : Sound Try.prog (G33) := sound_of (List.forall_mem_cons.2 ⟨⟨cl25, h25⟩, fun _ h => by cases h⟩)
theorem lo33 : loopsOf (c33) = [] := by kernel_rfl
noncomputable def l33 : List Loop := []
def Q33 {α : Type} (l : Option (r33).den → α) (an : α → α → α) (x : (a33).den) : α := bif (decide (x.1.1 = x.2.1.1)) then bif (decide (x.1.2.1 = x.2.1.2.1)) then bif (decide (x.1.2.2.1 = x.2.1.2.2.1)) then bif (p25 (x.1.2.2.2.1, (x.2.1.2.2.2.1, ()))) then bif (v25 (x.1.2.2.2.1, (x.2.1.2.2.2.1, ()))).1 then bif (p25 (x.1.2.2.2.2.1, x.2.1.2.2.2.2)) then l (some (v25 (x.1.2.2.2.2.1, x.2.1.2.2.2.2))) else l none else l (some (false, ())) else l none else l (some (false, ())) else l (some (false, ())) else l (some (false, ()))
theorem q33 (x : (a33).den) : runFn Try.prog E0 G33 Try.f33 l33 a33 r33 x = Q33 .leaf .any x := by kernel_rfl
def M33 (x : (a33).den) : Option (r33).den := Q33 (fun r => r) (fun _ _ => none) x
theorem m33 (x : (a33).den) : (runFn Try.prog E0 G33 Try.f33 l33 a33 r33 x).sure = M33 x := by rw [q33]; unfold M33 Q33; simp only [sure_cond, Tree.sure]
def p33 (x : (a33).den) : Bool := (M33 x).isSome
def v33 (x : (a33).den) : (r33).den := (M33 x).getD (r33).dflt
def k33 : Con := ⟨a33, r33, p33, v33⟩
theorem h33 : Holds Try.prog 33 k33 := holds_of_M' (E := E0) follows_ok g33 eqTy_sound keyTy_sound at33 bd33 (by kernel_rfl) m33 fun G' hlo hF hE => LsOK_kn (by rw [lo33]; exact .nil)
/-- isobar/isobarref07.SameWinds -/
noncomputable def c30 : Code := Try.f30.body.getD .skip
theorem at30 : Try.prog.funcs[30]? = some Try.f30 := by kernel_rfl
theorem bd30 : Try.f30.body = some c30 := by kernel_rfl
theorem cl30 : Callable Try.prog 30 := callable_of at30 (by kernel_rfl) (by kernel_rfl)
abbrev T117 : Ty := (.cons T111 .nil)
abbrev T118 : Ty := (.cons T111 T117)
abbrev a30 : Ty := T118
abbrev r30 : Ty := T3
noncomputable def G30 : Ctx := Ctx.of [(51, .pure k51)]
theorem g30 : Sound Try.prog (G30) := sound_of (List.forall_mem_cons.2 ⟨⟨cl51, h51⟩, fun _ h => by cases h⟩)
theorem lo30 : loopsOf (c30) = [] := by kernel_rfl
noncomputable def l30 : List Loop := []
def Q30 {α : Type} (l : Option (r30).den → α) (an : α → α → α) (x : (a30).den) : α := bif ((decide (x.1.1 = x.2.1.1)) && ((decide (x.1.2.1 = x.2.1.2.1)) && true)) then bif (p51 (x.1.2.2.1, (x.2.1.2.2.1, ()))) then bif (v51 (x.1.2.2.1, (x.2.1.2.2.1, ()))).1 then bif (p51 (x.1.2.2.2.1, x.2.1.2.2.2)) then l (some (v51 (x.1.2.2.2.1, x.2.1.2.2.2))) else l none else l (some (false, ())) else l none else l (some (false, ()))
theorem q30 (x : (a30).den) : runFn Try.prog E0 G30 Try.f30 l30 a30 r30 x = Q30 .leaf .any x := by kernel_rfl
def M30 (x : (a30).den) : Option (r30).den := Q30 (fun r => r) (fun _ _ => none) x
theorem m30 (x : (a30).den) : (runFn Try.prog E0 G30 Try.f30 l30 a30 r30 x).sure = M30 x := by rw [q30]; unfold M30 Q30; simp only [sure_cond, Tree.sure]
def p30 (x : (a30).den) : Bool := (M30 x).isSome
def v30 (x : (a30).den) : (r30).den := (M30 x).getD (r30).dflt
def k30 : Con := ⟨a30, r30, p30, v30⟩
theorem h30 : Holds Try.prog 30 k30 := holds_of_M' (E := E0) follows_ok g30 eqTy_sound keyTy_sound at30 bd30 (by kernel_rfl) m30 fun G' hlo hF hE => LsOK_kn (by rw [lo30]; exact .nil)
/-- isobar/isobarlaw07.known -/
noncomputable def c19 : Code := Try.f19.body.getD .skip
theorem at19 : Try.prog.funcs[19]? = some Try.f19 := by kernel_rfl
theorem bd19 : Try.f19.body = some c19 := by kernel_rfl
theorem cl19 : Callable Try.prog 19 := callable_of at19 (by kernel_rfl) (by kernel_rfl)
abbrev a19 : Ty := .nil
abbrev r19 : Ty := T3
noncomputable def G19 : Ctx := Ctx.of [(17, .pure k17), (22, .pure k22), (25, .pure k25), (28, .pure k28), (30, .pure k30), (32, .pure k32), (33, .pure k33), (35, .pure k35), (40, .pure k40), (46, .pure k46), (48, .pure k48), (51, .pure k51), (69, .pure k69), (70, .pure k70), (71, .pure k71)]
theorem g19 : Sound Try.prog (G19) := sound_of (List.forall_mem_cons.2 ⟨⟨cl17, h17⟩, List.forall_mem_cons.2 ⟨⟨cl22, h22⟩, List.forall_mem_cons.2 ⟨⟨cl25, h25⟩, List.forall_mem_cons.2 ⟨⟨cl28, h28⟩, List.forall_mem_cons.2 ⟨⟨cl30, h30⟩, List.forall_mem_cons.2 ⟨⟨cl32, h32⟩, List.forall_mem_cons.2 ⟨⟨cl33, h33⟩, List.forall_mem_cons.2 ⟨⟨cl35, h35⟩, List.forall_mem_cons.2 ⟨⟨cl40, h40⟩, List.forall_mem_cons.2 ⟨⟨cl46, h46⟩, List.forall_mem_cons.2 ⟨⟨cl48, h48⟩, List.forall_mem_cons.2 ⟨⟨cl51, h51⟩, List.forall_mem_cons.2 ⟨⟨cl69, h69⟩, List.forall_mem_cons.2 ⟨⟨cl70, h70⟩, List.forall_mem_cons.2 ⟨⟨cl71, h71⟩, fun _ h => by cases h⟩⟩⟩⟩⟩⟩⟩⟩⟩⟩⟩⟩⟩⟩⟩)
theorem lo19 : loopsOf (c19) = [] := by kernel_rfl
noncomputable def l19 : List Loop := []
def Q19 {α : Type} (l : Option (r19).den → α) (an : α → α → α) (x : (a19).den) : α := bif (p69 ()) then bif (p17 ((v69 ()).1, ())) then bif (p70 ()) then bif (p40 ((v70 ()).1, ())) then bif (p70 ()) then bif (p22 ((v70 ()).1, ((105 : Int), ((⟨3, fun i => List.getD [((155 : Int), ()), ((125 : Int), ()), ((50 : Int), ())] i ((155 : Int), ())⟩ : Sl _), ())))) then bif (p71 ()) then bif (p48 ((v71 ()).1, ())) then bif (p71 ()) then bif (p28 ((v71 ()).1, ())) then bif (p71 ()) then bif (p32 ((v71 ()).1, ())) then bif (p71 ()) then bif (p35 ((v71 ()).1, ((0 : Int), (true, (true, ()))))) then bif (!(decide ((v17 ((v69 ()).1, ())).2.1 = (0 : Int)))) then l (some (false, ())) else bif (!(decide ((v40 ((v70 ()).1, ())).2.1 = (0 : Int)))) then l (some (false, ())) else bif (!(decide ((v22 ((v70 ()).1, ((105 : Int), ((⟨3, fun i => List.getD [((155 : Int), ()), ((125 : Int), ()), ((50 : Int), ())] i ((155 : Int), ())⟩ : Sl _), ())))).2.1 = (0 : Int)))) then l (some (false, ())) else bif (!(decide ((v48 ((v71 ()).1, ())).2.1 = (0 : Int)))) then l (some (false, ())) else bif (!(decide ((v28 ((v71 ()).1, ())).2.1 = (0 : Int)))) then l (some (false, ())) else bif (!(decide ((v32 ((v71 ()).1, ())).2.1 = (0 : Int)))) then l (some (false, ())) else bif (!(decide ((v35 ((v71 ()).1, ((0 : Int), (true, (true, ()))))).2.1 = (0 : Int)))) then l (some (false, ())) else bif (p46 ((610 : Int), ((681 : Int), ()))) then bif (!((decide ((v17 ((v69 ()).1, ())).1.1 = (v46 ((610 : Int), ((681 : Int), ()))).1.1)) && ((decide ((v17 ((v69 ()).1, ())).1.2.1 = (v46 ((610 : Int), ((681 : Int), ()))).1.2.1)) && true))) then l (some (false, ())) else bif (p46 ((100 : Int), ((110 : Int), ()))) then bif (p46 ((678 : Int), ((690 : Int), ()))) then bif (p46 ((1944 : Int), ((1963 : Int), ()))) then bif (p51 ((v40 ((v70 ()).1, ())).1, ((⟨3, fun i => List.getD [(v46 ((100 : Int), ((110 : Int), ()))).1, (v46 ((678 : Int), ((690 : Int), ()))).1, (v46 ((1944 : Int), ((1963 : Int), ()))).1] i (v46 ((100 : Int), ((110 : Int), ()))).1⟩ : Sl _), ()))) then bif (!(v51 ((v40 ((v70 ()).1, ())).1, ((⟨3, fun i => List.getD [(v46 ((100 : Int), ((110 : Int), ()))).1, (v46 ((678 : Int), ((690 : Int), ()))).1, (v46 ((1944 : Int), ((1963 : Int), ()))).1] i (v46 ((100 : Int), ((110 : Int), ()))).1⟩ : Sl _), ()))).1) then l (some (false, ())) else bif (p25 ((v22 ((v70 ()).1, ((105 : Int), ((⟨3, fun i => List.getD [((155 : Int), ()), ((125 : Int), ()), ((50 : Int), ())] i ((155 : Int), ())⟩ : Sl _), ())))).1, ((⟨3, fun i => List.getD [((105 : Int), ()), ((684 : Int), ()), ((1953 : Int), ())] i ((105 : Int), ())⟩ : Sl _), ()))) then bif (!(v25 ((v22 ((v70 ()).1, ((105 : Int), ((⟨3, fun i => List.getD [((155 : Int), ()), ((125 : Int), ()), ((50 : Int), ())] i ((155 : Int), ())⟩ : Sl _), ())))).1, ((⟨3, fun i => List.getD [((105 : Int), ()), ((684 : Int), ()), ((1953 : Int), ())] i ((105 : Int), ())⟩ : Sl _), ()))).1) then l (some (false, ())) else bif (p46 ((5 : Int), ((51 : Int), ()))) then bif (p46 ((-12 : Int), ((5 : Int), ()))) then bif (p46 ((5 : Int), ((11 : Int), ()))) then bif (!((decide ((v48 ((v71 ()).1, ())).1.1 = (v46 ((5 : Int), ((51 : Int), ()))).1.1)) && ((decide ((v48 ((v71 ()).1, ())).1.2.1 = (v46 ((5 : Int), ((51 : Int), ()))).1.2.1)) && ((decide ((v48 ((v71 ()).1, ())).1.2.2.1 = (v46 ((-12 : Int), ((5 : Int), ()))).1.1)) && ((decide ((v48 ((v71 ()).1, ())).1.2.2.2.1 = (v46 ((-12 : Int), ((5 : Int), ()))).1.2.1)) && ((decide ((v48 ((v71 ()).1, ())).1.2.2.2.2.1 = (v46 ((5 : Int), ((11 : Int), ()))).1.1)) && ((decide ((v48 ((v71 ()).1, ())).1.2.2.2.2.2.1 = (v46 ((5 : Int), ((11 : Int), ()))).1.2.1)) && true))))))) then l (some (false, ())) else bif (p46 ((2 : Int), ((2 : Int), ()))) then bif (p46 ((1 : Int), ((2 : Int), ()))) then bif (p46 ((5 : Int), ((6 : Int), ()))) then bif (p46 ((0 : Int), ((1 : Int), ()))) then bif (p46 ((-2 : Int), ((-1 : Int), ()))) then bif (p30 ((v28 ((v71 ()).1, ())).1, (((v46 ((2 : Int), ((2 : Int), ()))).1.1, ((v46 ((2 : Int), ((2 : Int), ()))).1.2.1, ((⟨2, fun i => List.getD [(v46 ((1 : Int), ((2 : Int), ()))).1, (v46 ((5 : Int), ((6 : Int), ()))).1] i (v46 ((1 : Int), ((2 : Int), ()))).1⟩ : Sl _), ((⟨2, fun i => List.getD [(v46 ((0 : Int), ((1 : Int), ()))).1, (v46 ((-2 : Int), ((-1 : Int), ()))).1] i (v46 ((0 : Int), ((1 : Int), ()))).1⟩ : Sl _), ())))), ()))) then bif (v30 ((v28 ((v71 ()).1, ())).1, (((v46 ((2 : Int), ((2 : Int), ()))).1.1, ((v46 ((2 : Int), ((2 : Int), ()))).1.2.1, ((⟨2, fun i => List.getD [(v46 ((1 : Int), ((2 : Int), ()))).1, (v46 ((5 : Int), ((6 : Int), ()))).1] i (v46 ((1 : Int), ((2 : Int), ()))).1⟩ : Sl _), ((⟨2, fun i => List.getD [(v46 ((0 : Int), ((1 : Int), ()))).1, (v46 ((-2 : Int), ((-1 : Int), ()))).1] i (v46 ((0 : Int), ((1 : Int), ()))).1⟩ : Sl _), ())))), ()))).1 then bif (p33 ((v32 ((v71 ()).1, ())).1, (((200 : Int), ((400 : Int), ((2 : Int), ((⟨2, fun i => List.getD [((1 : Int), ()), ((6 : Int), ())] i ((1 : Int), ())⟩ : Sl _), ((⟨2, fun i => List.getD [((0 : Int), ()), ((-1 : Int), ())] i ((0 : Int), ())⟩ : Sl _), ()))))), ()))) then bif (v33 ((v32 ((v71 ()).1, ())).1, (((200 : Int), ((400 : Int), ((2 : Int), ((⟨2, fun i => List.getD [((1 : Int), ()), ((6 : Int), ())] i ((1 : Int), ())⟩ : Sl _), ((⟨2, fun i => List.getD [((0 : Int), ()), ((-1 : Int), ())] i ((0 : Int), ())⟩ : Sl _), ()))))), ()))).1 then bif (p33 ((v35 ((v71 ()).1, ((0 : Int), (true, (true, ()))))).1, (((200 : Int), ((400 : Int), ((2 : Int), ((⟨2, fun i => List.getD [((1 : Int), ()), ((6 : Int), ())] i ((1 : Int), ())⟩ : Sl _), ((⟨2, fun i => List.getD [((1 : Int), ()), ((-2 : Int), ())] i ((1 : Int), ())⟩ : Sl _), ()))))), ()))) then l (some (v33 ((v35 ((v71 ()).1, ((0 : Int), (true, (true, ()))))).1, (((200 : Int), ((400 : Int), ((2 : Int), ((⟨2, fun i => List.getD [((1 : Int), ()), ((6 : Int), ())] i ((1 : Int), ())⟩ : Sl _), ((⟨2, fun i => List.getD [((1 : Int), ()), ((-2 : Int), ())] i ((1 : Int), ())⟩ : Sl _), ()))))), ())))) else l none else l (some (false, ())) else l none else l (some (false, ())) else l none else l none else l none else l none else l none else l none else l none else l none else l none else l none else l none else l none else l none else l none else l none else l none else l none else l none else l none else l none else l none else l none else l none else l none else l none else l none else l none else l none else l none
theorem q19 (x : (a19).den) : runFn Try.prog E0 G19 Try.f19 l19 a19 r19 x = Q19 .leaf .any x := by kernel_rfl
def M19 (x : (a19).den) : Option (r19).den := Q19 (fun r => r) (fun _ _ => none) x
theorem m19 (x : (a19).den) : (runFn Try.prog E0 G19 Try.f19 l19 a19 r19 x).sure = M19 x := by rw [q19]; unfold M19 Q19; simp only [sure_cond, Tree.sure]
def p19 (x : (a19).den) : Bool := (M19 x).isSome
def v19 (x : (a19).den) : (r19).den := (M19 x).getD (r19).dflt
def k19 : Con := ⟨a19, r19, p19, v19⟩
theorem h19 : Holds Try.prog 19 k19 := holds_of_M' (E := E0) follows_ok g19 eqTy_sound keyTy_sound at19 bd19 (by kernel_rfl) m19 fun G' hlo hF hE => LsOK_kn (by rw [lo19]; exact .nil)
/-- isobar/isobarref07.wind -/
noncomputable def c89 : Code := Try.f89.body.getD .skip
theorem at89 : Try.prog.funcs[89]? = some Try.f89 := by kernel_rfl
theorem bd89 : Try.f89.body = some c89 := by kernel_rfl
theorem cl89 : Callable Try.prog 89 := callable_of at89 (by kernel_rfl) (by kernel_rfl)
abbrev a89 : Ty := T6
abbrev r89 : Ty := T3
noncomputable def G89 : Ctx := Ctx.of [(68, .pure k68)]
theorem g89 : Sound Try.prog (G89) := sound_of (List.forall_mem_cons.2 ⟨⟨cl68, h68⟩, fun _ h => by cases h⟩)
theorem lo89 : loopsOf (c89) = [] := by kernel_rfl
noncomputable def l89 : List Loop := []
def Q89 {α : Type} (l : Option (r89).den → α) (an : α → α → α) (x : (a89).den) : α := bif (p68 (x.1, ((-100 : Int), ((100 : Int), ())))) then bif (v68 (x.1, ((-100 : Int), ((100 : Int), ())))).1 then l (some ((decide ((W (x.1.2.1 - x.1.1)) ≤ (8 : Int))), ())) else l (some (false, ())) else l none
theorem q89 (x : (a89).den) : runFn Try.prog E0 G89 Try.f89 l89 a89 r89 x = Q89 .leaf .any x := by kernel_rfl
def M89 (x : (a89).den) : Option (r89).den := Q89 (fun r => r) (fun _ _ => none) x
theorem m89 (x : (a89).den) : (runFn Try.prog E0 G89 Try.f89 l89 a89 r89 x).sure = M89 x := by rw [q89]; unfold M89 Q89; simp only [sure_cond, Tree.sure]
def p89 (x : (a89).den) : Bool := (M89 x).isSome
def v89 (x : (a89).den) : (r89).den := (M89 x).getD (r89).dflt
def k89 : Con := ⟨a89, r89, p89, v89⟩
theorem h89 : Holds Try.prog 89 k89 := holds_of_M' (E := E0) follows_ok g89 eqTy_sound keyTy_sound at89 bd89 (by kernel_rfl) m89 fun G' hlo hF hE => LsOK_kn (by rw [lo89]; exact .nil)
/-- isobar/isobarref07.speed -/
noncomputable def c90 : Code := Try.f90.body.getD .skip
theorem at90 : Try.prog.funcs[90]? = some Try.f90 := by kernel_rfl
theorem bd90 : Try.f90.body = some c90 := by kernel_rfl
theorem cl90 : Callable Try.prog 90 := callable_of at90 (by kernel_rfl) (by kernel_rfl)
abbrev a90 : Ty := T6
abbrev r90 : Ty := T3
noncomputable def G90 : Ctx := Ctx.of [(68, .pure k68)]
theorem g90 : Sound Try.prog (G90) := sound_of (List.forall_mem_cons.2 ⟨⟨cl68, h68⟩, fun _ h => by cases h⟩)
theorem lo90 : loopsOf (c90) = [] := by kernel_rfl
noncomputable def l90 : List Loop := []
def Q90 {α : Type} (l : Option (r90).den → α) (an : α → α → α) (x : (a90).den) : α := bif (p68 (x.1, ((50 : Int), ((1000 : Int), ())))) then bif (v68 (x.1, ((50 : Int), ((1000 : Int), ())))).1 then l (some ((decide ((W (x.1.2.1 - x.1.1)) ≤ (3 : Int))), ())) else l (some (false, ())) else l none
theorem q90 (x : (a90).den) : runFn Try.prog E0 G90 Try.f90 l90 a90 r90 x = Q90 .leaf .any x := by kernel_rfl
def M90 (x : (a90).den) : Option (r90).den := Q90 (fun r => r) (fun _ _ => none) x
theorem m90 (x : (a90).den) : (runFn Try.prog E0 G90 Try.f90 l90 a90 r90 x).sure = M90 x := by rw [q90]; unfold M90 Q90; simp only [sure_cond, Tree.sure]
def p90 (x : (a90).den) : Bool := (M90 x).isSome
def v90 (x : (a90).den) : (r90).den := (M90 x).getD (r90).dflt
def k90 : Con := ⟨a90, r90, p90, v90⟩
theorem h90 : Holds Try.prog 90 k90 := holds_of_M' (E := E0) follows_ok g90 eqTy_sound keyTy_sound at90 bd90 (by kernel_rfl) m90 fun G' hlo hF hE => LsOK_kn (by rw [lo90]; exact .nil)
/-- isobar/isobarref07.Flight -/
noncomputable def c38 : Code := Try.f38.body.getD .skip
theorem at38 : Try.prog.funcs[38]? = some Try.f38 := by kernel_rfl
theorem bd38 : Try.f38.body = some c38 := by kernel_rfl
theorem cl38 : Callable Try.prog 38 := callable_of at38 (by kernel_rfl) (by kernel_rfl)
abbrev a38 : Ty := T43
abbrev r38 : Ty := T3
noncomputable def G38 : Ctx := Ctx.of [(68, .pure k68), (75, .pure k75), (89, .pure k89), (90, .pure k90)]
theorem g38 : Sound Try.prog (G38) := sound_of (List.forall_mem_cons.2 ⟨⟨cl68, h68⟩, List.forall_mem_cons.2 ⟨⟨cl75, h75⟩, List.forall_mem_cons.2 ⟨⟨cl89, h89⟩, List.forall_mem_cons.2 ⟨⟨cl90, h90⟩, fun _ h => by cases h⟩⟩⟩⟩)
noncomputable def b38x0 : Code := loopBody ((loopsOf (c38))[0]?)
theorem lo38x0 : loopsOf (b38x0) = [] := by kernel_rfl
abbrev cs38x0 : List Pat := [.slot 1 (.ptr 1), .box 1 [.pc (.sl T9), .pc tI, .pc tI, .pc tI, .pc tI, .pc tI, .pc tI, .pc tI, .pc tI, .pc tI, .pc tI, .pc tI, .pc tI]]
abbrev vs38x0 : List Pat := [.slot 3 (.pc tI)]
abbrev ps38x0 : List Pat := [.slot 1 (.ptr 1), .box 1 [.pc (.sl T9), .pc tI, .pc tI, .pc tI, .pc tI, .pc tI, .pc tI, .pc tI, .pc tI, .pc tI, .pc tI, .pc tI, .pc tI], .slot 3 (.pc tI)]
def j38x0 : (patsTy cs38x0).den → (patsTy vs38x0).den → (patsTy ps38x0).den := fun c v => (c.1, (c.2.1, v))
def sp38x0 : (patsTy ps38x0).den → (patsTy cs38x0).den × (patsTy vs38x0).den := fun x => ((x.1, (x.2.1, ())), x.2.2)
abbrev wy38x0 : Ways := ⟨[(0, [.slot 1 (.ptr 1), .box 1 [.pc (.sl T9), .pc tI, .pc tI, .pc tI, .pc tI, .pc tI, .pc tI, .pc tI, .pc tI, .pc tI, .pc tI, .pc tI, .pc tI]])], [.slot 2 (.pc .bool)], []⟩
abbrev wv38x0 : Ways := ⟨[(0, [])], [.slot 2 (.pc .bool)], []⟩
def je38x0 : (id : Nat) → (patsTy cs38x0).den → (patsTy (wayP wv38x0 id)).den → (patsTy (wayP wy38x0 id)).den := fun id => match id with | 0 => fun c y => (c.1, (c.2.1, y)) | id => fun _ _ => (patsTy (wayP wy38x0 id)).dflt
def jr38x0 : (patsTy cs38x0).den → (patsTy (wv38x0).ret).den → (patsTy (wy38x0).ret).den := fun c y => y
def Z38x0 {α : Type} (l : RQ vs38x0 wv38x0 → α) (an : α → α → α) (c : (patsTy cs38x0).den) (v : (patsTy vs38x0).den) : α := bif (decide (v.1 < ((c.2.1.1.n : Nat) : Int))) then bif (decide (((0 : Int) ≤ v.1) ∧ (v.1 < ((c.2.1.1.n : Nat) : Int)))) then bif (p75 ((c.2.1.1.g (Int.toNat v.1)).1, ((1 : Int), ((3000 : Int), ())))) then bif (!(v75 ((c.2.1.1.g (Int.toNat v.1)).1, ((1 : Int), ((3000 : Int), ())))).1) then l (.out (.ret (false, ()))) else bif (p89 (((c.2.1.1.g (Int.toNat v.1)).2.1, ((c.2.1.1.g (Int.toNat v.1)).2.2.1, ())), ())) then bif (!(v89 (((c.2.1.1.g (Int.toNat v.1)).2.1, ((c.2.1.1.g (Int.toNat v.1)).2.2.1, ())), ())).1) then l (.out (.ret (false, ()))) else bif (p89 ((c.2.1.1.g (Int.toNat v.1)).2.2.2, ())) then bif (!(v89 ((c.2.1.1.g (Int.toNat v.1)).2.2.2, ())).1) then l (.out (.ret (false, ()))) else l (.next ((W (v.1 + (1 : Int))), ())) else l .bad else l .bad else l .bad else l .bad else l (.out (.exit 0 ()))
theorem z38x0 (c : (patsTy cs38x0).den) (v : (patsTy vs38x0).den) : roundQ Try.prog E0 G38 0 70 [] ps38x0 wy38x0 b38x0 [] (j38x0 c v) = Z38x0 (fun r => .leaf (r.lift j38x0 je38x0 jr38x0 c)) .any c v := by kernel_rfl
def S38x0 (c : (patsTy cs38x0).den) (v : (patsTy vs38x0).den) : RQ vs38x0 wv38x0 := Z38x0 (fun r => r) (fun _ _ => .bad) c v
theorem s38x0 (c : (patsTy cs38x0).den) (v : (patsTy vs38x0).den) : detQ (roundQ Try.prog E0 G38 0 70 [] ps38x0 wy38x0 b38x0 [] (j38x0 c v)) = (S38x0 c v).lift j38x0 je38x0 jr38x0 c := by rw [z38x0]; unfold S38x0 Z38x0; simp only [detQ_cond, lift_cond, lift_bad, detQ]
def L38x0 (c : (patsTy cs38x0).den) (v : (patsTy vs38x0).den) : LQ wv38x0 := iterQ (S38x0 c) big v
theorem lo38 : loopsOf (c38) = [.loop b38x0] := by kernel_rfl
noncomputable def l38 : List Loop := [.known (loopF 0 [] ps38x0 fun x => spreadV wy38x0 je38x0 jr38x0 true (sp38x0 x).1 (L38x0 (sp38x0 x).1 (sp38x0 x).2) wy38x0.exits)]
def Q38 {α : Type} (l : Option (r38).den → α) (an : α → α → α) (x : (a38).den) : α := bif (LQ.isExit (L38x0 ((), (x.1, ())) ((0 : Int), ())) 0) then bif (p75 (((x.1.1.n : Nat) : Int), ((1 : Int), ((4 : Int), ())))) then bif (v75 (((x.1.1.n : Nat) : Int), ((1 : Int), ((4 : Int), ())))).1 then bif (p90 ((x.1.2.1, (x.1.2.2.1, ())), ())) then bif (v90 ((x.1.2.1, (x.1.2.2.1, ())), ())).1 then bif (p90 ((x.1.2.2.2.1, (x.1.2.2.2.2.1, ())), ())) then bif (v90 ((x.1.2.2.2.1, (x.1.2.2.2.2.1, ())), ())).1 then bif (p68 ((x.1.2.2.2.2.2.1, (x.1.2.2.2.2.2.2.1, ())), ((1 : Int), (((x.1.1.n : Nat) : Int), ())))) then bif (v68 ((x.1.2.2.2.2.2.1, (x.1.2.2.2.2.2.2.1, ())), ((1 : Int), (((x.1.1.n : Nat) : Int), ())))).1 then bif (p68 ((x.1.2.2.2.2.2.2.2.1, (x.1.2.2.2.2.2.2.2.2.1, ())), ((-100000 : Int), ((100000 : Int), ())))) then bif (v68 ((x.1.2.2.2.2.2.2.2.1, (x.1.2.2.2.2.2.2.2.2.1, ())), ((-100000 : Int), ((100000 : Int), ())))).1 then bif (p68 ((x.1.2.2.2.2.2.2.2.2.2.1, (x.1.2.2.2.2.2.2.2.2.2.2.1, ())), ((-100000 : Int), ((100000 : Int), ())))) then bif (v68 ((x.1.2.2.2.2.2.2.2.2.2.1, (x.1.2.2.2.2.2.2.2.2.2.2.1, ())), ((-100000 : Int), ((100000 : Int), ())))).1 then bif (p68 (x.1.2.2.2.2.2.2.2.2.2.2.2, ((0 : Int), ((100000 : Int), ())))) then l (some (v68 (x.1.2.2.2.2.2.2.2.2.2.2.2, ((0 : Int), ((100000 : Int), ()))))) else l none else l (some (false, ())) else l none else l (some (false, ())) else l none else l (some (false, ())) else l none else l (some (false, ())) else l none else l (some (false, ())) else l none else l (some (false, ())) else l none else bif (LQ.isRet (L38x0 ((), (x.1, ())) ((0 : Int), ()))) then l (some (LQ.getRet (L38x0 ((), (x.1, ())) ((0 : Int), ())))) else l none
theorem q38 (x : (a38).den) : runFn Try.prog E0 G38 Try.f38 l38 a38 r38 x = Q38 .leaf .any x := by kernel_rfl
def M38 (x : (a38).den) : Option (r38).den := Q38 (fun r => r) (fun _ _ => none) x
theorem m38 (x : (a38).den) : (runFn Try.prog E0 G38 Try.f38 l38 a38 r38 x).sure = M38 x := by rw [q38]; unfold M38 Q38; simp only [sure_cond, Tree.sure]
def p38 (x : (a38).den) : Bool := (M38 x).isSome
def v38 (x : (a38).den) : (r38).den := (M38 x).getD (r38).dflt
def k38 : Con := ⟨a38, r38, p38, v38⟩
theorem h38 : Holds Try.prog 38 k38 := holds_of_M' (E := E0) follows_ok g38 eqTy_sound keyTy_sound at38 bd38 (by kernel_rfl) m38 fun G' hlo hF hE => LsOK_kn (by rw [lo38]; exact .cons (loopV_ok hE hF hlo (LsOK_kn (by rw [lo38x0]; exact .nil)) (by kernel_rfl) (by kernel_rfl) sp38x0 (fun _ => rfl) (fun _ _ => rfl) (s38x0) big) (.nil))
/-- isobar/isobarref07.Layer -/
noncomputable def c36 : Code := Try.f36.body.getD .skip
theorem at36 : Try.prog.funcs[36]? = some Try.f36 := by kernel_rfl
theorem bd36 : Try.f36.body = some c36 := by kernel_rfl
theorem cl36 : Callable Try.prog 36 := callable_of at36 (by kernel_rfl) (by kernel_rfl)
abbrev a36 : Ty := T86
abbrev r36 : Ty := T3
noncomputable def G36 : Ctx := Ctx.of [(75, .pure k75)]
theorem g36 : Sound Try.prog (G36) := sound_of (List.forall_mem_cons.2 ⟨⟨cl75, h75⟩, fun _ h => by cases h⟩)
theorem lo36 : loopsOf (c36) = [] := by kernel_rfl
noncomputable def l36 : List Loop := []
def Q36 {α : Type} (l : Option (r36).den → α) (an : α → α → α) (x : (a36).den) : α := bif (p75 (x.2.1, ((0 : Int), ((W (((x.1.1.n : Nat) : Int) - (1 : Int))), ())))) then l (some (v75 (x.2.1, ((0 : Int), ((W (((x.1.1.n : Nat) : Int) - (1 : Int))), ()))))) else l none
theorem q36 (x : (a36).den) : runFn Try.prog E0 G36 Try.f36 l36 a36 r36 x = Q36 .leaf .any x := by kernel_rfl
def M36 (x : (a36).den) : Option (r36).den := Q36 (fun r => r) (fun _ _ => none) x
theorem m36 (x : (a36).den) : (runFn Try.prog E0 G36 Try.f36 l36 a36 r36 x).sure = M36 x := by rw [q36]; unfold M36 Q36; simp only [sure_cond, Tree.sure]
def p36 (x : (a36).den) : Bool := (M36 x).isSome
def v36 (x : (a36).den) : (r36).den := (M36 x).getD (r36).dflt
def k36 : Con := ⟨a36, r36, p36, v36⟩
theorem h36 : Holds Try.prog 36 k36 := holds_of_M' (E := E0) follows_ok g36 eqTy_sound keyTy_sound at36 bd36 (by kernel_rfl) m36 fun G' hlo hF hE => LsOK_kn (by rw [lo36]; exact .nil)
/-- isobar/isobarref07.Truth -/
noncomputable def c57 : Code := Try.f57.body.getD .skip
theorem at57 : Try.prog.funcs[57]? = some Try.f57 := by kernel_rfl
theorem bd57 : Try.f57.body = some c57 := by kernel_rfl
theorem cl57 : Callable Try.prog 57 := callable_of at57 (by kernel_rfl) (by kernel_rfl)
abbrev a57 : Ty := T73
abbrev r57 : Ty := T3
noncomputable def G57 : Ctx := Ctx.of [(75, .pure k75)]
theorem g57 : Sound Try.prog (G57) := sound_of (List.forall_mem_cons.2 ⟨⟨cl75, h75⟩, fun _ h => by cases h⟩)
noncomputable def b57x0 : Code := loopBody ((loopsOf (c57))[0]?)
theorem lo57x0 : loopsOf (b57x0) = [] := by kernel_rfl
abbrev cs57x0 : List Pat := [.slot 2 (.ptr 2), .slot 3 (.ptr 3), .box 2 [.pc (.sl T9), .pc tI, .pc tI, .pc tI, .pc tI, .pc tI, .pc tI, .pc tI, .pc tI, .pc tI, .pc tI, .pc tI, .pc tI], .box 3 [.pc tI, .pc tI, .pc tI, .pc (.sl T0), .pc (.sl T0)]]
abbrev vs57x0 : List Pat := [.slot 5 (.pc tI)]
abbrev ps57x0 : List Pat := [.slot 2 (.ptr 2), .slot 3 (.ptr 3), .box 2 [.pc (.sl T9), .pc tI, .pc tI, .pc tI, .pc tI, .pc tI, .pc tI, .pc tI, .pc tI, .pc tI, .pc tI, .pc tI, .pc tI], .box 3 [.pc tI, .pc tI, .pc tI, .pc (.sl T0), .pc (.sl T0)], .slot 5 (.pc tI)]
def j57x0 : (patsTy cs57x0).den → (patsTy vs57x0).den → (patsTy ps57x0).den := fun c v => (c.1, (c.2.1, (c.2.2.1, (c.2.2.2.1, v))))
def sp57x0 : (patsTy ps57x0).den → (patsTy cs57x0).den × (patsTy vs57x0).den := fun x => ((x.1, (x.2.1, (x.2.2.1, (x.2.2.2.1, ())))), x.2.2.2.2)
abbrev wy57x0 : Ways := ⟨[(0, [.slot 2 (.ptr 2), .slot 3 (.ptr 3), .box 2 [.pc (.sl T9), .pc tI, .pc tI, .pc tI, .pc tI, .pc tI, .pc tI, .pc tI, .pc tI, .pc tI, .pc tI, .pc tI, .pc tI], .box 3 [.pc tI, .pc tI, .pc tI, .pc (.sl T0), .pc (.sl T0)]])], [.slot 4 (.pc .bool)], []⟩
abbrev wv57x0 : Ways := ⟨[(0, [])], [.slot 4 (.pc .bool)], []⟩
def je57x0 : (id : Nat) → (patsTy cs57x0).den → (patsTy (wayP wv57x0 id)).den → (patsTy (wayP wy57x0 id)).den := fun id => match id with | 0 => fun c y => (c.1, (c.2.1, (c.2.2.1, (c.2.2.2.1, y)))) | id => fun _ _ => (patsTy (wayP wy57x0 id)).dflt
def jr57x0 : (patsTy cs57x0).den → (patsTy (wv57x0).ret).den → (patsTy (wy57x0).ret).den := fun c y => y
def Z57x0 {α : Type} (l : RQ vs57x0 wv57x0 → α) (an : α → α → α) (c : (patsTy cs57x0).den) (v : (patsTy vs57x0).den) : α := bif (decide (v.1 < ((c.2.2.1.1.n : Nat) : Int))) then bif (decide (((0 : Int) ≤ v.1) ∧ (v.1 < ((c.2.2.1.1.n : Nat) : Int)))) then bif (decide (((0 : Int) ≤ v.1) ∧ (v.1 < ((c.2.2.2.1.2.2.2.1.n : Nat) : Int)))) then bif (p75 ((c.2.2.2.1.2.2.2.1.g (Int.toNat v.1)).1, ((c.2.2.1.1.g (Int.toNat v.1)).2.1, ((c.2.2.1.1.g (Int.toNat v.1)).2.2.1, ())))) then bif (!(v75 ((c.2.2.2.1.2.2.2.1.g (Int.toNat v.1)).1, ((c.2.2.1.1.g (Int.toNat v.1)).2.1, ((c.2.2.1.1.g (Int.toNat v.1)).2.2.1, ())))).1) then l (.out (.ret (false, ()))) else bif (decide (((0 : Int) ≤ v.1) ∧ (v.1 < ((c.2.2.2.1.2.2.2.2.1.n : Nat) : Int)))) then bif (p75 ((c.2.2.2.1.2.2.2.2.1.g (Int.toNat v.1)).1, (c.2.2.1.1.g (Int.toNat v.1)).2.2.2)) then bif (!(v75 ((c.2.2.2.1.2.2.2.2.1.g (Int.toNat v.1)).1, (c.2.2.1.1.g (Int.toNat v.1)).2.2.2)).1) then l (.out (.ret (false, ()))) else l (.next ((W (v.1 + (1 : Int))), ())) else l .bad else l .bad else l .bad else l .bad else l .bad else l (.out (.exit 0 ()))
theorem z57x0 (c : (patsTy cs57x0).den) (v : (patsTy vs57x0).den) : roundQ Try.prog E0 G57 0 94 [] ps57x0 wy57x0 b57x0 [] (j57x0 c v) = Z57x0 (fun r => .leaf (r.lift j57x0 je57x0 jr57x0 c)) .any c v := by kernel_rfl
def S57x0 (c : (patsTy cs57x0).den) (v : (patsTy vs57x0).den) : RQ vs57x0 wv57x0 := Z57x0 (fun r => r) (fun _ _ => .bad) c v
theorem s57x0 (c : (patsTy cs57x0).den) (v : (patsTy vs57x0).den) : detQ (roundQ Try.prog E0 G57 0 94 [] ps57x0 wy57x0 b57x0 [] (j57x0 c v)) = (S57x0 c v).lift j57x0 je57x0 jr57x0 c := by rw [z57x0]; unfold S57x0 Z57x0; simp only [detQ_cond, lift_cond, lift_bad, detQ]
def L57x0 (c : (patsTy cs57x0).den) (v : (patsTy vs57x0).den) : LQ wv57x0 := iterQ (S57x0 c) big v
theorem lo57 : loopsOf (c57) = [.loop b57x0] := by kernel_rfl
noncomputable def l57 : List Loop := [.known (loopF 0 [] ps57x0 fun x => spreadV wy57x0 je57x0 jr57x0 true (sp57x0 x).1 (L57x0 (sp57x0 x).1 (sp57x0 x).2) wy57x0.exits)]
def Q57 {α : Type} (l : Option (r57).den → α) (an : α → α → α) (x : (a57).den) : α := bif (!(decide (((x.2.1.2.2.2.1.n : Nat) : Int) = ((x.1.1.n : Nat) : Int)))) then l (some (false, ())) else bif (!(decide (((x.2.1.2.2.2.2.1.n : Nat) : Int) = ((x.1.1.n : Nat) : Int)))) then l (some (false, ())) else bif (LQ.isExit (L57x0 ((), ((), (x.1, (x.2.1, ())))) ((0 : Int), ())) 0) then bif (p75 (x.2.1.1, (x.1.2.1, (x.1.2.2.1, ())))) then bif (v75 (x.2.1.1, (x.1.2.1, (x.1.2.2.1, ())))).1 then bif (p75 (x.2.1.2.1, (x.1.2.2.2.1, (x.1.2.2.2.2.1, ())))) then bif (v75 (x.2.1.2.1, (x.1.2.2.2.1, (x.1.2.2.2.2.1, ())))).1 then bif (p75 (x.2.1.2.2.1, (x.1.2.2.2.2.2.1, (x.1.2.2.2.2.2.2.1, ())))) then l (some (v75 (x.2.1.2.2.1, (x.1.2.2.2.2.2.1, (x.1.2.2.2.2.2.2.1, ()))))) else l none else l (some (false, ())) else l none else l (some (false, ())) else l none else bif (LQ.isRet (L57x0 ((), ((), (x.1, (x.2.1, ())))) ((0 : Int), ()))) then l (some (LQ.getRet (L57x0 ((), ((), (x.1, (x.2.1, ())))) ((0 : Int), ())))) else l none
theorem q57 (x : (a57).den) : runFn Try.prog E0 G57 Try.f57 l57 a57 r57 x = Q57 .leaf .any x := by kernel_rfl
def M57 (x : (a57).den) : Option (r57).den := Q57 (fun r => r) (fun _ _ => none) x
theorem m57 (x : (a57).den) : (runFn Try.prog E0 G57 Try.f57 l57 a57 r57 x).sure = M57 x := by rw [q57]; unfold M57 Q57; simp only [sure_cond, Tree.sure]
def p57 (x : (a57).den) : Bool := (M57 x).isSome
def v57 (x : (a57).den) : (r57).den := (M57 x).getD (r57).dflt
def k57 : Con := ⟨a57, r57, p57, v57⟩
theorem h57 : Holds Try.prog 57 k57 := holds_of_M' (E := E0) follows_ok g57 eqTy_sound keyTy_sound at57 bd57 (by kernel_rfl) m57 fun G' hlo hF hE => LsOK_kn (by rw [lo57]; exact .cons (loopV_ok hE hF hlo (LsOK_kn (by rw [lo57x0]; exact .nil)) (by kernel_rfl) (by kernel_rfl) sp57x0 (fun _ => rfl) (fun _ _ => rfl) (s57x0) big) (.nil))
/-- isobar/isobarref07.Times -/
noncomputable def c99 : Code := Try.f99.body.getD .skip
theorem at99 : Try.prog.funcs[99]? = some Try.f99 := by kernel_rfl
theorem bd99 : Try.f99.body = some c99 := by kernel_rfl
theorem cl99 : Callable Try.prog 99 := callable_of at99 (by kernel_rfl) (by kernel_rfl)
abbrev T119 : Ty := (.cons T42 T2)
abbrev a99 : Ty := T119
abbrev r99 : Ty := T44
noncomputable def G99 : Ctx := Ctx.of []
theorem g99 : Sound Try.prog (G99) := sound_of (fun _ h => by cases h)
noncomputable def b99x0 : Code := loopBody ((loopsOf (c99))[0]?)
theorem lo99x0 : loopsOf (b99x0) = [] := by kernel_rfl
abbrev cs99x0 : List Pat := [.slot 1 (.pc tI), .slot 2 (.pc tI), .slot 3 (.pc tI), .slot 4 (.ptr 4), .box 4 [.pc (.sl T9), .pc tI, .pc tI, .pc tI, .pc tI, .pc tI, .pc tI, .pc tI, .pc tI, .pc tI, .pc tI, .pc tI, .pc tI]]
abbrev vs99x0 : List Pat := [.slot 9 (.own 1000009 3 T0), .slot 10 (.pc tI)]
abbrev ps99x0 : List Pat := [.slot 1 (.pc tI), .slot 2 (.pc tI), .slot 3 (.pc tI), .slot 4 (.ptr 4), .box 4 [.pc (.sl T9), .pc tI, .pc tI, .pc tI, .pc tI, .pc tI, .pc tI, .pc tI, .pc tI, .pc tI, .pc tI, .pc tI, .pc tI], .slot 9 (.own 1000009 3 T0), .slot 10 (.pc tI)]
def j99x0 : (patsTy cs99x0).den → (patsTy vs99x0).den → (patsTy ps99x0).den := fun c v => (c.1, (c.2.1, (c.2.2.1, (c.2.2.2.1, (c.2.2.2.2.1, v)))))
def sp99x0 : (patsTy ps99x0).den → (patsTy cs99x0).den × (patsTy vs99x0).den := fun x => ((x.1, (x.2.1, (x.2.2.1, (x.2.2.2.1, (x.2.2.2.2.1, ()))))), x.2.2.2.2.2)
abbrev wy99x0 : Ways := ⟨[(0, [.slot 9 (.pc (.sl T0))])], [], []⟩
abbrev wv99x0 : Ways := ⟨[(0, [.slot 9 (.pc (.sl T0))])], [], []⟩
def je99x0 : (id : Nat) → (patsTy cs99x0).den → (patsTy (wayP wv99x0 id)).den → (patsTy (wayP wy99x0 id)).den := fun id => match id with | 0 => fun c y => y | id => fun _ _ => (patsTy (wayP wy99x0 id)).dflt
def jr99x0 : (patsTy cs99x0).den → (patsTy (wv99x0).ret).den → (patsTy (wy99x0).ret).den := fun c y => y
def Z99x0 {α : Type} (l : RQ vs99x0 wv99x0 → α) (an : α → α → α) (c : (patsTy cs99x0).den) (v : (patsTy vs99x0).den) : α := bif (decide (v.2.1 < ((c.2.2.2.2.1.1.n : Nat) : Int))) then bif (decide (v.2.1 < c.2.2.1)) then bif (decide (((0 : Int) ≤ v.2.1) ∧ (v.2.1 < ((c.2.2.2.2.1.1.n : Nat) : Int)))) then bif (decide (c.1 = (0 : Int))) then l .bad else bif (decide (((0 : Int) ≤ v.2.1) ∧ (v.2.1 < ((c.2.2.2.2.1.1.n : Nat) : Int)))) then bif (decide (c.2.1 = (0 : Int))) then l .bad else bif (decide (((v.1.n + 1) * 8) ≤ 140737488355328)) then l (.next ((catSl v.1 (⟨1, fun i => List.getD [((W ((W (Int.tdiv (W ((W ((c.2.2.2.2.1.1.g (Int.toNat v.2.1)).1 + c.1)) - (1 : Int))) c.1)) + (W (Int.tdiv (W ((W ((c.2.2.2.2.1.1.g (Int.toNat v.2.1)).1 + c.2.1)) - (1 : Int))) c.2.1)))), ())] i ((W ((W (Int.tdiv (W ((W ((c.2.2.2.2.1.1.g (Int.toNat v.2.1)).1 + c.1)) - (1 : Int))) c.1)) + (W (Int.tdiv (W ((W ((c.2.2.2.2.1.1.g (Int.toNat v.2.1)).1 + c.2.1)) - (1 : Int))) c.2.1)))), ())⟩ : Sl (Ty.den T0))), ((W (v.2.1 + (1 : Int))), ()))) else l .bad else l .bad else l .bad else bif (decide (((v.1.n + 1) * 8) ≤ 140737488355328)) then l (.next ((catSl v.1 (⟨1, fun i => List.getD [((0 : Int), ())] i ((0 : Int), ())⟩ : Sl (Ty.den T0))), ((W (v.2.1 + (1 : Int))), ()))) else l .bad else l (.out (.exit 0 (v.1, ())))
theorem z99x0 (c : (patsTy cs99x0).den) (v : (patsTy vs99x0).den) : roundQ Try.prog E0 G99 0 50 [] ps99x0 wy99x0 b99x0 [] (j99x0 c v) = Z99x0 (fun r => .leaf (r.lift j99x0 je99x0 jr99x0 c)) .any c v := by kernel_rfl
def S99x0 (c : (patsTy cs99x0).den) (v : (patsTy vs99x0).den) : RQ vs99x0 wv99x0 := Z99x0 (fun r => r) (fun _ _ => .bad) c v
theorem s99x0 (c : (patsTy cs99x0).den) (v : (patsTy vs99x0).den) : detQ (roundQ Try.prog E0 G99 0 50 [] ps99x0 wy99x0 b99x0 [] (j99x0 c v)) = (S99x0 c v).lift j99x0 je99x0 jr99x0 c := by rw [z99x0]; unfold S99x0 Z99x0; simp only [detQ_cond, lift_cond, lift_bad, detQ]
def L99x0 (c : (patsTy cs99x0).den) (v : (patsTy vs99x0).den) : LQ wv99x0 := iterQ (S99x0 c) big v
theorem lo99 : loopsOf (c99) = [.loop b99x0] := by kernel_rfl
noncomputable def l99 : List Loop := [.known (loopF 0 [] ps99x0 fun x => spreadV wy99x0 je99x0 jr99x0 false (sp99x0 x).1 (L99x0 (sp99x0 x).1 (sp99x0 x).2) wy99x0.exits)]
def Q99 {α : Type} (l : Option (r99).den → α) (an : α → α → α) (x : (a99).den) : α := bif (LQ.isExit (L99x0 (x.2.1, (x.2.2.1, (x.2.2.2.1, ((), (x.1, ()))))) ((⟨0, fun i => ((0 : Int), ())⟩ : Sl _), ((0 : Int), ()))) 0) then l (some (LQ.getExit (L99x0 (x.2.1, (x.2.2.1, (x.2.2.2.1, ((), (x.1, ()))))) ((⟨0, fun i => ((0 : Int), ())⟩ : Sl _), ((0 : Int), ()))) 0)) else l none
theorem q99 (x : (a99).den) : runFn Try.prog E0 G99 Try.f99 l99 a99 r99 x = Q99 .leaf .any x := by kernel_rfl
def M99 (x : (a99).den) : Option (r99).den := Q99 (fun r => r) (fun _ _ => none) x
theorem m99 (x : (a99).den) : (runFn Try.prog E0 G99 Try.f99 l99 a99 r99 x).sure = M99 x := by rw [q99]; unfold M99 Q99; simp only [sure_cond, Tree.sure]
def p99 (x : (a99).den) : Bool := (M99 x).isSome
def v99 (x : (a99).den) : (r99).den := (M99 x).getD (r99).dflt
def k99 : Con := ⟨a99, r99, p99, v99⟩
theorem h99 : Holds Try.prog 99 k99 := holds_of_M' (E := E0) follows_ok g99 eqTy_sound keyTy_sound at99 bd99 (by kernel_rfl) m99 fun G' hlo hF hE => LsOK_kn (by rw [lo99]; exact .cons (loopV_ok hE hF hlo (LsOK_kn (by rw [lo99x0]; exact .nil)) (by kernel_rfl) (by kernel_rfl) sp99x0 (fun _ => rfl) (fun _ _ => rfl) (s99x0) big) (.nil))
/-- isobar/isobarref07.sum -/
noncomputable def c100 : Code := Try.f100.body.getD .skip
theorem at100 : Try.prog.funcs[100]? = some Try.f100 := by kernel_rfl
theorem bd100 : Try.f100.body = some c100 := by kernel_rfl
theorem cl100 : Callable Try.prog 100 := callable_of at100 (by kernel_rfl) (by kernel_rfl)
abbrev a100 : Ty := T52
abbrev r100 : Ty := T0
noncomputable def G100 : Ctx := Ctx.of []
theorem g100 : Sound Try.prog (G100) := sound_of (fun _ h => by cases h)
noncomputable def b100x0 : Code := loopBody ((loopsOf (c100))[0]?)
theorem lo100x0 : loopsOf (b100x0) = [] := by kernel_rfl
abbrev cs100x0 : List Pat := [.slot 0 (.pc (.sl T0)), .slot 1 (.pc (.sl T0))]
abbrev vs100x0 : List Pat := [.slot 5 (.pc tI), .slot 6 (.pc tI)]
abbrev ps100x0 : List Pat := [.slot 0 (.pc (.sl T0)), .slot 1 (.pc (.sl T0)), .slot 5 (.pc tI), .slot 6 (.pc tI)]
def j100x0 : (patsTy cs100x0).den → (patsTy vs100x0).den → (patsTy ps100x0).den := fun c v => (c.1, (c.2.1, v))
def sp100x0 : (patsTy ps100x0).den → (patsTy cs100x0).den × (patsTy vs100x0).den := fun x => ((x.1, (x.2.1, ())), x.2.2)
abbrev wy100x0 : Ways := ⟨[(0, [.slot 5 (.pc tI)])], [], []⟩
abbrev wv100x0 : Ways := ⟨[(0, [.slot 5 (.pc tI)])], [], []⟩
def je100x0 : (id : Nat) → (patsTy cs100x0).den → (patsTy (wayP wv100x0 id)).den → (patsTy (wayP wy100x0 id)).den := fun id => match id with | 0 => fun c y => y | id => fun _ _ => (patsTy (wayP wy100x0 id)).dflt
def jr100x0 : (patsTy cs100x0).den → (patsTy (wv100x0).ret).den → (patsTy (wy100x0).ret).den := fun c y => y
def Z100x0 {α : Type} (l : RQ vs100x0 wv100x0 → α) (an : α → α → α) (c : (patsTy cs100x0).den) (v : (patsTy vs100x0).den) : α := bif (decide (v.2.1 < ((c.1.n : Nat) : Int))) then bif (decide (((0 : Int) ≤ v.2.1) ∧ (v.2.1 < ((c.1.n : Nat) : Int)))) then bif (decide (((0 : Int) ≤ v.2.1) ∧ (v.2.1 < ((c.2.1.n : Nat) : Int)))) then l (.next ((W (v.1 + (W ((c.1.g (Int.toNat v.2.1)).1 * (c.2.1.g (Int.toNat v.2.1)).1)))), ((W (v.2.1 + (1 : Int))), ()))) else l .bad else l .bad else l (.out (.exit 0 (v.1, ())))
theorem z100x0 (c : (patsTy cs100x0).den) (v : (patsTy vs100x0).den) : roundQ Try.prog E0 G100 0 25 [] ps100x0 wy100x0 b100x0 [] (j100x0 c v) = Z100x0 (fun r => .leaf (r.lift j100x0 je100x0 jr100x0 c)) .any c v := by kernel_rfl
def S100x0 (c : (patsTy cs100x0).den) (v : (patsTy vs100x0).den) : RQ vs100x0 wv100x0 := Z100x0 (fun r => r) (fun _ _ => .bad) c v
theorem s100x0 (c : (patsTy cs100x0).den) (v : (patsTy vs100x0).den) : detQ (roundQ Try.prog E0 G100 0 25 [] ps100x0 wy100x0 b100x0 [] (j100x0 c v)) = (S100x0 c v).lift j100x0 je100x0 jr100x0 c := by rw [z100x0]; unfold S100x0 Z100x0; simp only [detQ_cond, lift_cond, lift_bad, detQ]
def L100x0 (c : (patsTy cs100x0).den) (v : (patsTy vs100x0).den) : LQ wv100x0 := iterQ (S100x0 c) big v
theorem lo100 : loopsOf (c100) = [.loop b100x0] := by kernel_rfl
noncomputable def l100 : List Loop := [.known (loopF 0 [] ps100x0 fun x => spreadV wy100x0 je100x0 jr100x0 false (sp100x0 x).1 (L100x0 (sp100x0 x).1 (sp100x0 x).2) wy100x0.exits)]
def Q100 {α : Type} (l : Option (r100).den → α) (an : α → α → α) (x : (a100).den) : α := bif (LQ.isExit (L100x0 x ((0 : Int), ((0 : Int), ()))) 0) then l (some (LQ.getExit (L100x0 x ((0 : Int), ((0 : Int), ()))) 0)) else l none
theorem q100 (x : (a100).den) : runFn Try.prog E0 G100 Try.f100 l100 a100 r100 x = Q100 .leaf .any x := by kernel_rfl
def M100 (x : (a100).den) : Option (r100).den := Q100 (fun r => r) (fun _ _ => none) x
theorem m100 (x : (a100).den) : (runFn Try.prog E0 G100 Try.f100 l100 a100 r100 x).sure = M100 x := by rw [q100]; unfold M100 Q100; simp only [sure_cond, Tree.sure]
def p100 (x : (a100).den) : Bool := (M100 x).isSome
def v100 (x : (a100).den) : (r100).den := (M100 x).getD (r100).dflt
def k100 : Con := ⟨a100, r100, p100, v100⟩
theorem h100 : Holds Try.prog 100 k100 := holds_of_M' (E := E0) follows_ok g100 eqTy_sound keyTy_sound at100 bd100 (by kernel_rfl) m100 fun G' hlo hF hE => LsOK_kn (by rw [lo100]; exact .cons (loopV_ok hE hF hlo (LsOK_kn (by rw [lo100x0]; exact .nil)) (by kernel_rfl) (by kernel_rfl) sp100x0 (fun _ => rfl) (fun _ _ => rfl) (s100x0) big) (.nil))
/-- isobar/isobarref07.total -/
noncomputable def c101 : Code := Try.f101.body.getD .skip
theorem at101 : Try.prog.funcs[101]? = some Try.f101 := by kernel_rfl
theorem bd101 : Try.f101.body = some c101 := by kernel_rfl
theorem cl101 : Callable Try.prog 101 := callable_of at101 (by kernel_rfl) (by kernel_rfl)
abbrev a101 : Ty := T44
abbrev r101 : Ty := T0
noncomputable def G101 : Ctx := Ctx.of []
theorem g101 : Sound Try.prog (G101) := sound_of (fun _ h => by cases h)
noncomputable def b101x0 : Code := loopBody ((loopsOf (c101))[0]?)
theorem lo101x0 : loopsOf (b101x0) = [] := by kernel_rfl
abbrev cs101x0 : List Pat := [.slot 0 (.pc (.sl T0))]
abbrev vs101x0 : List Pat := [.slot 3 (.pc tI), .slot 4 (.pc tI)]
abbrev ps101x0 : List Pat := [.slot 0 (.pc (.sl T0)), .slot 3 (.pc tI), .slot 4 (.pc tI)]
def j101x0 : (patsTy cs101x0).den → (patsTy vs101x0).den → (patsTy ps101x0).den := fun c v => (c.1, v)
def sp101x0 : (patsTy ps101x0).den → (patsTy cs101x0).den × (patsTy vs101x0).den := fun x => ((x.1, ()), x.2)
abbrev wy101x0 : Ways := ⟨[(0, [.slot 3 (.pc tI)])], [], []⟩
abbrev wv101x0 : Ways := ⟨[(0, [.slot 3 (.pc tI)])], [], []⟩
def je101x0 : (id : Nat) → (patsTy cs101x0).den → (patsTy (wayP wv101x0 id)).den → (patsTy (wayP wy101x0 id)).den := fun id => match id with | 0 => fun c y => y | id => fun _ _ => (patsTy (wayP wy101x0 id)).dflt
def jr101x0 : (patsTy cs101x0).den → (patsTy (wv101x0).ret).den → (patsTy (wy101x0).ret).den := fun c y => y
def Z101x0 {α : Type} (l : RQ vs101x0 wv101x0 → α) (an : α → α → α) (c : (patsTy cs101x0).den) (v : (patsTy vs101x0).den) : α := bif (decide (v.2.1 < ((c.1.n : Nat) : Int))) then bif (decide (((0 : Int) ≤ v.2.1) ∧ (v.2.1 < ((c.1.n : Nat) : Int)))) then l (.next ((W (v.1 + (c.1.g (Int.toNat v.2.1)).1)), ((W (v.2.1 + (1 : Int))), ()))) else l .bad else l (.out (.exit 0 (v.1, ())))
theorem z101x0 (c : (patsTy cs101x0).den) (v : (patsTy vs101x0).den) : roundQ Try.prog E0 G101 0 18 [] ps101x0 wy101x0 b101x0 [] (j101x0 c v) = Z101x0 (fun r => .leaf (r.lift j101x0 je101x0 jr101x0 c)) .any c v := by kernel_rfl
def S101x0 (c : (patsTy cs101x0).den) (v : (patsTy vs101x0).den) : RQ vs101x0 wv101x0 := Z101x0 (fun r => r) (fun _ _ => .bad) c v
theorem s101x0 (c : (patsTy cs101x0).den) (v : (patsTy vs101x0).den) : detQ (roundQ Try.prog E0 G101 0 18 [] ps101x0 wy101x0 b101x0 [] (j101x0 c v)) = (S101x0 c v).lift j101x0 je101x0 jr101x0 c := by rw [z101x0]; unfold S101x0 Z101x0; simp only [detQ_cond, lift_cond, lift_bad, detQ]
def L101x0 (c : (patsTy cs101x0).den) (v : (patsTy vs101x0).den) : LQ wv101x0 := iterQ (S101x0 c) big v
theorem lo101 : loopsOf (c101) = [.loop b101x0] := by kernel_rfl
noncomputable def l101 : List Loop := [.known (loopF 0 [] ps101x0 fun x => spreadV wy101x0 je101x0 jr101x0 false (sp101x0 x).1 (L101x0 (sp101x0 x).1 (sp101x0 x).2) wy101x0.exits)]
def Q101 {α : Type} (l : Option (r101).den → α) (an : α → α → α) (x : (a101).den) : α := bif (LQ.isExit (L101x0 x ((0 : Int), ((0 : Int), ()))) 0) then l (some (LQ.getExit (L101x0 x ((0 : Int), ((0 : Int), ()))) 0)) else l none
theorem q101 (x : (a101).den) : runFn Try.prog E0 G101 Try.f101 l101 a101 r101 x = Q101 .leaf .any x := by kernel_rfl
def M101 (x : (a101).den) : Option (r101).den := Q101 (fun r => r) (fun _ _ => none) x
theorem m101 (x : (a101).den) : (runFn Try.prog E0 G101 Try.f101 l101 a101 r101 x).sure = M101 x := by rw [q101]; unfold M101 Q101; simp only [sure_cond, Tree.sure]
def p101 (x : (a101).den) : Bool := (M101 x).isSome
def v101 (x : (a101).den) : (r101).den := (M101 x).getD (r101).dflt
def k101 : Con := ⟨a101, r101, p101, v101⟩
theorem h101 : Holds Try.prog 101 k101 := holds_of_M' (E := E0) follows_ok g101 eqTy_sound keyTy_sound at101 bd101 (by kernel_rfl) m101 fun G' hlo hF hE => LsOK_kn (by rw [lo101]; exact .cons (loopV_ok hE hF hlo (LsOK_kn (by rw [lo101x0]; exact .nil)) (by kernel_rfl) (by kernel_rfl) sp101x0 (fun _ => rfl) (fun _ _ => rfl) (s101x0) big) (.nil))
/-- isobar/isobarref07.Play -/
noncomputable def c63 : Code := Try.f63.body.getD .skip
theorem at63 : Try.prog.funcs[63]? = some Try.f63 := by kernel_rfl
theorem bd63 : Try.f63.body = some c63 := by kernel_rfl
theorem cl63 : Callable Try.prog 63 := callable_of at63 (by kernel_rfl) (by kernel_rfl)
abbrev a63 : Ty := T73
abbrev r63 : Ty := T2
noncomputable def G63 : Ctx := Ctx.of [(99, .pure k99), (100, .pure k100), (101, .pure k101)]
theorem g63 : Sound Try.prog (G63) := sound_of (List.forall_mem_cons.2 ⟨⟨cl99, h99⟩, List.forall_mem_cons.2 ⟨⟨cl100, h100⟩, List.forall_mem_cons.2 ⟨⟨cl101, h101⟩, fun _ h => by cases h⟩⟩⟩)
theorem lo63 : loopsOf (c63) = [] := by kernel_rfl
noncomputable def l63 : List Loop := []
def Q63 {α : Type} (l : Option (r63).den → α) (an : α → α → α) (x : (a63).den) : α := bif (p99 (x.1, (x.2.1.1, (x.2.1.2.1, (x.2.1.2.2.1, ()))))) then bif (p100 ((v99 (x.1, (x.2.1.1, (x.2.1.2.1, (x.2.1.2.2.1, ()))))).1, (x.2.1.2.2.2.1, ()))) then bif (p100 ((v99 (x.1, (x.2.1.1, (x.2.1.2.1, (x.2.1.2.2.1, ()))))).1, x.2.1.2.2.2.2)) then bif (p101 (v99 (x.1, (x.2.1.1, (x.2.1.2.1, (x.2.1.2.2.1, ())))))) then l (some ((v100 ((v99 (x.1, (x.2.1.1, (x.2.1.2.1, (x.2.1.2.2.1, ()))))).1, (x.2.1.2.2.2.1, ()))).1, ((v100 ((v99 (x.1, (x.2.1.1, (x.2.1.2.1, (x.2.1.2.2.1, ()))))).1, x.2.1.2.2.2.2)).1, (v101 (v99 (x.1, (x.2.1.1, (x.2.1.2.1, (x.2.1.2.2.1, ()))))))))) else l none else l none else l none else l none
theorem q63 (x : (a63).den) : runFn Try.prog E0 G63 Try.f63 l63 a63 r63 x = Q63 .leaf .any x := by kernel_rfl
def M63 (x : (a63).den) : Option (r63).den := Q63 (fun r => r) (fun _ _ => none) x
theorem m63 (x : (a63).den) : (runFn Try.prog E0 G63 Try.f63 l63 a63 r63 x).sure = M63 x := by rw [q63]; unfold M63 Q63; simp only [sure_cond, Tree.sure]
def p63 (x : (a63).den) : Bool := (M63 x).isSome
def v63 (x : (a63).den) : (r63).den := (M63 x).getD (r63).dflt
def k63 : Con := ⟨a63, r63, p63, v63⟩
theorem h63 : Holds Try.prog 63 k63 := holds_of_M' (E := E0) follows_ok g63 eqTy_sound keyTy_sound at63 bd63 (by kernel_rfl) m63 fun G' hlo hF hE => LsOK_kn (by rw [lo63]; exact .nil)
/-- isobar/isobarref07.Fits -/
noncomputable def c64 : Code := Try.f64.body.getD .skip
theorem at64 : Try.prog.funcs[64]? = some Try.f64 := by kernel_rfl
theorem bd64 : Try.f64.body = some c64 := by kernel_rfl
theorem cl64 : Callable Try.prog 64 := callable_of at64 (by kernel_rfl) (by kernel_rfl)
abbrev a64 : Ty := T73
abbrev r64 : Ty := T3
noncomputable def G64 : Ctx := Ctx.of [(63, .pure k63), (75, .pure k75)]
theorem g64 : Sound Try.prog (G64) := sound_of (List.forall_mem_cons.2 ⟨⟨cl63, h63⟩, List.forall_mem_cons.2 ⟨⟨cl75, h75⟩, fun _ h => by cases h⟩⟩)
theorem lo64 : loopsOf (c64) = [] := by kernel_rfl
noncomputable def l64 : List Loop := []
def Q64 {α : Type} (l : Option (r64).den → α) (an : α → α → α) (x : (a64).den) : α := bif (p63 (x.1, (x.2.1, ()))) then bif (p75 ((v63 (x.1, (x.2.1, ()))).1, (x.1.2.2.2.2.2.2.2.1, (x.1.2.2.2.2.2.2.2.2.1, ())))) then bif (v75 ((v63 (x.1, (x.2.1, ()))).1, (x.1.2.2.2.2.2.2.2.1, (x.1.2.2.2.2.2.2.2.2.1, ())))).1 then bif (p75 ((v63 (x.1, (x.2.1, ()))).2.1, (x.1.2.2.2.2.2.2.2.2.2.1, (x.1.2.2.2.2.2.2.2.2.2.2.1, ())))) then bif (v75 ((v63 (x.1, (x.2.1, ()))).2.1, (x.1.2.2.2.2.2.2.2.2.2.1, (x.1.2.2.2.2.2.2.2.2.2.2.1, ())))).1 then bif (p75 ((v63 (x.1, (x.2.1, ()))).2.2.1, x.1.2.2.2.2.2.2.2.2.2.2.2)) then l (some (v75 ((v63 (x.1, (x.2.1, ()))).2.2.1, x.1.2.2.2.2.2.2.2.2.2.2.2))) else l none else l (some (false, ())) else l none else l (some (false, ())) else l none else l none
theorem q64 (x : (a64).den) : runFn Try.prog E0 G64 Try.f64 l64 a64 r64 x = Q64 .leaf .any x := by kernel_rfl
def M64 (x : (a64).den) : Option (r64).den := Q64 (fun r => r) (fun _ _ => none) x
theorem m64 (x : (a64).den) : (runFn Try.prog E0 G64 Try.f64 l64 a64 r64 x).sure = M64 x := by rw [q64]; unfold M64 Q64; simp only [sure_cond, Tree.sure]
def p64 (x : (a64).den) : Bool := (M64 x).isSome
def v64 (x : (a64).den) : (r64).den := (M64 x).getD (r64).dflt
def k64 : Con := ⟨a64, r64, p64, v64⟩
theorem h64 : Holds Try.prog 64 k64 := holds_of_M' (E := E0) follows_ok g64 eqTy_sound keyTy_sound at64 bd64 (by kernel_rfl) m64 fun G' hlo hF hE => LsOK_kn (by rw [lo64]; exact .nil)
/-- isobar/isobarref07.Spans -/
noncomputable def c86 : Code := Try.f86.body.getD .skip
theorem at86 : Try.prog.funcs[86]? = some Try.f86 := by kernel_rfl
theorem bd86 : Try.f86.body = some c86 := by kernel_rfl
theorem cl86 : Callable Try.prog 86 := callable_of at86 (by kernel_rfl) (by kernel_rfl)
abbrev T120 : Ty := (.cons T42 T3)
abbrev a86 : Ty := T120
abbrev r86 : Ty := T51
noncomputable def G86 : Ctx := Ctx.of []
theorem g86 : Sound Try.prog (G86) := sound_of (fun _ h => by cases h)
noncomputable def b86x0 : Code := loopBody ((loopsOf (c86))[0]?)
theorem lo86x0 : loopsOf (b86x0) = [] := by kernel_rfl
abbrev cs86x0 : List Pat := [.slot 1 (.pc .bool), .slot 2 (.ptr 2), .box 2 [.pc (.sl T9), .pc tI, .pc tI, .pc tI, .pc tI, .pc tI, .pc tI, .pc tI, .pc tI, .pc tI, .pc tI, .pc tI, .pc tI]]
abbrev vs86x0 : List Pat := [.slot 5 (.own 1000005 23 T1), .slot 6 (.pc tI)]
abbrev ps86x0 : List Pat := [.slot 1 (.pc .bool), .slot 2 (.ptr 2), .box 2 [.pc (.sl T9), .pc tI, .pc tI, .pc tI, .pc tI, .pc tI, .pc tI, .pc tI, .pc tI, .pc tI, .pc tI, .pc tI, .pc tI], .slot 5 (.own 1000005 23 T1), .slot 6 (.pc tI)]
def j86x0 : (patsTy cs86x0).den → (patsTy vs86x0).den → (patsTy ps86x0).den := fun c v => (c.1, (c.2.1, (c.2.2.1, v)))
def sp86x0 : (patsTy ps86x0).den → (patsTy cs86x0).den × (patsTy vs86x0).den := fun x => ((x.1, (x.2.1, (x.2.2.1, ()))), x.2.2.2)
abbrev wy86x0 : Ways := ⟨[(0, [.slot 5 (.pc (.sl T1))])], [], []⟩
abbrev wv86x0 : Ways := ⟨[(0, [.slot 5 (.pc (.sl T1))])], [], []⟩
def je86x0 : (id : Nat) → (patsTy cs86x0).den → (patsTy (wayP wv86x0 id)).den → (patsTy (wayP wy86x0 id)).den := fun id => match id with | 0 => fun c y => y | id => fun _ _ => (patsTy (wayP wy86x0 id)).dflt
def jr86x0 : (patsTy cs86x0).den → (patsTy (wv86x0).ret).den → (patsTy (wy86x0).ret).den := fun c y => y
def Z86x0 {α : Type} (l : RQ vs86x0 wv86x0 → α) (an : α → α → α) (c : (patsTy cs86x0).den) (v : (patsTy vs86x0).den) : α := bif (decide (v.2.1 < ((c.2.2.1.1.n : Nat) : Int))) then bif (decide (((0 : Int) ≤ v.2.1) ∧ (v.2.1 < ((c.2.2.1.1.n : Nat) : Int)))) then bif c.1 then bif (decide (((0 : Int) ≤ v.2.1) ∧ (v.2.1 < ((c.2.2.1.1.n : Nat) : Int)))) then bif (decide (((v.1.n + 1) * 16) ≤ 140737488355328)) then l (.next ((catSl v.1 (⟨1, fun i => List.getD [(c.2.2.1.1.g (Int.toNat v.2.1)).2.2.2] i (c.2.2.1.1.g (Int.toNat v.2.1)).2.2.2⟩ : Sl (Ty.den T1))), ((W (v.2.1 + (1 : Int))), ()))) else l .bad else l .bad else bif (decide (((v.1.n + 1) * 16) ≤ 140737488355328)) then l (.next ((catSl v.1 (⟨1, fun i => List.getD [((c.2.2.1.1.g (Int.toNat v.2.1)).2.1, ((c.2.2.1.1.g (Int.toNat v.2.1)).2.2.1, ()))] i ((c.2.2.1.1.g (Int.toNat v.2.1)).2.1, ((c.2.2.1.1.g (Int.toNat v.2.1)).2.2.1, ()))⟩ : Sl (Ty.den T1))), ((W (v.2.1 + (1 : Int))), ()))) else l .bad else l .bad else l (.out (.exit 0 (v.1, ())))
theorem z86x0 (c : (patsTy cs86x0).den) (v : (patsTy vs86x0).den) : roundQ Try.prog E0 G86 0 33 [] ps86x0 wy86x0 b86x0 [] (j86x0 c v) = Z86x0 (fun r => .leaf (r.lift j86x0 je86x0 jr86x0 c)) .any c v := by kernel_rfl
def S86x0 (c : (patsTy cs86x0).den) (v : (patsTy vs86x0).den) : RQ vs86x0 wv86x0 := Z86x0 (fun r => r) (fun _ _ => .bad) c v
theorem s86x0 (c : (patsTy cs86x0).den) (v : (patsTy vs86x0).den) : detQ (roundQ Try.prog E0 G86 0 33 [] ps86x0 wy86x0 b86x0 [] (j86x0 c v)) = (S86x0 c v).lift j86x0 je86x0 jr86x0 c := by rw [z86x0]; unfold S86x0 Z86x0; simp only [detQ_cond, lift_cond, lift_bad, detQ]
def L86x0 (c : (patsTy cs86x0).den) (v : (patsTy vs86x0).den) : LQ wv86x0 := iterQ (S86x0 c) big v
theorem lo86 : loopsOf (c86) = [.loop b86x0] := by kernel_rfl
noncomputable def l86 : List Loop := [.known (loopF 0 [] ps86x0 fun x => spreadV wy86x0 je86x0 jr86x0 false (sp86x0 x).1 (L86x0 (sp86x0 x).1 (sp86x0 x).2) wy86x0.exits)]
def Q86 {α : Type} (l : Option (r86).den → α) (an : α → α → α) (x : (a86).den) : α := bif (LQ.isExit (L86x0 (x.2.1, ((), (x.1, ()))) ((⟨0, fun i => ((0 : Int), ((0 : Int), ()))⟩ : Sl _), ((0 : Int), ()))) 0) then l (some (LQ.getExit (L86x0 (x.2.1, ((), (x.1, ()))) ((⟨0, fun i => ((0 : Int), ((0 : Int), ()))⟩ : Sl _), ((0 : Int), ()))) 0)) else l none
theorem q86 (x : (a86).den) : runFn Try.prog E0 G86 Try.f86 l86 a86 r86 x = Q86 .leaf .any x := by kernel_rfl
def M86 (x : (a86).den) : Option (r86).den := Q86 (fun r => r) (fun _ _ => none) x
theorem m86 (x : (a86).den) : (runFn Try.prog E0 G86 Try.f86 l86 a86 r86 x).sure = M86 x := by rw [q86]; unfold M86 Q86; simp only [sure_cond, Tree.sure]
def p86 (x : (a86).den) : Bool := (M86 x).isSome
def v86 (x : (a86).den) : (r86).den := (M86 x).getD (r86).dflt
def k86 : Con := ⟨a86, r86, p86, v86⟩
theorem h86 : Holds Try.prog 86 k86 := holds_of_M' (E := E0) follows_ok g86 eqTy_sound keyTy_sound at86 bd86 (by kernel_rfl) m86 fun G' hlo hF hE => LsOK_kn (by rw [lo86]; exact .cons (loopV_ok hE hF hlo (LsOK_kn (by rw [lo86x0]; exact .nil)) (by kernel_rfl) (by kernel_rfl) sp86x0 (fun _ => rfl) (fun _ _ => rfl) (s86x0) big) (.nil))
/-- isobar/isobarref07.list -/
noncomputable def c111 : Code := Try.f111.body.getD .skip
theorem at111 : Try.prog.funcs[111]? = some Try.f111 := by kernel_rfl
theorem bd111 : Try.f111.body = some c111 := by kernel_rfl
theorem cl111 : Callable Try.prog 111 := callable_of at111 (by kernel_rfl) (by kernel_rfl)
abbrev T121 : Ty := (.cons T4 T44)
abbrev T122 : Ty := (.cons (.sl T0) T121)
abbrev T123 : Ty := (.cons (.sl T1) T122)
abbrev a111 : Ty := T123
abbrev r111 : Ty := T79
noncomputable def G111 : ((a111).den → Option (r111).den) → Ctx := fun R111 => Ctx.of [(100, .pure k100), (111, .pure (conM R111))]
theorem g111 (R111 : (a111).den → Option (r111).den) (hR : Holds Try.prog 111 (conM R111)) : Sound Try.prog (G111 R111) := sound_of (List.forall_mem_cons.2 ⟨⟨cl100, h100⟩, List.forall_mem_cons.2 ⟨⟨cl111, hR⟩, fun _ h => by cases h⟩⟩)
noncomputable def b111x0 : Code := loopBody ((loopsOf (c111))[0]?)
theorem lo111x0 : loopsOf (b111x0) = [] := by kernel_rfl
abbrev cs111x0 : List Pat := [.slot 0 (.pc (.sl T1)), .slot 1 (.pc (.sl T0)), .slot 3 (.pc (.sl T0)), .slot 6 (.ptr 6), .box 6 [.pc tI, .pc tI]]
abbrev vs111x0 : List Pat := [.slot 10 (.pc tI), .slot 11 (.pc tI), .slot 12 (.pc tI)]
abbrev ps111x0 : List Pat := [.slot 0 (.pc (.sl T1)), .slot 1 (.pc (.sl T0)), .slot 3 (.pc (.sl T0)), .slot 6 (.ptr 6), .box 6 [.pc tI, .pc tI], .slot 10 (.pc tI), .slot 11 (.pc tI), .slot 12 (.pc tI)]
def j111x0 : (patsTy cs111x0).den → (patsTy vs111x0).den → (patsTy ps111x0).den := fun c v => (c.1, (c.2.1, (c.2.2.1, (c.2.2.2.1, (c.2.2.2.2.1, v)))))
def sp111x0 : (patsTy ps111x0).den → (patsTy cs111x0).den × (patsTy vs111x0).den := fun x => ((x.1, (x.2.1, (x.2.2.1, (x.2.2.2.1, (x.2.2.2.2.1, ()))))), x.2.2.2.2.2)
abbrev wy111x0 : Ways := ⟨[(0, [.slot 0 (.pc (.sl T1)), .slot 1 (.pc (.sl T0)), .slot 3 (.pc (.sl T0)), .slot 6 (.ptr 6), .box 6 [.pc tI, .pc tI], .slot 10 (.pc tI), .slot 11 (.pc tI)])], [], []⟩
abbrev wv111x0 : Ways := ⟨[(0, [.slot 10 (.pc tI), .slot 11 (.pc tI)])], [], []⟩
def je111x0 : (id : Nat) → (patsTy cs111x0).den → (patsTy (wayP wv111x0 id)).den → (patsTy (wayP wy111x0 id)).den := fun id => match id with | 0 => fun c y => (c.1, (c.2.1, (c.2.2.1, (c.2.2.2.1, (c.2.2.2.2.1, y))))) | id => fun _ _ => (patsTy (wayP wy111x0 id)).dflt
def jr111x0 : (patsTy cs111x0).den → (patsTy (wv111x0).ret).den → (patsTy (wy111x0).ret).den := fun c y => y
def Z111x0 (R111 : (a111).den → Option (r111).den) {α : Type} (l : RQ vs111x0 wv111x0 → α) (an : α → α → α) (c : (patsTy cs111x0).den) (v : (patsTy vs111x0).den) : α := bif (decide (v.2.2.1 < ((c.1.n : Nat) : Int))) then bif (decide (((0 : Int) ≤ v.2.2.1) ∧ (v.2.2.1 < ((c.1.n : Nat) : Int)))) then bif (decide (((0 : Int) ≤ v.2.2.1) ∧ (v.2.2.1 < ((c.2.1.n : Nat) : Int)))) then bif (decide (((0 : Int) ≤ v.2.2.1) ∧ (v.2.2.1 < ((c.1.n : Nat) : Int)))) then bif (decide (((0 : Int) ≤ v.2.2.1) ∧ (v.2.2.1 < ((c.2.1.n : Nat) : Int)))) then l (.next ((W (v.1 + (W ((c.1.g (Int.toNat v.2.2.1)).1 * (c.2.1.g (Int.toNat v.2.2.1)).1)))), ((W (v.2.1 + (W ((c.1.g (Int.toNat v.2.2.1)).2.1 * (c.2.1.g (Int.toNat v.2.2.1)).1)))), ((W (v.2.2.1 + (1 : Int))), ())))) else l .bad else l .bad else l .bad else l .bad else l (.out (.exit 0 (v.1, (v.2.1, ()))))
theorem z111x0 (R111 : (a111).den → Option (r111).den) (c : (patsTy cs111x0).den) (v : (patsTy vs111x0).den) : roundQ Try.prog E0 (G111 R111) 0 100 [] ps111x0 wy111x0 b111x0 [] (j111x0 c v) = Z111x0 R111 (fun r => .leaf (r.lift j111x0 je111x0 jr111x0 c)) .any c v := by kernel_rfl
def S111x0 (R111 : (a111).den → Option (r111).den) (c : (patsTy cs111x0).den) (v : (patsTy vs111x0).den) : RQ vs111x0 wv111x0 := Z111x0 R111 (fun r => r) (fun _ _ => .bad) c v
theorem s111x0 (R111 : (a111).den → Option (r111).den) (c : (patsTy cs111x0).den) (v : (patsTy vs111x0).den) : detQ (roundQ Try.prog E0 (G111 R111) 0 100 [] ps111x0 wy111x0 b111x0 [] (j111x0 c v)) = (S111x0 R111 c v).lift j111x0 je111x0 jr111x0 c := by rw [z111x0]; unfold S111x0 Z111x0; simp only [detQ_cond, lift_cond, lift_bad, detQ]
def L111x0 (R111 : (a111).den → Option (r111).den) (c : (patsTy cs111x0).den) (v : (patsTy vs111x0).den) : LQ wv111x0 := iterQ (S111x0 R111 c) big v
noncomputable def b111x1 : Code := loopBody ((loopsOf (c111))[1]?)
theorem lo111x1 : loopsOf (b111x1) = [] := by kernel_rfl
abbrev cs111x1 : List Pat := [.slot 0 (.pc (.sl T1)), .slot 1 (.pc (.sl T0)), .slot 3 (.pc (.sl T0)), .slot 6 (.ptr 6), .slot 13 (.pc tI), .box 6 [.pc tI, .pc tI]]
abbrev vs111x1 : List Pat := [.slot 14 (.pc tI)]
abbrev ps111x1 : List Pat := [.slot 0 (.pc (.sl T1)), .slot 1 (.pc (.sl T0)), .slot 3 (.pc (.sl T0)), .slot 6 (.ptr 6), .slot 13 (.pc tI), .box 6 [.pc tI, .pc tI], .slot 14 (.pc tI)]
def j111x1 : (patsTy cs111x1).den → (patsTy vs111x1).den → (patsTy ps111x1).den := fun c v => (c.1, (c.2.1, (c.2.2.1, (c.2.2.2.1, (c.2.2.2.2.1, (c.2.2.2.2.2.1, v))))))
def sp111x1 : (patsTy ps111x1).den → (patsTy cs111x1).den × (patsTy vs111x1).den := fun x => ((x.1, (x.2.1, (x.2.2.1, (x.2.2.2.1, (x.2.2.2.2.1, (x.2.2.2.2.2.1, ())))))), x.2.2.2.2.2.2)
abbrev wy111x1 : Ways := ⟨[(2, [])], [.slot 8 (.pc (.sl T0)), .slot 9 (.pc .bool)], []⟩
abbrev wv111x1 : Ways := ⟨[(2, [])], [.slot 8 (.pc (.sl T0)), .slot 9 (.pc .bool)], []⟩
def je111x1 : (id : Nat) → (patsTy cs111x1).den → (patsTy (wayP wv111x1 id)).den → (patsTy (wayP wy111x1 id)).den := fun id => match id with | 2 => fun c y => y | id => fun _ _ => (patsTy (wayP wy111x1 id)).dflt
def jr111x1 : (patsTy cs111x1).den → (patsTy (wv111x1).ret).den → (patsTy (wy111x1).ret).den := fun c y => y
def Z111x1 (R111 : (a111).den → Option (r111).den) {α : Type} (l : RQ vs111x1 wv111x1 → α) (an : α → α → α) (c : (patsTy cs111x1).den) (v : (patsTy vs111x1).den) : α := bif (decide (((0 : Int) ≤ c.2.2.2.2.1) ∧ (c.2.2.2.2.1 < ((c.1.n : Nat) : Int)))) then bif (decide (v.1 ≤ (c.1.g (Int.toNat c.2.2.2.2.1)).2.1)) then bif (decide ((c.2.2.1.n * 8) ≤ 140737488355328)) then bif (decide (((c.2.2.1.n + 1) * 8) ≤ 140737488355328)) then bif (Option.isSome (R111 (c.1, (c.2.1, (c.2.2.2.2.2.1, ((catSl c.2.2.1 (⟨1, fun i => List.getD [v] i v⟩ : Sl (Ty.den T0))), ())))))) then bif (Option.getD (R111 (c.1, (c.2.1, (c.2.2.2.2.2.1, ((catSl c.2.2.1 (⟨1, fun i => List.getD [v] i v⟩ : Sl (Ty.den T0))), ()))))) ((⟨0, fun i => ((0 : Int), ())⟩ : Sl _), (false, ()))).2.1 then l (.out (.ret ((Option.getD (R111 (c.1, (c.2.1, (c.2.2.2.2.2.1, ((catSl c.2.2.1 (⟨1, fun i => List.getD [v] i v⟩ : Sl (Ty.den T0))), ()))))) ((⟨0, fun i => ((0 : Int), ())⟩ : Sl _), (false, ()))).1, (true, ())))) else l (.next ((W (v.1 + (1 : Int))), ())) else l .bad else l .bad else l .bad else l (.out (.exit 2 ())) else l .bad
theorem z111x1 (R111 : (a111).den → Option (r111).den) (c : (patsTy cs111x1).den) (v : (patsTy vs111x1).den) : roundQ Try.prog E0 (G111 R111) 0 100 [] ps111x1 wy111x1 b111x1 [] (j111x1 c v) = Z111x1 R111 (fun r => .leaf (r.lift j111x1 je111x1 jr111x1 c)) .any c v := by kernel_rfl
def S111x1 (R111 : (a111).den → Option (r111).den) (c : (patsTy cs111x1).den) (v : (patsTy vs111x1).den) : RQ vs111x1 wv111x1 := Z111x1 R111 (fun r => r) (fun _ _ => .bad) c v
theorem s111x1 (R111 : (a111).den → Option (r111).den) (c : (patsTy cs111x1).den) (v : (patsTy vs111x1).den) : detQ (roundQ Try.prog E0 (G111 R111) 0 100 [] ps111x1 wy111x1 b111x1 [] (j111x1 c v)) = (S111x1 R111 c v).lift j111x1 je111x1 jr111x1 c := by rw [z111x1]; unfold S111x1 Z111x1; simp only [detQ_cond, lift_cond, lift_bad, detQ]
def L111x1 (R111 : (a111).den → Option (r111).den) (c : (patsTy cs111x1).den) (v : (patsTy vs111x1).den) : LQ wv111x1 := iterQ (S111x1 R111 c) big v
theorem lo111 : loopsOf (c111) = [.loop b111x0, .loop b111x1] := by kernel_rfl
noncomputable def l111 : ((a111).den → Option (r111).den) → List Loop := fun R111 => [.known (loopF 0 [] ps111x0 fun x => spreadV wy111x0 je111x0 jr111x0 false (sp111x0 x).1 (L111x0 R111 (sp111x0 x).1 (sp111x0 x).2) wy111x0.exits), .known (loopF 0 [] ps111x1 fun x => spreadV wy111x1 je111x1 jr111x1 true (sp111x1 x).1 (L111x1 R111 (sp111x1 x).1 (sp111x1 x).2) wy111x1.exits)]
def Q111 (R111 : (a111).den → Option (r111).den) {α : Type} (l : Option (r111).den → α) (an : α → α → α) (x : (a111).den) : α := bif (p100 (x.2.2.2.1, (x.2.1, ()))) then bif (p100 (x.2.2.2.1, (x.2.1, ()))) then bif (LQ.isExit (L111x0 R111 (x.1, (x.2.1, (x.2.2.2.1, ((), (x.2.2.1, ()))))) ((v100 (x.2.2.2.1, (x.2.1, ()))).1, ((v100 (x.2.2.2.1, (x.2.1, ()))).1, (((x.2.2.2.1.n : Nat) : Int), ())))) 0) then bif (decide ((LQ.getExit (L111x0 R111 (x.1, (x.2.1, (x.2.2.2.1, ((), (x.2.2.1, ()))))) ((v100 (x.2.2.2.1, (x.2.1, ()))).1, ((v100 (x.2.2.2.1, (x.2.1, ()))).1, (((x.2.2.2.1.n : Nat) : Int), ())))) 0).2.1 < x.2.2.1.1)) then l (some ((⟨0, fun i => ((0 : Int), ())⟩ : Sl _), (false, ()))) else bif (decide (x.2.2.1.2.1 < (LQ.getExit (L111x0 R111 (x.1, (x.2.1, (x.2.2.2.1, ((), (x.2.2.1, ()))))) ((v100 (x.2.2.2.1, (x.2.1, ()))).1, ((v100 (x.2.2.2.1, (x.2.1, ()))).1, (((x.2.2.2.1.n : Nat) : Int), ())))) 0).1)) then l (some ((⟨0, fun i => ((0 : Int), ())⟩ : Sl _), (false, ()))) else bif (decide (((x.2.2.2.1.n : Nat) : Int) = ((x.1.n : Nat) : Int))) then l (some (x.2.2.2.1, (true, ()))) else bif (decide (((0 : Int) ≤ ((x.2.2.2.1.n : Nat) : Int)) ∧ (((x.2.2.2.1.n : Nat) : Int) < ((x.1.n : Nat) : Int)))) then bif (LQ.isExit (L111x1 R111 (x.1, (x.2.1, (x.2.2.2.1, ((), (((x.2.2.2.1.n : Nat) : Int), (x.2.2.1, ())))))) ((x.1.g (Int.toNat ((x.2.2.2.1.n : Nat) : Int))).1, ())) 2) then l (some ((⟨0, fun i => ((0 : Int), ())⟩ : Sl _), (false, ()))) else bif (LQ.isRet (L111x1 R111 (x.1, (x.2.1, (x.2.2.2.1, ((), (((x.2.2.2.1.n : Nat) : Int), (x.2.2.1, ())))))) ((x.1.g (Int.toNat ((x.2.2.2.1.n : Nat) : Int))).1, ()))) then l (some (LQ.getRet (L111x1 R111 (x.1, (x.2.1, (x.2.2.2.1, ((), (((x.2.2.2.1.n : Nat) : Int), (x.2.2.1, ())))))) ((x.1.g (Int.toNat ((x.2.2.2.1.n : Nat) : Int))).1, ())))) else l none else l none else l none else l none else l none
theorem q111 (R111 : (a111).den → Option (r111).den) (x : (a111).den) : runFn Try.prog E0 (G111 R111) Try.f111 (l111 R111) a111 r111 x = Q111 R111 .leaf .any x := by kernel_rfl
def U111 (R111 : (a111).den → Option (r111).den) (x : (a111).den) : Option (r111).den := Q111 R111 (fun r => r) (fun _ _ => none) x
theorem m111 (R111 : (a111).den → Option (r111).den) (x : (a111).den) : (runFn Try.prog E0 (G111 R111) Try.f111 (l111 R111) a111 r111 x).sure = U111 R111 x := by rw [q111]; unfold U111 Q111; simp only [sure_cond, Tree.sure]
theorem hr111 (R111 : (a111).den → Option (r111).den) (hR : Holds Try.prog 111 (conM R111)) : Holds Try.prog 111 (conM (U111 R111)) := holds_of_M' (E := E0) follows_ok (g111 R111 hR) eqTy_sound keyTy_sound at111 bd111 (by kernel_rfl) (m111 R111) fun G' hlo hF hE => LsOK_kn (by rw [lo111]; exact .cons (loopV_ok hE hF hlo (LsOK_kn (by rw [lo111x0]; exact .nil)) (by kernel_rfl) (by kernel_rfl) sp111x0 (fun _ => rfl) (fun _ _ => rfl) (s111x0 R111) big) (.cons (loopV_ok hE hF hlo (LsOK_kn (by rw [lo111x1]; exact .nil)) (by kernel_rfl) (by kernel_rfl) sp111x1 (fun _ => rfl) (fun _ _ => rfl) (s111x1 R111) big) (.nil)))
def F111 : Nat → (a111).den → Option (r111).den
  | 0 => fun _ => none
  | n + 1 => U111 (F111 n)
theorem hf111 : ∀ n, Holds Try.prog 111 (conM (F111 n))
  | 0 => conM_none
  | n + 1 => hr111 _ (hf111 n)
def M111 (x : (a111).den) : Option (r111).den := F111 6 x
def p111 (x : (a111).den) : Bool := (M111 x).isSome
def v111 (x : (a111).den) : (r111).den := (M111 x).getD (r111).dflt
def k111 : Con := ⟨a111, r111, p111, v111⟩
theorem h111 : Holds Try.prog 111 k111 := hf111 6
/-- isobar/isobarref07.wider -/
noncomputable def c83 : Code := Try.f83.body.getD .skip
theorem at83 : Try.prog.funcs[83]? = some Try.f83 := by kernel_rfl
theorem bd83 : Try.f83.body = some c83 := by kernel_rfl
theorem cl83 : Callable Try.prog 83 := callable_of at83 (by kernel_rfl) (by kernel_rfl)
abbrev T124 : Ty := (.cons T4 T97)
abbrev a83 : Ty := T124
abbrev r83 : Ty := T6
noncomputable def G83 : Ctx := Ctx.of []
theorem g83 : Sound Try.prog (G83) := sound_of (fun _ h => by cases h)
theorem lo83 : loopsOf (c83) = [] := by kernel_rfl
noncomputable def l83 : List Loop := []
def Q83 {α : Type} (l : Option (r83).den → α) (an : α → α → α) (x : (a83).den) : α := bif x.2.2.1 then l (some ((x.2.1, (x.2.1, ())), ())) else l (some (((mn x.1.1 x.2.1), ((mx x.1.2.1 x.2.1), ())), ()))
theorem q83 (x : (a83).den) : runFn Try.prog E0 G83 Try.f83 l83 a83 r83 x = Q83 .leaf .any x := by kernel_rfl
def M83 (x : (a83).den) : Option (r83).den := Q83 (fun r => r) (fun _ _ => none) x
theorem m83 (x : (a83).den) : (runFn Try.prog E0 G83 Try.f83 l83 a83 r83 x).sure = M83 x := by rw [q83]; unfold M83 Q83; simp only [sure_cond, Tree.sure]
def p83 (x : (a83).den) : Bool := (M83 x).isSome
def v83 (x : (a83).den) : (r83).den := (M83 x).getD (r83).dflt
def k83 : Con := ⟨a83, r83, p83, v83⟩
theorem h83 : Holds Try.prog 83 k83 := holds_of_M' (E := E0) follows_ok g83 eqTy_sound keyTy_sound at83 bd83 (by kernel_rfl) m83 fun G' hlo hF hE => LsOK_kn (by rw [lo83]; exact .nil)

end Go.Dm

/-
  Each function of the program as a Lean function, and that its calls come to what that says.
-/
import Derived.Test.YtlfifailjikhaaaL16GA
set_option linter.unusedVariables false
set_option linter.unusedSimpArgs false
namespace Go.Dm
open Go.RowKit Go.Proofs
set_option maxRecDepth 100000
/-- isobar/cone.Speed -/
noncomputable def c45 : Code := Try.f45.body.getD .skip
theorem at45 : Try.prog.funcs[45]? = some Try.f45 := by kernel_rfl
theorem bd45 : Try.f45.body = some c45 := by kernel_rfl
theorem cl45 : Callable Try.prog 45 := callable_of at45 (by kernel_rfl) (by kernel_rfl)
abbrev T107 : Ty := (.cons T19 T0)
abbrev T108 : Ty := (.cons (.sl T0) T1)
abbrev a45 : Ty := T107
abbrev r45 : Ty := T108
noncomputable def G45 : Ctx := Ctx.of [(55, .pure k55), (57, .pure k57), (63, .pure k63), (74, .pure k74), (75, .gen (sortD 76 (.cons tL tL1) p76 v76)), (76, .gen (fun _ _ _ _ => .leaf .bad)), (80, .pure k80), (81, .pure k81)]
theorem g45 : Sound Try.prog (G45) := sound_of (List.forall_mem_cons.2 ⟨⟨cl55, h55⟩, List.forall_mem_cons.2 ⟨⟨cl57, h57⟩, List.forall_mem_cons.2 ⟨⟨cl63, h63⟩, List.forall_mem_cons.2 ⟨⟨cl74, h74⟩, List.forall_mem_cons.2 ⟨⟨cl75, sh75⟩, List.forall_mem_cons.2 ⟨⟨cl76, gbad76⟩, List.forall_mem_cons.2 ⟨⟨cl80, h80⟩, List.forall_mem_cons.2 ⟨⟨cl81, h81⟩, fun _ h => by cases h⟩⟩⟩⟩⟩⟩⟩⟩)
noncomputable def b45x0 : Code := loopBody ((loopsOf (c45))[0]?)
noncomputable def b45x0x0 : Code := loopBody ((loopsOf (b45x0))[0]?)
theorem lo45x0x0 : loopsOf (b45x0x0) = [] := by kernel_rfl
abbrev cs45x0x0 : List Pat := [.slot 2 (.ptr 2), .slot 3 (.ptr 3), .slot 7 (.ptr 183), .slot 8 (.pc tI), .slot 9 (.ptr 1184186), .slot 27 (.pc tI), .slot 28 (.pc tI), .slot 32 (.pc (.sl T7)), .slot 33 (.pc tI), .box 2 [.pc tI, .pc (.sl T7), .pc (.sl T2), .pc (.sl T4), .pc tI, .pc tI, .pc tI, .pc tI, .pc tI], .box 3 [.pc tI], .box 183 [.rw 1184000 105 T81]]
abbrev vs45x0x0 : List Pat := [.slot 10 (.own 1000010 3 T0), .slot 34 (.pc tI), .box 1184186 [.own 1185187000 3 T0, .pc tI]]
abbrev ps45x0x0 : List Pat := [.slot 2 (.ptr 2), .slot 3 (.ptr 3), .slot 7 (.ptr 183), .slot 8 (.pc tI), .slot 9 (.ptr 1184186), .slot 27 (.pc tI), .slot 28 (.pc tI), .slot 32 (.pc (.sl T7)), .slot 33 (.pc tI), .box 2 [.pc tI, .pc (.sl T7), .pc (.sl T2), .pc (.sl T4), .pc tI, .pc tI, .pc tI, .pc tI, .pc tI], .box 3 [.pc tI], .box 183 [.rw 1184000 105 T81], .slot 10 (.own 1000010 3 T0), .slot 34 (.pc tI), .box 1184186 [.own 1185187000 3 T0, .pc tI]]
def j45x0x0 : (patsTy cs45x0x0).den → (patsTy vs45x0x0).den → (patsTy ps45x0x0).den := fun c v => (c.1, (c.2.1, (c.2.2.1, (c.2.2.2.1, (c.2.2.2.2.1, (c.2.2.2.2.2.1, (c.2.2.2.2.2.2.1, (c.2.2.2.2.2.2.2.1, (c.2.2.2.2.2.2.2.2.1, (c.2.2.2.2.2.2.2.2.2.1, (c.2.2.2.2.2.2.2.2.2.2.1, (c.2.2.2.2.2.2.2.2.2.2.2.1, v))))))))))))
def sp45x0x0 : (patsTy ps45x0x0).den → (patsTy cs45x0x0).den × (patsTy vs45x0x0).den := fun x => ((x.1, (x.2.1, (x.2.2.1, (x.2.2.2.1, (x.2.2.2.2.1, (x.2.2.2.2.2.1, (x.2.2.2.2.2.2.1, (x.2.2.2.2.2.2.2.1, (x.2.2.2.2.2.2.2.2.1, (x.2.2.2.2.2.2.2.2.2.1, (x.2.2.2.2.2.2.2.2.2.2.1, (x.2.2.2.2.2.2.2.2.2.2.2.1, ())))))))))))), x.2.2.2.2.2.2.2.2.2.2.2.2)
abbrev wy45x0x0 : Ways := ⟨[(2, [.slot 2 (.ptr 2), .slot 3 (.ptr 3), .slot 7 (.ptr 183), .slot 9 (.ptr 1184186), .slot 27 (.pc tI), .slot 28 (.pc tI), .box 2 [.pc tI, .pc (.sl T7), .pc (.sl T2), .pc (.sl T4), .pc tI, .pc tI, .pc tI, .pc tI, .pc tI], .box 3 [.pc tI], .box 183 [.rw 1184000 105 T81], .slot 10 (.pc (.sl T0)), .box 1184186 [.own 1185187000 3 T0, .pc tI]])], [], []⟩
abbrev wv45x0x0 : Ways := ⟨[(2, [.slot 10 (.pc (.sl T0)), .box 1184186 [.own 1185187000 3 T0, .pc tI]])], [], []⟩
def je45x0x0 : (id : Nat) → (patsTy cs45x0x0).den → (patsTy (wayP wv45x0x0 id)).den → (patsTy (wayP wy45x0x0 id)).den := fun id => match id with | 2 => fun c y => (c.1, (c.2.1, (c.2.2.1, (c.2.2.2.2.1, (c.2.2.2.2.2.1, (c.2.2.2.2.2.2.1, (c.2.2.2.2.2.2.2.2.2.1, (c.2.2.2.2.2.2.2.2.2.2.1, (c.2.2.2.2.2.2.2.2.2.2.2.1, y))))))))) | id => fun _ _ => (patsTy (wayP wy45x0x0 id)).dflt
def jr45x0x0 : (patsTy cs45x0x0).den → (patsTy (wv45x0x0).ret).den → (patsTy (wy45x0x0).ret).den := fun c y => y
def jp45x0x0 : (patsTy cs45x0x0).den → (patsTy (wv45x0x0).pan).den → (patsTy (wy45x0x0).pan).den := fun c y => y
def Z45x0x0 {α : Type} (l : RQ vs45x0x0 wv45x0x0 → α) (an : α → α → α) (c : (patsTy cs45x0x0).den) (v : (patsTy vs45x0x0).den) : α := bif (decide (v.2.1 < c.2.2.2.2.2.2.2.2.1)) then bif (decide (((0 : Int) ≤ v.2.1) ∧ (v.2.1 < ((c.2.2.2.2.2.2.2.1.n : Nat) : Int)))) then bif (decide (v.2.1 < (0 : Int))) then l .bad else bif (decide ((W (landI .i64 (shrI .i64 c.2.2.2.1 v.2.1) (1 : Int))) = (1 : Int))) then bif (decide (((v.2.2.1.1.n + 1) * 8) ≤ 140737488355328)) then bif (decide (((v.1.n + 1) * 8) ≤ 140737488355328)) then l (.next ((catSl v.1 (⟨1, fun i => List.getD [(c.2.2.2.2.2.2.2.1.g (Int.toNat v.2.1)).2.2.2.2.2.2] i (c.2.2.2.2.2.2.2.1.g (Int.toNat v.2.1)).2.2.2.2.2.2⟩ : Sl (Ty.den T0))), ((W (v.2.1 + (1 : Int))), (((catSl v.2.2.1.1 (⟨1, fun i => List.getD [(v.2.1, ())] i (v.2.1, ())⟩ : Sl (Ty.den T0))), v.2.2.1.2), ())))) else l .bad else l .bad else l (.next (v.1, ((W (v.2.1 + (1 : Int))), (v.2.2.1, ())))) else l .bad else l (.out (.exit 2 (v.1, (v.2.2.1, ()))))
theorem z45x0x0 (c : (patsTy cs45x0x0).den) (v : (patsTy vs45x0x0).den) : roundQ Try.prog (E0.rw [62] [75]) G45 0 88 [] ps45x0x0 wy45x0x0 b45x0x0 [] (j45x0x0 c v) = Z45x0x0 (fun r => .leaf (r.lift j45x0x0 je45x0x0 jr45x0x0 jp45x0x0 c)) .any c v := by kernel_rfl
def S45x0x0 (c : (patsTy cs45x0x0).den) (v : (patsTy vs45x0x0).den) : RQ vs45x0x0 wv45x0x0 := Z45x0x0 (fun r => r) (fun _ _ => .bad) c v
theorem s45x0x0 (c : (patsTy cs45x0x0).den) (v : (patsTy vs45x0x0).den) : detQ (roundQ Try.prog (E0.rw [62] [75]) G45 0 88 [] ps45x0x0 wy45x0x0 b45x0x0 [] (j45x0x0 c v)) = (S45x0x0 c v).lift j45x0x0 je45x0x0 jr45x0x0 jp45x0x0 c := by rw [z45x0x0]; unfold S45x0x0 Z45x0x0; simp only [detQ_cond, lift_cond, lift_bad, detQ, detQ_cl, detQ_onExit, detQ_onRet, detQ_onPanL, detQ_onNext, detQ_onBrk, detQ_onRetO, detQ_onPan, detQ_onOk, detQ_onGPan, lift_cl, lift_onExit, lift_onRet, lift_onPanL, lift_onNext, lift_onBrk, lift_onRetO, lift_onPan, lift_onOk, lift_onGPan]
def L45x0x0 (c : (patsTy cs45x0x0).den) (v : (patsTy vs45x0x0).den) : LQ wv45x0x0 := iterQ (S45x0x0 c) big v
theorem lo45x0 : loopsOf (b45x0) = [.loop b45x0x0] := by kernel_rfl
abbrev cs45x0 : List Pat := [.slot 2 (.ptr 2), .slot 3 (.ptr 3), .slot 7 (.ptr 183), .slot 27 (.pc tI), .box 2 [.pc tI, .pc (.sl T7), .pc (.sl T2), .pc (.sl T4), .pc tI, .pc tI, .pc tI, .pc tI, .pc tI], .box 3 [.pc tI]]
abbrev vs45x0 : List Pat := [.slot 28 (.pc tI), .box 183 [.rw 1184000 105 T81]]
abbrev ps45x0 : List Pat := [.slot 2 (.ptr 2), .slot 3 (.ptr 3), .slot 7 (.ptr 183), .slot 27 (.pc tI), .box 2 [.pc tI, .pc (.sl T7), .pc (.sl T2), .pc (.sl T4), .pc tI, .pc tI, .pc tI, .pc tI, .pc tI], .box 3 [.pc tI], .slot 28 (.pc tI), .box 183 [.rw 1184000 105 T81]]
def j45x0 : (patsTy cs45x0).den → (patsTy vs45x0).den → (patsTy ps45x0).den := fun c v => (c.1, (c.2.1, (c.2.2.1, (c.2.2.2.1, (c.2.2.2.2.1, (c.2.2.2.2.2.1, v))))))
def sp45x0 : (patsTy ps45x0).den → (patsTy cs45x0).den × (patsTy vs45x0).den := fun x => ((x.1, (x.2.1, (x.2.2.1, (x.2.2.2.1, (x.2.2.2.2.1, (x.2.2.2.2.2.1, ())))))), x.2.2.2.2.2.2)
abbrev wy45x0 : Ways := ⟨[(0, [.slot 2 (.ptr 2), .slot 3 (.ptr 3), .slot 7 (.ptr 183), .box 2 [.pc tI, .pc (.sl T7), .pc (.sl T2), .pc (.sl T4), .pc tI, .pc tI, .pc tI, .pc tI, .pc tI], .box 3 [.pc tI], .box 183 [.rw 1184000 105 T81]])], [], []⟩
abbrev wv45x0 : Ways := ⟨[(0, [.box 183 [.rw 1184000 105 T81]])], [], []⟩
def je45x0 : (id : Nat) → (patsTy cs45x0).den → (patsTy (wayP wv45x0 id)).den → (patsTy (wayP wy45x0 id)).den := fun id => match id with | 0 => fun c y => (c.1, (c.2.1, (c.2.2.1, (c.2.2.2.2.1, (c.2.2.2.2.2.1, y))))) | id => fun _ _ => (patsTy (wayP wy45x0 id)).dflt
def jr45x0 : (patsTy cs45x0).den → (patsTy (wv45x0).ret).den → (patsTy (wy45x0).ret).den := fun c y => y
def jp45x0 : (patsTy cs45x0).den → (patsTy (wv45x0).pan).den → (patsTy (wy45x0).pan).den := fun c y => y
def Z45x0 {α : Type} (l : RQ vs45x0 wv45x0 → α) (an : α → α → α) (c : (patsTy cs45x0).den) (v : (patsTy vs45x0).den) : α := bif (decide (v.1 < c.2.2.2.1)) then onExit (L45x0x0 ((), ((), ((), (v.1, ((), (c.2.2.2.1, (v.1, (c.2.2.2.2.1.2.1, (((c.2.2.2.2.1.2.1.n : Nat) : Int), (c.2.2.2.2.1, (c.2.2.2.2.2.1, (v.2.1, ())))))))))))) ((⟨0, fun i => ((0 : Int), ())⟩ : Sl _), ((0 : Int), (((⟨0, fun i => ((0 : Int), ())⟩ : Sl _), ((0 : Int), ())), ())))) 2 (fun u0 => cl (r74).dflt (M74 (u0.1, ())) (fun u1 => bif (decide (((v.2.1.1.n + 1) * 32) ≤ 140737488355328)) then l (.next ((W (v.1 + (1 : Int))), (((catSl v.2.1.1 (⟨1, fun i => List.getD [(u0.2.1.1, u1)] i (u0.2.1.1, u1)⟩ : Sl (Ty.den T81))), ()), ()))) else l .bad) (l .bad)) (l .bad) else l (.out (.exit 0 (v.2.1, ())))
theorem z45x0 (c : (patsTy cs45x0).den) (v : (patsTy vs45x0).den) : roundQ Try.prog (E0.rw [62] [75]) G45 0 88 [] ps45x0 wy45x0 b45x0 [.known (loopZ 0 [] ps45x0x0 fun x => spreadV wy45x0x0 je45x0x0 jr45x0x0 jp45x0x0 [] false (sp45x0x0 x).1 (L45x0x0 (sp45x0x0 x).1 (sp45x0x0 x).2) wy45x0x0.exits)] (j45x0 c v) = Z45x0 (fun r => .leaf (r.lift j45x0 je45x0 jr45x0 jp45x0 c)) .any c v := by kernel_rfl
def S45x0 (c : (patsTy cs45x0).den) (v : (patsTy vs45x0).den) : RQ vs45x0 wv45x0 := Z45x0 (fun r => r) (fun _ _ => .bad) c v
theorem s45x0 (c : (patsTy cs45x0).den) (v : (patsTy vs45x0).den) : detQ (roundQ Try.prog (E0.rw [62] [75]) G45 0 88 [] ps45x0 wy45x0 b45x0 [.known (loopZ 0 [] ps45x0x0 fun x => spreadV wy45x0x0 je45x0x0 jr45x0x0 jp45x0x0 [] false (sp45x0x0 x).1 (L45x0x0 (sp45x0x0 x).1 (sp45x0x0 x).2) wy45x0x0.exits)] (j45x0 c v)) = (S45x0 c v).lift j45x0 je45x0 jr45x0 jp45x0 c := by rw [z45x0]; unfold S45x0 Z45x0; simp only [detQ_cond, lift_cond, lift_bad, detQ, detQ_cl, detQ_onExit, detQ_onRet, detQ_onPanL, detQ_onNext, detQ_onBrk, detQ_onRetO, detQ_onPan, detQ_onOk, detQ_onGPan, lift_cl, lift_onExit, lift_onRet, lift_onPanL, lift_onNext, lift_onBrk, lift_onRetO, lift_onPan, lift_onOk, lift_onGPan]
def L45x0 (c : (patsTy cs45x0).den) (v : (patsTy vs45x0).den) : LQ wv45x0 := iterQ (S45x0 c) big v
theorem lo45 : loopsOf (c45) = [.loop b45x0] := by kernel_rfl
noncomputable def l45 : List Loop := [.known (loopZ 0 [] ps45x0 fun x => spreadV wy45x0 je45x0 jr45x0 jp45x0 [] false (sp45x0 x).1 (L45x0 (sp45x0 x).1 (sp45x0 x).2) wy45x0.exits)]
def Q45 {α : Type} (l : Option (r45).den → α) (an : α → α → α) (x : (a45).den) : α := cl (r55).dflt (M55 (x.1, ())) (fun u2 => bif (!u2.1) then l (some ((⟨0, fun i => ((0 : Int), ())⟩ : Sl _), ((0 : Int), ((2 : Int), ())))) else cl (r63).dflt (M63 (x.2.1, ((0 : Int), ((20000 : Int), ())))) (fun u3 => bif (!u3.1) then l (some ((⟨0, fun i => ((0 : Int), ())⟩ : Sl _), ((0 : Int), ((2 : Int), ())))) else bif (decide (((x.1.2.1.n : Nat) : Int) < (0 : Int))) then l none else onExit (L45x0 ((), ((), ((), ((W (shlI .i64 (1 : Int) ((x.1.2.1.n : Nat) : Int))), (x.1, (x.2, ())))))) ((0 : Int), (((⟨0, fun i => ((⟨0, fun i => ((0 : Int), ())⟩ : Sl _), ((0 : Int), ()))⟩ : Sl _), ()), ()))) 0 (fun u4 => bif (sortB p76 v76 u4.1.1) then cl (r57).dflt (M57 (x.1, ())) (fun u5 => cl (r80).dflt (M80 ((0 : Int), ((W ((((sortS v76 u4.1.1).n : Nat) : Int) - (1 : Int))), ((fun y1 => ((p81 (y1.1, (u5.1, (((sortS v76 u4.1.1), ()), (x.2, ()))))), (v81 (y1.1, (u5.1, (((sortS v76 u4.1.1), ()), (x.2, ()))))))), ())))) (fun u6 => bif (!u6.2.1) then l (some ((⟨0, fun i => ((0 : Int), ())⟩ : Sl _), ((0 : Int), ((5 : Int), ())))) else bif (decide (((0 : Int) ≤ u6.1) ∧ (u6.1 < (((sortS v76 u4.1.1).n : Nat) : Int)))) then bif (decide (((0 : Int) ≤ u6.1) ∧ (u6.1 < (((sortS v76 u4.1.1).n : Nat) : Int)))) then l (some (((sortS v76 u4.1.1).g (Int.toNat u6.1)).1, (((sortS v76 u4.1.1).g (Int.toNat u6.1)).2.1, ((0 : Int), ())))) else l none else l none) (l none)) (l none) else l none) (l none)) (l none)) (l none)
theorem q45 (x : (a45).den) : runFn Try.prog (E0.rw [62] [75]) G45 Try.f45 l45 a45 r45 x = Q45 .leaf .any x := by kernel_rfl
def M45 (x : (a45).den) : Option (r45).den := Q45 (fun r => r) (fun _ _ => none) x
theorem m45 (x : (a45).den) : (runFn Try.prog (E0.rw [62] [75]) G45 Try.f45 l45 a45 r45 x).sure = M45 x := by rw [q45]; unfold M45 Q45; simp only [sure_cond, Tree.sure, sure_cl, sure_onExit, sure_onRet, sure_onPanL, sure_onNext, sure_onBrk, sure_onRetO, sure_onPan, sure_onOk, sure_onGPan]
def p45 (x : (a45).den) : Bool := (M45 x).isSome
def v45 (x : (a45).den) : (r45).den := (M45 x).getD (r45).dflt
def k45 : Con := ⟨a45, r45, p45, v45⟩
theorem h45 : Holds Try.prog 45 k45 := holds_of_M' (E := (E0.rw [62] [75])) follows_ok g45 eqTy_sound keyTy_sound at45 bd45 (by kernel_rfl) m45 fun G' hlo hF hE => LsOK_kn (by rw [lo45]; exact .cons (loopV_ok hE hF hlo (LsOK_kn (by rw [lo45x0]; exact .cons (loopV_ok hE hF hlo (LsOK_kn (by rw [lo45x0x0]; exact .nil)) (by kernel_rfl) (by kernel_rfl) sp45x0x0 (fun _ => rfl) (fun _ _ => rfl) (s45x0x0) big) (.nil))) (by kernel_rfl) (by kernel_rfl) sp45x0 (fun _ => rfl) (fun _ _ => rfl) (s45x0) big) (.nil))
/-- isobar/isobarlaw05.known -/
noncomputable def c18 : Code := Try.f18.body.getD .skip
theorem at18 : Try.prog.funcs[18]? = some Try.f18 := by kernel_rfl
theorem bd18 : Try.f18.body = some c18 := by kernel_rfl
theorem cl18 : Callable Try.prog 18 := callable_of at18 (by kernel_rfl) (by kernel_rfl)
abbrev a18 : Ty := .nil
abbrev r18 : Ty := T3
noncomputable def G18 : Ctx := Ctx.of [(19, .pure k19), (23, .pure k23), (25, .pure k25), (30, .pure k30), (35, .pure k35), (36, .pure k36), (45, .pure k45), (49, .pure k49), (53, .pure k53), (54, .pure k54)]
theorem g18 : Sound Try.prog (G18) := sound_of (List.forall_mem_cons.2 ⟨⟨cl19, h19⟩, List.forall_mem_cons.2 ⟨⟨cl23, h23⟩, List.forall_mem_cons.2 ⟨⟨cl25, h25⟩, List.forall_mem_cons.2 ⟨⟨cl30, h30⟩, List.forall_mem_cons.2 ⟨⟨cl35, h35⟩, List.forall_mem_cons.2 ⟨⟨cl36, h36⟩, List.forall_mem_cons.2 ⟨⟨cl45, h45⟩, List.forall_mem_cons.2 ⟨⟨cl49, h49⟩, List.forall_mem_cons.2 ⟨⟨cl53, h53⟩, List.forall_mem_cons.2 ⟨⟨cl54, h54⟩, fun _ h => by cases h⟩⟩⟩⟩⟩⟩⟩⟩⟩⟩)
theorem lo18 : loopsOf (c18) = [] := by kernel_rfl
noncomputable def l18 : List Loop := []
def Q18 {α : Type} (l : Option (r18).den → α) (an : α → α → α) (x : (a18).den) : α := cl (r53).dflt (M53 ()) (fun u0 => cl (r35).dflt (M35 (u0.1, ())) (fun u1 => cl (r53).dflt (M53 ()) (fun u2 => cl (r19).dflt (M19 (u0.1, ((⟨4, fun i => List.getD [((40 : Int), ()), ((60 : Int), ()), ((150 : Int), ()), ((20 : Int), ())] i ((40 : Int), ())⟩ : Sl _), ()))) (fun u3 => cl (r53).dflt (M53 ()) (fun u4 => cl (r23).dflt (M23 (u0.1, ())) (fun u5 => cl (r53).dflt (M53 ()) (fun u6 => cl (r25).dflt (M25 (u0.1, ((0 : Int), ((934 : Int), ())))) (fun u7 => cl (r53).dflt (M53 ()) (fun u8 => cl (r25).dflt (M25 (u0.1, ((0 : Int), ((935 : Int), ())))) (fun u9 => cl (r53).dflt (M53 ()) (fun u10 => cl (r54).dflt (M54 ((1060 : Int), ((1100 : Int), ()))) (fun u11 => cl (r54).dflt (M54 ((2000 : Int), ((5000 : Int), ()))) (fun u12 => cl (r30).dflt (M30 (u0.1, ((0 : Int), ((u11.1.1, (u11.1.2.1, u12.1)), ())))) (fun u13 => cl (r53).dflt (M53 ()) (fun u14 => cl (r45).dflt (M45 (u0.1, ((850 : Int), ()))) (fun u15 => bif (!(decide (u1.2.1 = (0 : Int)))) then l (some (false, ())) else bif (!(decide (u3.2.1 = (0 : Int)))) then l (some (false, ())) else bif (!(decide (u5.2.2.1 = (0 : Int)))) then l (some (false, ())) else bif (!(decide (u7.2.1 = (0 : Int)))) then l (some (false, ())) else bif (!(decide (u9.2.1 = (0 : Int)))) then l (some (false, ())) else bif (!(decide (u13.2.1 = (0 : Int)))) then l (some (false, ())) else bif (!(decide (u15.2.2.1 = (0 : Int)))) then l (some (false, ())) else cl (r36).dflt (M36 (u1.1, ((⟨2, fun i => List.getD [((0 : Int), ((2 : Int), ())), ((0 : Int), ((3 : Int), ()))] i ((0 : Int), ((2 : Int), ()))⟩ : Sl _), ()))) (fun u16 => bif u16.1 then bif (decide (u3.1 = (860 : Int))) then bif (decide (u5.1 = (800 : Int))) then bif (decide (u5.2.1 = (890 : Int))) then bif (decide (u7.1 = (2 : Int))) then bif (decide (u9.1 = (3 : Int))) then bif (decide (u13.1 = (2 : Int))) then cl (r49).dflt (M49 (u15.1, ((⟨1, fun i => List.getD [((3 : Int), ())] i ((3 : Int), ())⟩ : Sl _), ()))) (fun u17 => bif u17.1 then l (some ((decide (u15.2.1 = (4 : Int))), ())) else l (some (false, ()))) (l none) else l (some (false, ())) else l (some (false, ())) else l (some (false, ())) else l (some (false, ())) else l (some (false, ())) else l (some (false, ())) else l (some (false, ()))) (l none)) (l none)) (l none)) (l none)) (l none)) (l none)) (l none)) (l none)) (l none)) (l none)) (l none)) (l none)) (l none)) (l none)) (l none)) (l none)) (l none)
theorem q18 (x : (a18).den) : runFn Try.prog E0 G18 Try.f18 l18 a18 r18 x = Q18 .leaf .any x := by kernel_rfl
def M18 (x : (a18).den) : Option (r18).den := Q18 (fun r => r) (fun _ _ => none) x
theorem m18 (x : (a18).den) : (runFn Try.prog E0 G18 Try.f18 l18 a18 r18 x).sure = M18 x := by rw [q18]; unfold M18 Q18; simp only [sure_cond, Tree.sure, sure_cl, sure_onExit, sure_onRet, sure_onPanL, sure_onNext, sure_onBrk, sure_onRetO, sure_onPan, sure_onOk, sure_onGPan]
def p18 (x : (a18).den) : Bool := (M18 x).isSome
def v18 (x : (a18).den) : (r18).den := (M18 x).getD (r18).dflt
def k18 : Con := ⟨a18, r18, p18, v18⟩
theorem h18 : Holds Try.prog 18 k18 := holds_of_M' (E := E0) follows_ok g18 eqTy_sound keyTy_sound at18 bd18 (by kernel_rfl) m18 fun G' hlo hF hE => LsOK_kn (by rw [lo18]; exact .nil)
/-- isobar/isobarlaw05.short -/
noncomputable def c17 : Code := Try.f17.body.getD .skip
theorem at17 : Try.prog.funcs[17]? = some Try.f17 := by kernel_rfl
theorem bd17 : Try.f17.body = some c17 := by kernel_rfl
theorem cl17 : Callable Try.prog 17 := callable_of at17 (by kernel_rfl) (by kernel_rfl)
abbrev a17 : Ty := T36
abbrev r17 : Ty := T3
noncomputable def G17 : Ctx := Ctx.of []
theorem g17 : Sound Try.prog (G17) := sound_of (fun _ h => by cases h)
theorem lo17 : loopsOf (c17) = [] := by kernel_rfl
noncomputable def l17 : List Loop := []
def Q17 {α : Type} (l : Option (r17).den → α) (an : α → α → α) (x : (a17).den) : α := bif (decide (((x.1.2.1.n : Nat) : Int) ≤ (12 : Int))) then bif (decide (((x.1.2.2.1.n : Nat) : Int) ≤ (12 : Int))) then l (some ((decide (((x.1.2.2.2.1.n : Nat) : Int) ≤ (8 : Int))), ())) else l (some (false, ())) else l (some (false, ()))
theorem q17 (x : (a17).den) : runFn Try.prog E0 G17 Try.f17 l17 a17 r17 x = Q17 .leaf .any x := by kernel_rfl
def M17 (x : (a17).den) : Option (r17).den := Q17 (fun r => r) (fun _ _ => none) x
theorem m17 (x : (a17).den) : (runFn Try.prog E0 G17 Try.f17 l17 a17 r17 x).sure = M17 x := by rw [q17]; unfold M17 Q17; simp only [sure_cond, Tree.sure, sure_cl, sure_onExit, sure_onRet, sure_onPanL, sure_onNext, sure_onBrk, sure_onRetO, sure_onPan, sure_onOk, sure_onGPan]
def p17 (x : (a17).den) : Bool := (M17 x).isSome
def v17 (x : (a17).den) : (r17).den := (M17 x).getD (r17).dflt
def k17 : Con := ⟨a17, r17, p17, v17⟩
theorem h17 : Holds Try.prog 17 k17 := holds_of_M' (E := E0) follows_ok g17 eqTy_sound keyTy_sound at17 bd17 (by kernel_rfl) m17 fun G' hlo hF hE => LsOK_kn (by rw [lo17]; exact .nil)
/-- isobar/isobarref05.in -/
noncomputable def c60 : Code := Try.f60.body.getD .skip
theorem at60 : Try.prog.funcs[60]? = some Try.f60 := by kernel_rfl
theorem bd60 : Try.f60.body = some c60 := by kernel_rfl
theorem cl60 : Callable Try.prog 60 := callable_of at60 (by kernel_rfl) (by kernel_rfl)
abbrev a60 : Ty := T2
abbrev r60 : Ty := T3
noncomputable def G60 : Ctx := Ctx.of []
theorem g60 : Sound Try.prog (G60) := sound_of (fun _ h => by cases h)
theorem lo60 : loopsOf (c60) = [] := by kernel_rfl
noncomputable def l60 : List Loop := []
def Q60 {α : Type} (l : Option (r60).den → α) (an : α → α → α) (x : (a60).den) : α := bif (decide (x.2.1 ≤ x.1)) then l (some ((decide (x.1 ≤ x.2.2.1)), ())) else l (some (false, ()))
theorem q60 (x : (a60).den) : runFn Try.prog E0 G60 Try.f60 l60 a60 r60 x = Q60 .leaf .any x := by kernel_rfl
def M60 (x : (a60).den) : Option (r60).den := Q60 (fun r => r) (fun _ _ => none) x
theorem m60 (x : (a60).den) : (runFn Try.prog E0 G60 Try.f60 l60 a60 r60 x).sure = M60 x := by rw [q60]; unfold M60 Q60; simp only [sure_cond, Tree.sure, sure_cl, sure_onExit, sure_onRet, sure_onPanL, sure_onNext, sure_onBrk, sure_onRetO, sure_onPan, sure_onOk, sure_onGPan]
def p60 (x : (a60).den) : Bool := (M60 x).isSome
def v60 (x : (a60).den) : (r60).den := (M60 x).getD (r60).dflt
def k60 : Con := ⟨a60, r60, p60, v60⟩
theorem h60 : Holds Try.prog 60 k60 := holds_of_M' (E := E0) follows_ok g60 eqTy_sound keyTy_sound at60 bd60 (by kernel_rfl) m60 fun G' hlo hF hE => LsOK_kn (by rw [lo60]; exact .nil)
/-- isobar/isobarref05.station -/
noncomputable def c59 : Code := Try.f59.body.getD .skip
theorem at59 : Try.prog.funcs[59]? = some Try.f59 := by kernel_rfl
theorem bd59 : Try.f59.body = some c59 := by kernel_rfl
theorem cl59 : Callable Try.prog 59 := callable_of at59 (by kernel_rfl) (by kernel_rfl)
abbrev a59 : Ty := T107
abbrev r59 : Ty := T3
noncomputable def G59 : Ctx := Ctx.of [(60, .pure k60)]
theorem g59 : Sound Try.prog (G59) := sound_of (List.forall_mem_cons.2 ⟨⟨cl60, h60⟩, fun _ h => by cases h⟩)
theorem lo59 : loopsOf (c59) = [] := by kernel_rfl
noncomputable def l59 : List Loop := []
def Q59 {α : Type} (l : Option (r59).den → α) (an : α → α → α) (x : (a59).den) : α := cl (r60).dflt (M60 (x.2.1, ((0 : Int), ((W (x.1.1 - (1 : Int))), ())))) (fun u0 => l (some u0)) (l none)
theorem q59 (x : (a59).den) : runFn Try.prog E0 G59 Try.f59 l59 a59 r59 x = Q59 .leaf .any x := by kernel_rfl
def M59 (x : (a59).den) : Option (r59).den := Q59 (fun r => r) (fun _ _ => none) x
theorem m59 (x : (a59).den) : (runFn Try.prog E0 G59 Try.f59 l59 a59 r59 x).sure = M59 x := by rw [q59]; unfold M59 Q59; simp only [sure_cond, Tree.sure, sure_cl, sure_onExit, sure_onRet, sure_onPanL, sure_onNext, sure_onBrk, sure_onRetO, sure_onPan, sure_onOk, sure_onGPan]
def p59 (x : (a59).den) : Bool := (M59 x).isSome
def v59 (x : (a59).den) : (r59).den := (M59 x).getD (r59).dflt
def k59 : Con := ⟨a59, r59, p59, v59⟩
theorem h59 : Holds Try.prog 59 k59 := holds_of_M' (E := E0) follows_ok g59 eqTy_sound keyTy_sound at59 bd59 (by kernel_rfl) m59 fun G' hlo hF hE => LsOK_kn (by rw [lo59]; exact .nil)
/-- isobar/isobarref05.Span -/
noncomputable def c61 : Code := Try.f61.body.getD .skip
theorem at61 : Try.prog.funcs[61]? = some Try.f61 := by kernel_rfl
theorem bd61 : Try.f61.body = some c61 := by kernel_rfl
theorem cl61 : Callable Try.prog 61 := callable_of at61 (by kernel_rfl) (by kernel_rfl)
abbrev a61 : Ty := T14
abbrev r61 : Ty := T3
noncomputable def G61 : Ctx := Ctx.of []
theorem g61 : Sound Try.prog (G61) := sound_of (fun _ h => by cases h)
theorem lo61 : loopsOf (c61) = [] := by kernel_rfl
noncomputable def l61 : List Loop := []
def Q61 {α : Type} (l : Option (r61).den → α) (an : α → α → α) (x : (a61).den) : α := bif (decide ((0 : Int) ≤ x.1.1)) then bif (decide (x.1.1 ≤ x.1.2.1)) then l (some ((decide (x.1.2.1 ≤ x.2.1)), ())) else l (some (false, ())) else l (some (false, ()))
theorem q61 (x : (a61).den) : runFn Try.prog E0 G61 Try.f61 l61 a61 r61 x = Q61 .leaf .any x := by kernel_rfl
def M61 (x : (a61).den) : Option (r61).den := Q61 (fun r => r) (fun _ _ => none) x
theorem m61 (x : (a61).den) : (runFn Try.prog E0 G61 Try.f61 l61 a61 r61 x).sure = M61 x := by rw [q61]; unfold M61 Q61; simp only [sure_cond, Tree.sure, sure_cl, sure_onExit, sure_onRet, sure_onPanL, sure_onNext, sure_onBrk, sure_onRetO, sure_onPan, sure_onOk, sure_onGPan]
def p61 (x : (a61).den) : Bool := (M61 x).isSome
def v61 (x : (a61).den) : (r61).den := (M61 x).getD (r61).dflt
def k61 : Con := ⟨a61, r61, p61, v61⟩
theorem h61 : Holds Try.prog 61 k61 := holds_of_M' (E := E0) follows_ok g61 eqTy_sound keyTy_sound at61 bd61 (by kernel_rfl) m61 fun G' hlo hF hE => LsOK_kn (by rw [lo61]; exact .nil)
/-- isobar/isobarref05.Watch -/
noncomputable def c20 : Code := Try.f20.body.getD .skip
theorem at20 : Try.prog.funcs[20]? = some Try.f20 := by kernel_rfl
theorem bd20 : Try.f20.body = some c20 := by kernel_rfl
theorem cl20 : Callable Try.prog 20 := callable_of at20 (by kernel_rfl) (by kernel_rfl)
abbrev a20 : Ty := T36
abbrev r20 : Ty := T3
noncomputable def G20 : Ctx := Ctx.of [(59, .pure k59), (60, .pure k60), (61, .pure k61)]
theorem g20 : Sound Try.prog (G20) := sound_of (List.forall_mem_cons.2 ⟨⟨cl59, h59⟩, List.forall_mem_cons.2 ⟨⟨cl60, h60⟩, List.forall_mem_cons.2 ⟨⟨cl61, h61⟩, fun _ h => by cases h⟩⟩⟩)
noncomputable def b20x0 : Code := loopBody ((loopsOf (c20))[0]?)
theorem lo20x0 : loopsOf (b20x0) = [] := by kernel_rfl
abbrev cs20x0 : List Pat := [.slot 1 (.ptr 1), .box 1 [.pc tI, .pc (.sl T7), .pc (.sl T2), .pc (.sl T4), .pc tI, .pc tI, .pc tI, .pc tI, .pc tI]]
abbrev vs20x0 : List Pat := [.slot 3 (.pc tI)]
abbrev ps20x0 : List Pat := [.slot 1 (.ptr 1), .box 1 [.pc tI, .pc (.sl T7), .pc (.sl T2), .pc (.sl T4), .pc tI, .pc tI, .pc tI, .pc tI, .pc tI], .slot 3 (.pc tI)]
def j20x0 : (patsTy cs20x0).den → (patsTy vs20x0).den → (patsTy ps20x0).den := fun c v => (c.1, (c.2.1, v))
def sp20x0 : (patsTy ps20x0).den → (patsTy cs20x0).den × (patsTy vs20x0).den := fun x => ((x.1, (x.2.1, ())), x.2.2)
abbrev wy20x0 : Ways := ⟨[(0, [.slot 1 (.ptr 1), .box 1 [.pc tI, .pc (.sl T7), .pc (.sl T2), .pc (.sl T4), .pc tI, .pc tI, .pc tI, .pc tI, .pc tI]])], [.slot 2 (.pc .bool)], []⟩
abbrev wv20x0 : Ways := ⟨[(0, [])], [.slot 2 (.pc .bool)], []⟩
def je20x0 : (id : Nat) → (patsTy cs20x0).den → (patsTy (wayP wv20x0 id)).den → (patsTy (wayP wy20x0 id)).den := fun id => match id with | 0 => fun c y => (c.1, (c.2.1, y)) | id => fun _ _ => (patsTy (wayP wy20x0 id)).dflt
def jr20x0 : (patsTy cs20x0).den → (patsTy (wv20x0).ret).den → (patsTy (wy20x0).ret).den := fun c y => y
def jp20x0 : (patsTy cs20x0).den → (patsTy (wv20x0).pan).den → (patsTy (wy20x0).pan).den := fun c y => y
def Z20x0 {α : Type} (l : RQ vs20x0 wv20x0 → α) (an : α → α → α) (c : (patsTy cs20x0).den) (v : (patsTy vs20x0).den) : α := bif (decide (v.1 < ((c.2.1.2.1.n : Nat) : Int))) then bif (decide (((0 : Int) ≤ v.1) ∧ (v.1 < ((c.2.1.2.1.n : Nat) : Int)))) then cl (r59).dflt (M59 (c.2.1, ((c.2.1.2.1.g (Int.toNat v.1)).1, ()))) (fun u0 => bif (!u0.1) then l (.out (.ret (false, ()))) else cl (r60).dflt (M60 ((c.2.1.2.1.g (Int.toNat v.1)).2.1, ((0 : Int), ((10080 : Int), ())))) (fun u1 => bif (!u1.1) then l (.out (.ret (false, ()))) else cl (r60).dflt (M60 ((c.2.1.2.1.g (Int.toNat v.1)).2.2.1, ((0 : Int), ((99999 : Int), ())))) (fun u2 => bif (!u2.1) then l (.out (.ret (false, ()))) else cl (r61).dflt (M61 (((c.2.1.2.1.g (Int.toNat v.1)).2.2.2.1, ((c.2.1.2.1.g (Int.toNat v.1)).2.2.2.2.1, ())), ((2880 : Int), ()))) (fun u3 => bif (!u3.1) then l (.out (.ret (false, ()))) else cl (r60).dflt (M60 ((c.2.1.2.1.g (Int.toNat v.1)).2.2.2.2.2.1, ((0 : Int), ((2880 : Int), ())))) (fun u4 => bif (!u4.1) then l (.out (.ret (false, ()))) else cl (r60).dflt (M60 ((c.2.1.2.1.g (Int.toNat v.1)).2.2.2.2.2.2.1, ((0 : Int), ((10000 : Int), ())))) (fun u5 => bif (!u5.1) then l (.out (.ret (false, ()))) else l (.next ((W (v.1 + (1 : Int))), ()))) (l .bad)) (l .bad)) (l .bad)) (l .bad)) (l .bad)) (l .bad) else l .bad else l (.out (.exit 0 ()))
theorem z20x0 (c : (patsTy cs20x0).den) (v : (patsTy vs20x0).den) : roundQ Try.prog E0 G20 0 184 [] ps20x0 wy20x0 b20x0 [] (j20x0 c v) = Z20x0 (fun r => .leaf (r.lift j20x0 je20x0 jr20x0 jp20x0 c)) .any c v := by kernel_rfl
def S20x0 (c : (patsTy cs20x0).den) (v : (patsTy vs20x0).den) : RQ vs20x0 wv20x0 := Z20x0 (fun r => r) (fun _ _ => .bad) c v
theorem s20x0 (c : (patsTy cs20x0).den) (v : (patsTy vs20x0).den) : detQ (roundQ Try.prog E0 G20 0 184 [] ps20x0 wy20x0 b20x0 [] (j20x0 c v)) = (S20x0 c v).lift j20x0 je20x0 jr20x0 jp20x0 c := by rw [z20x0]; unfold S20x0 Z20x0; simp only [detQ_cond, lift_cond, lift_bad, detQ, detQ_cl, detQ_onExit, detQ_onRet, detQ_onPanL, detQ_onNext, detQ_onBrk, detQ_onRetO, detQ_onPan, detQ_onOk, detQ_onGPan, lift_cl, lift_onExit, lift_onRet, lift_onPanL, lift_onNext, lift_onBrk, lift_onRetO, lift_onPan, lift_onOk, lift_onGPan]
def L20x0 (c : (patsTy cs20x0).den) (v : (patsTy vs20x0).den) : LQ wv20x0 := iterQ (S20x0 c) big v
noncomputable def b20x1 : Code := loopBody ((loopsOf (c20))[1]?)
theorem lo20x1 : loopsOf (b20x1) = [] := by kernel_rfl
abbrev cs20x1 : List Pat := [.slot 1 (.ptr 1), .box 1 [.pc tI, .pc (.sl T7), .pc (.sl T2), .pc (.sl T4), .pc tI, .pc tI, .pc tI, .pc tI, .pc tI]]
abbrev vs20x1 : List Pat := [.slot 5 (.pc tI)]
abbrev ps20x1 : List Pat := [.slot 1 (.ptr 1), .box 1 [.pc tI, .pc (.sl T7), .pc (.sl T2), .pc (.sl T4), .pc tI, .pc tI, .pc tI, .pc tI, .pc tI], .slot 5 (.pc tI)]
def j20x1 : (patsTy cs20x1).den → (patsTy vs20x1).den → (patsTy ps20x1).den := fun c v => (c.1, (c.2.1, v))
def sp20x1 : (patsTy ps20x1).den → (patsTy cs20x1).den × (patsTy vs20x1).den := fun x => ((x.1, (x.2.1, ())), x.2.2)
abbrev wy20x1 : Ways := ⟨[(2, [.slot 1 (.ptr 1), .box 1 [.pc tI, .pc (.sl T7), .pc (.sl T2), .pc (.sl T4), .pc tI, .pc tI, .pc tI, .pc tI, .pc tI]])], [.slot 2 (.pc .bool)], []⟩
abbrev wv20x1 : Ways := ⟨[(2, [])], [.slot 2 (.pc .bool)], []⟩
def je20x1 : (id : Nat) → (patsTy cs20x1).den → (patsTy (wayP wv20x1 id)).den → (patsTy (wayP wy20x1 id)).den := fun id => match id with | 2 => fun c y => (c.1, (c.2.1, y)) | id => fun _ _ => (patsTy (wayP wy20x1 id)).dflt
def jr20x1 : (patsTy cs20x1).den → (patsTy (wv20x1).ret).den → (patsTy (wy20x1).ret).den := fun c y => y
def jp20x1 : (patsTy cs20x1).den → (patsTy (wv20x1).pan).den → (patsTy (wy20x1).pan).den := fun c y => y
def Z20x1 {α : Type} (l : RQ vs20x1 wv20x1 → α) (an : α → α → α) (c : (patsTy cs20x1).den) (v : (patsTy vs20x1).den) : α := bif (decide (v.1 < ((c.2.1.2.2.1.n : Nat) : Int))) then bif (decide (((0 : Int) ≤ v.1) ∧ (v.1 < ((c.2.1.2.2.1.n : Nat) : Int)))) then cl (r59).dflt (M59 (c.2.1, ((c.2.1.2.2.1.g (Int.toNat v.1)).1, ()))) (fun u6 => bif (!u6.1) then l (.out (.ret (false, ()))) else cl (r59).dflt (M59 (c.2.1, ((c.2.1.2.2.1.g (Int.toNat v.1)).2.1, ()))) (fun u7 => bif (!u7.1) then l (.out (.ret (false, ()))) else bif (decide ((c.2.1.2.2.1.g (Int.toNat v.1)).1 = (c.2.1.2.2.1.g (Int.toNat v.1)).2.1)) then l (.out (.ret (false, ()))) else cl (r60).dflt (M60 ((c.2.1.2.2.1.g (Int.toNat v.1)).2.2.1, ((1 : Int), ((99999 : Int), ())))) (fun u8 => bif (!u8.1) then l (.out (.ret (false, ()))) else l (.next ((W (v.1 + (1 : Int))), ()))) (l .bad)) (l .bad)) (l .bad) else l .bad else l (.out (.exit 2 ()))
theorem z20x1 (c : (patsTy cs20x1).den) (v : (patsTy vs20x1).den) : roundQ Try.prog E0 G20 0 184 [] ps20x1 wy20x1 b20x1 [] (j20x1 c v) = Z20x1 (fun r => .leaf (r.lift j20x1 je20x1 jr20x1 jp20x1 c)) .any c v := by kernel_rfl
def S20x1 (c : (patsTy cs20x1).den) (v : (patsTy vs20x1).den) : RQ vs20x1 wv20x1 := Z20x1 (fun r => r) (fun _ _ => .bad) c v
theorem s20x1 (c : (patsTy cs20x1).den) (v : (patsTy vs20x1).den) : detQ (roundQ Try.prog E0 G20 0 184 [] ps20x1 wy20x1 b20x1 [] (j20x1 c v)) = (S20x1 c v).lift j20x1 je20x1 jr20x1 jp20x1 c := by rw [z20x1]; unfold S20x1 Z20x1; simp only [detQ_cond, lift_cond, lift_bad, detQ, detQ_cl, detQ_onExit, detQ_onRet, detQ_onPanL, detQ_onNext, detQ_onBrk, detQ_onRetO, detQ_onPan, detQ_onOk, detQ_onGPan, lift_cl, lift_onExit, lift_onRet, lift_onPanL, lift_onNext, lift_onBrk, lift_onRetO, lift_onPan, lift_onOk, lift_onGPan]
def L20x1 (c : (patsTy cs20x1).den) (v : (patsTy vs20x1).den) : LQ wv20x1 := iterQ (S20x1 c) big v
noncomputable def b20x2 : Code := loopBody ((loopsOf (c20))[2]?)
theorem lo20x2 : loopsOf (b20x2) = [] := by kernel_rfl
abbrev cs20x2 : List Pat := [.slot 1 (.ptr 1), .box 1 [.pc tI, .pc (.sl T7), .pc (.sl T2), .pc (.sl T4), .pc tI, .pc tI, .pc tI, .pc tI, .pc tI]]
abbrev vs20x2 : List Pat := [.slot 7 (.pc tI)]
abbrev ps20x2 : List Pat := [.slot 1 (.ptr 1), .box 1 [.pc tI, .pc (.sl T7), .pc (.sl T2), .pc (.sl T4), .pc tI, .pc tI, .pc tI, .pc tI, .pc tI], .slot 7 (.pc tI)]
def j20x2 : (patsTy cs20x2).den → (patsTy vs20x2).den → (patsTy ps20x2).den := fun c v => (c.1, (c.2.1, v))
def sp20x2 : (patsTy ps20x2).den → (patsTy cs20x2).den × (patsTy vs20x2).den := fun x => ((x.1, (x.2.1, ())), x.2.2)
abbrev wy20x2 : Ways := ⟨[(4, [.slot 1 (.ptr 1), .box 1 [.pc tI, .pc (.sl T7), .pc (.sl T2), .pc (.sl T4), .pc tI, .pc tI, .pc tI, .pc tI, .pc tI]])], [.slot 2 (.pc .bool)], []⟩
abbrev wv20x2 : Ways := ⟨[(4, [])], [.slot 2 (.pc .bool)], []⟩
def je20x2 : (id : Nat) → (patsTy cs20x2).den → (patsTy (wayP wv20x2 id)).den → (patsTy (wayP wy20x2 id)).den := fun id => match id with | 4 => fun c y => (c.1, (c.2.1, y)) | id => fun _ _ => (patsTy (wayP wy20x2 id)).dflt
def jr20x2 : (patsTy cs20x2).den → (patsTy (wv20x2).ret).den → (patsTy (wy20x2).ret).den := fun c y => y
def jp20x2 : (patsTy cs20x2).den → (patsTy (wv20x2).pan).den → (patsTy (wy20x2).pan).den := fun c y => y
def Z20x2 {α : Type} (l : RQ vs20x2 wv20x2 → α) (an : α → α → α) (c : (patsTy cs20x2).den) (v : (patsTy vs20x2).den) : α := bif (decide (v.1 < ((c.2.1.2.2.2.1.n : Nat) : Int))) then bif (decide (((0 : Int) ≤ v.1) ∧ (v.1 < ((c.2.1.2.2.2.1.n : Nat) : Int)))) then cl (r61).dflt (M61 (((c.2.1.2.2.2.1.g (Int.toNat v.1)).1, ((c.2.1.2.2.2.1.g (Int.toNat v.1)).2.1, ())), ((2880 : Int), ()))) (fun u9 => bif (!u9.1) then l (.out (.ret (false, ()))) else bif (decide ((300 : Int) < (W ((c.2.1.2.2.2.1.g (Int.toNat v.1)).2.1 - (c.2.1.2.2.2.1.g (Int.toNat v.1)).1)))) then l (.out (.ret (false, ()))) else cl (r60).dflt (M60 ((c.2.1.2.2.2.1.g (Int.toNat v.1)).2.2.1, ((0 : Int), ((50000 : Int), ())))) (fun u10 => bif (!u10.1) then l (.out (.ret (false, ()))) else cl (r60).dflt (M60 ((c.2.1.2.2.2.1.g (Int.toNat v.1)).2.2.2.1, ((0 : Int), ((50000 : Int), ())))) (fun u11 => bif (!u11.1) then l (.out (.ret (false, ()))) else l (.next ((W (v.1 + (1 : Int))), ()))) (l .bad)) (l .bad)) (l .bad) else l .bad else l (.out (.exit 4 ()))
theorem z20x2 (c : (patsTy cs20x2).den) (v : (patsTy vs20x2).den) : roundQ Try.prog E0 G20 0 184 [] ps20x2 wy20x2 b20x2 [] (j20x2 c v) = Z20x2 (fun r => .leaf (r.lift j20x2 je20x2 jr20x2 jp20x2 c)) .any c v := by kernel_rfl
def S20x2 (c : (patsTy cs20x2).den) (v : (patsTy vs20x2).den) : RQ vs20x2 wv20x2 := Z20x2 (fun r => r) (fun _ _ => .bad) c v
theorem s20x2 (c : (patsTy cs20x2).den) (v : (patsTy vs20x2).den) : detQ (roundQ Try.prog E0 G20 0 184 [] ps20x2 wy20x2 b20x2 [] (j20x2 c v)) = (S20x2 c v).lift j20x2 je20x2 jr20x2 jp20x2 c := by rw [z20x2]; unfold S20x2 Z20x2; simp only [detQ_cond, lift_cond, lift_bad, detQ, detQ_cl, detQ_onExit, detQ_onRet, detQ_onPanL, detQ_onNext, detQ_onBrk, detQ_onRetO, detQ_onPan, detQ_onOk, detQ_onGPan, lift_cl, lift_onExit, lift_onRet, lift_onPanL, lift_onNext, lift_onBrk, lift_onRetO, lift_onPan, lift_onOk, lift_onGPan]
def L20x2 (c : (patsTy cs20x2).den) (v : (patsTy vs20x2).den) : LQ wv20x2 := iterQ (S20x2 c) big v
theorem lo20 : loopsOf (c20) = [.loop b20x0, .loop b20x1, .loop b20x2] := by kernel_rfl
noncomputable def l20 : List Loop := [.known (loopZ 0 [] ps20x0 fun x => spreadV wy20x0 je20x0 jr20x0 jp20x0 [] true (sp20x0 x).1 (L20x0 (sp20x0 x).1 (sp20x0 x).2) wy20x0.exits), .known (loopZ 0 [] ps20x1 fun x => spreadV wy20x1 je20x1 jr20x1 jp20x1 [] true (sp20x1 x).1 (L20x1 (sp20x1 x).1 (sp20x1 x).2) wy20x1.exits), .known (loopZ 0 [] ps20x2 fun x => spreadV wy20x2 je20x2 jr20x2 jp20x2 [] true (sp20x2 x).1 (L20x2 (sp20x2 x).1 (sp20x2 x).2) wy20x2.exits)]
def Q20 {α : Type} (l : Option (r20).den → α) (an : α → α → α) (x : (a20).den) : α := onExit (L20x0 ((), (x.1, ())) ((0 : Int), ())) 0 (fun u12 => onExit (L20x1 ((), (x.1, ())) ((0 : Int), ())) 2 (fun u13 => onExit (L20x2 ((), (x.1, ())) ((0 : Int), ())) 4 (fun u14 => cl (r60).dflt (M60 (x.1.1, ((1 : Int), ((6 : Int), ())))) (fun u15 => bif u15.1 then bif (decide (((x.1.2.1.n : Nat) : Int) ≤ (9 : Int))) then bif (decide (((x.1.2.2.1.n : Nat) : Int) ≤ (8 : Int))) then bif (decide (((x.1.2.2.2.1.n : Nat) : Int) ≤ (4 : Int))) then cl (r60).dflt (M60 (x.1.2.2.2.2.1, ((1 : Int), ((99999 : Int), ())))) (fun u16 => bif u16.1 then cl (r60).dflt (M60 (x.1.2.2.2.2.2.1, ((1 : Int), ((2880 : Int), ())))) (fun u17 => bif u17.1 then cl (r60).dflt (M60 (x.1.2.2.2.2.2.2.1, ((1 : Int), ((2880 : Int), ())))) (fun u18 => bif u18.1 then bif (decide ((0 : Int) ≤ x.1.2.2.2.2.2.2.2.1)) then bif (decide (x.1.2.2.2.2.2.2.2.1 ≤ x.1.2.2.2.2.2.2.2.2.1)) then l (some ((decide (x.1.2.2.2.2.2.2.2.2.1 ≤ (1440 : Int))), ())) else l (some (false, ())) else l (some (false, ())) else l (some (false, ()))) (l none) else l (some (false, ()))) (l none) else l (some (false, ()))) (l none) else l (some (false, ())) else l (some (false, ())) else l (some (false, ())) else l (some (false, ()))) (l none)) (onRet (L20x2 ((), (x.1, ())) ((0 : Int), ())) (fun u19 => l (some u19)) (l none))) (onRet (L20x1 ((), (x.1, ())) ((0 : Int), ())) (fun u20 => l (some u20)) (l none))) (onRet (L20x0 ((), (x.1, ())) ((0 : Int), ())) (fun u21 => l (some u21)) (l none))
theorem q20 (x : (a20).den) : runFn Try.prog E0 G20 Try.f20 l20 a20 r20 x = Q20 .leaf .any x := by kernel_rfl
def M20 (x : (a20).den) : Option (r20).den := Q20 (fun r => r) (fun _ _ => none) x
theorem m20 (x : (a20).den) : (runFn Try.prog E0 G20 Try.f20 l20 a20 r20 x).sure = M20 x := by rw [q20]; unfold M20 Q20; simp only [sure_cond, Tree.sure, sure_cl, sure_onExit, sure_onRet, sure_onPanL, sure_onNext, sure_onBrk, sure_onRetO, sure_onPan, sure_onOk, sure_onGPan]
def p20 (x : (a20).den) : Bool := (M20 x).isSome
def v20 (x : (a20).den) : (r20).den := (M20 x).getD (r20).dflt
def k20 : Con := ⟨a20, r20, p20, v20⟩
theorem h20 : Holds Try.prog 20 k20 := holds_of_M' (E := E0) follows_ok g20 eqTy_sound keyTy_sound at20 bd20 (by kernel_rfl) m20 fun G' hlo hF hE => LsOK_kn (by rw [lo20]; exact .cons (loopV_ok hE hF hlo (LsOK_kn (by rw [lo20x0]; exact .nil)) (by kernel_rfl) (by kernel_rfl) sp20x0 (fun _ => rfl) (fun _ _ => rfl) (s20x0) big) (.cons (loopV_ok hE hF hlo (LsOK_kn (by rw [lo20x1]; exact .nil)) (by kernel_rfl) (by kernel_rfl) sp20x1 (fun _ => rfl) (fun _ _ => rfl) (s20x1) big) (.cons (loopV_ok hE hF hlo (LsOK_kn (by rw [lo20x2]; exact .nil)) (by kernel_rfl) (by kernel_rfl) sp20x2 (fun _ => rfl) (fun _ _ => rfl) (s20x2) big) (.nil))))
/-- isobar/isobarref05.Delays -/
noncomputable def c21 : Code := Try.f21.body.getD .skip
theorem at21 : Try.prog.funcs[21]? = some Try.f21 := by kernel_rfl
theorem bd21 : Try.f21.body = some c21 := by kernel_rfl
theorem cl21 : Callable Try.prog 21 := callable_of at21 (by kernel_rfl) (by kernel_rfl)
abbrev a21 : Ty := T43
abbrev r21 : Ty := T3
noncomputable def G21 : Ctx := Ctx.of [(60, .pure k60)]
theorem g21 : Sound Try.prog (G21) := sound_of (List.forall_mem_cons.2 ⟨⟨cl60, h60⟩, fun _ h => by cases h⟩)
noncomputable def b21x0 : Code := loopBody ((loopsOf (c21))[0]?)
theorem lo21x0 : loopsOf (b21x0) = [] := by kernel_rfl
abbrev cs21x0 : List Pat := [.slot 1 (.pc (.sl T0)), .slot 2 (.ptr 2), .box 2 [.pc tI, .pc (.sl T7), .pc (.sl T2), .pc (.sl T4), .pc tI, .pc tI, .pc tI, .pc tI, .pc tI]]
abbrev vs21x0 : List Pat := [.slot 5 (.pc tI)]
abbrev ps21x0 : List Pat := [.slot 1 (.pc (.sl T0)), .slot 2 (.ptr 2), .box 2 [.pc tI, .pc (.sl T7), .pc (.sl T2), .pc (.sl T4), .pc tI, .pc tI, .pc tI, .pc tI, .pc tI], .slot 5 (.pc tI)]
def j21x0 : (patsTy cs21x0).den → (patsTy vs21x0).den → (patsTy ps21x0).den := fun c v => (c.1, (c.2.1, (c.2.2.1, v)))
def sp21x0 : (patsTy ps21x0).den → (patsTy cs21x0).den × (patsTy vs21x0).den := fun x => ((x.1, (x.2.1, (x.2.2.1, ()))), x.2.2.2)
abbrev wy21x0 : Ways := ⟨[(0, [.slot 1 (.pc (.sl T0)), .slot 2 (.ptr 2), .box 2 [.pc tI, .pc (.sl T7), .pc (.sl T2), .pc (.sl T4), .pc tI, .pc tI, .pc tI, .pc tI, .pc tI]])], [.slot 4 (.pc .bool)], []⟩
abbrev wv21x0 : Ways := ⟨[(0, [])], [.slot 4 (.pc .bool)], []⟩
def je21x0 : (id : Nat) → (patsTy cs21x0).den → (patsTy (wayP wv21x0 id)).den → (patsTy (wayP wy21x0 id)).den := fun id => match id with | 0 => fun c y => (c.1, (c.2.1, (c.2.2.1, y))) | id => fun _ _ => (patsTy (wayP wy21x0 id)).dflt
def jr21x0 : (patsTy cs21x0).den → (patsTy (wv21x0).ret).den → (patsTy (wy21x0).ret).den := fun c y => y
def jp21x0 : (patsTy cs21x0).den → (patsTy (wv21x0).pan).den → (patsTy (wy21x0).pan).den := fun c y => y
def Z21x0 {α : Type} (l : RQ vs21x0 wv21x0 → α) (an : α → α → α) (c : (patsTy cs21x0).den) (v : (patsTy vs21x0).den) : α := bif (decide (v.1 < ((c.1.n : Nat) : Int))) then bif (decide (v.1 < ((c.2.2.1.2.1.n : Nat) : Int))) then bif (decide (((0 : Int) ≤ v.1) ∧ (v.1 < ((c.1.n : Nat) : Int)))) then bif (decide (((0 : Int) ≤ v.1) ∧ (v.1 < ((c.2.2.1.2.1.n : Nat) : Int)))) then bif (decide (((0 : Int) ≤ v.1) ∧ (v.1 < ((c.2.2.1.2.1.n : Nat) : Int)))) then cl (r60).dflt (M60 ((c.1.g (Int.toNat v.1)).1, ((c.2.2.1.2.1.g (Int.toNat v.1)).2.2.2.1, ((c.2.2.1.2.1.g (Int.toNat v.1)).2.2.2.2.1, ())))) (fun u0 => bif (!u0.1) then l (.out (.ret (false, ()))) else l (.next ((W (v.1 + (1 : Int))), ()))) (l .bad) else l .bad else l .bad else l .bad else l (.out (.exit 0 ())) else l (.out (.exit 0 ()))
theorem z21x0 (c : (patsTy cs21x0).den) (v : (patsTy vs21x0).den) : roundQ Try.prog E0 G21 0 45 [] ps21x0 wy21x0 b21x0 [] (j21x0 c v) = Z21x0 (fun r => .leaf (r.lift j21x0 je21x0 jr21x0 jp21x0 c)) .any c v := by kernel_rfl
def S21x0 (c : (patsTy cs21x0).den) (v : (patsTy vs21x0).den) : RQ vs21x0 wv21x0 := Z21x0 (fun r => r) (fun _ _ => .bad) c v
theorem s21x0 (c : (patsTy cs21x0).den) (v : (patsTy vs21x0).den) : detQ (roundQ Try.prog E0 G21 0 45 [] ps21x0 wy21x0 b21x0 [] (j21x0 c v)) = (S21x0 c v).lift j21x0 je21x0 jr21x0 jp21x0 c := by rw [z21x0]; unfold S21x0 Z21x0; simp only [detQ_cond, lift_cond, lift_bad, detQ, detQ_cl, detQ_onExit, detQ_onRet, detQ_onPanL, detQ_onNext, detQ_onBrk, detQ_onRetO, detQ_onPan, detQ_onOk, detQ_onGPan, lift_cl, lift_onExit, lift_onRet, lift_onPanL, lift_onNext, lift_onBrk, lift_onRetO, lift_onPan, lift_onOk, lift_onGPan]
def L21x0 (c : (patsTy cs21x0).den) (v : (patsTy vs21x0).den) : LQ wv21x0 := iterQ (S21x0 c) big v
theorem lo21 : loopsOf (c21) = [.loop b21x0] := by kernel_rfl
noncomputable def l21 : List Loop := [.known (loopZ 0 [] ps21x0 fun x => spreadV wy21x0 je21x0 jr21x0 jp21x0 [] true (sp21x0 x).1 (L21x0 (sp21x0 x).1 (sp21x0 x).2) wy21x0.exits)]
def Q21 {α : Type} (l : Option (r21).den → α) (an : α → α → α) (x : (a21).den) : α := onExit (L21x0 (x.2.1, ((), (x.1, ()))) ((0 : Int), ())) 0 (fun u1 => l (some ((decide (((x.2.1.n : Nat) : Int) = ((x.1.2.1.n : Nat) : Int))), ()))) (onRet (L21x0 (x.2.1, ((), (x.1, ()))) ((0 : Int), ())) (fun u2 => l (some u2)) (l none))
theorem q21 (x : (a21).den) : runFn Try.prog E0 G21 Try.f21 l21 a21 r21 x = Q21 .leaf .any x := by kernel_rfl
def M21 (x : (a21).den) : Option (r21).den := Q21 (fun r => r) (fun _ _ => none) x
theorem m21 (x : (a21).den) : (runFn Try.prog E0 G21 Try.f21 l21 a21 r21 x).sure = M21 x := by rw [q21]; unfold M21 Q21; simp only [sure_cond, Tree.sure, sure_cl, sure_onExit, sure_onRet, sure_onPanL, sure_onNext, sure_onBrk, sure_onRetO, sure_onPan, sure_onOk, sure_onGPan]
def p21 (x : (a21).den) : Bool := (M21 x).isSome
def v21 (x : (a21).den) : (r21).den := (M21 x).getD (r21).dflt
def k21 : Con := ⟨a21, r21, p21, v21⟩
theorem h21 : Holds Try.prog 21 k21 := holds_of_M' (E := E0) follows_ok g21 eqTy_sound keyTy_sound at21 bd21 (by kernel_rfl) m21 fun G' hlo hF hE => LsOK_kn (by rw [lo21]; exact .cons (loopV_ok hE hF hlo (LsOK_kn (by rw [lo21x0]; exact .nil)) (by kernel_rfl) (by kernel_rfl) sp21x0 (fun _ => rfl) (fun _ _ => rfl) (s21x0) big) (.nil))
/-- isobar/isobarref05.far -/
noncomputable def c101 : Code := Try.f101.body.getD .skip
theorem at101 : Try.prog.funcs[101]? = some Try.f101 := by kernel_rfl
theorem bd101 : Try.f101.body = some c101 := by kernel_rfl
theorem cl101 : Callable Try.prog 101 := callable_of at101 (by kernel_rfl) (by kernel_rfl)
abbrev a101 : Ty := T1
abbrev r101 : Ty := T0
noncomputable def G101 : Ctx := Ctx.of []
theorem g101 : Sound Try.prog (G101) := sound_of (fun _ h => by cases h)
theorem lo101 : loopsOf (c101) = [] := by kernel_rfl
noncomputable def l101 : List Loop := []
def Q101 {α : Type} (l : Option (r101).den → α) (an : α → α → α) (x : (a101).den) : α := l (some ((mx (W (x.1 - x.2.1)) (W (x.2.1 - x.1))), ()))
theorem q101 (x : (a101).den) : runFn Try.prog E0 G101 Try.f101 l101 a101 r101 x = Q101 .leaf .any x := by kernel_rfl
def M101 (x : (a101).den) : Option (r101).den := Q101 (fun r => r) (fun _ _ => none) x
theorem m101 (x : (a101).den) : (runFn Try.prog E0 G101 Try.f101 l101 a101 r101 x).sure = M101 x := by rw [q101]; unfold M101 Q101; simp only [sure_cond, Tree.sure, sure_cl, sure_onExit, sure_onRet, sure_onPanL, sure_onNext, sure_onBrk, sure_onRetO, sure_onPan, sure_onOk, sure_onGPan]
def p101 (x : (a101).den) : Bool := (M101 x).isSome
def v101 (x : (a101).den) : (r101).den := (M101 x).getD (r101).dflt
def k101 : Con := ⟨a101, r101, p101, v101⟩
theorem h101 : Holds Try.prog 101 k101 := holds_of_M' (E := E0) follows_ok g101 eqTy_sound keyTy_sound at101 bd101 (by kernel_rfl) m101 fun G' hlo hF hE => LsOK_kn (by rw [lo101]; exact .nil)
/-- isobar/isobarref05.Alarm -/
noncomputable def c70 : Code := Try.f70.body.getD .skip
theorem at70 : Try.prog.funcs[70]? = some Try.f70 := by kernel_rfl
theorem bd70 : Try.f70.body = some c70 := by kernel_rfl
theorem cl70 : Callable Try.prog 70 := callable_of at70 (by kernel_rfl) (by kernel_rfl)
abbrev a70 : Ty := T91
abbrev r70 : Ty := T3
noncomputable def G70 : Ctx := Ctx.of [(101, .pure k101)]
theorem g70 : Sound Try.prog (G70) := sound_of (List.forall_mem_cons.2 ⟨⟨cl101, h101⟩, fun _ h => by cases h⟩)
noncomputable def b70x0 : Code := loopBody ((loopsOf (c70))[0]?)
theorem lo70x0 : loopsOf (b70x0) = [] := by kernel_rfl
abbrev cs70x0 : List Pat := [.slot 3 (.ptr 3), .slot 7 (.ptr 121), .slot 8 (.ptr 122), .box 3 [.pc tI, .pc (.sl T7), .pc (.sl T2), .pc (.sl T4), .pc tI, .pc tI, .pc tI, .pc tI, .pc tI], .box 121 [.pc tI, .pc tI, .pc tI, .pc tI, .pc tI, .pc tI, .pc tI], .box 122 [.pc tI, .pc tI, .pc tI, .pc tI, .pc tI, .pc tI, .pc tI]]
abbrev vs70x0 : List Pat := [.slot 9 (.pc tI)]
abbrev ps70x0 : List Pat := [.slot 3 (.ptr 3), .slot 7 (.ptr 121), .slot 8 (.ptr 122), .box 3 [.pc tI, .pc (.sl T7), .pc (.sl T2), .pc (.sl T4), .pc tI, .pc tI, .pc tI, .pc tI, .pc tI], .box 121 [.pc tI, .pc tI, .pc tI, .pc tI, .pc tI, .pc tI, .pc tI], .box 122 [.pc tI, .pc tI, .pc tI, .pc tI, .pc tI, .pc tI, .pc tI], .slot 9 (.pc tI)]
def j70x0 : (patsTy cs70x0).den → (patsTy vs70x0).den → (patsTy ps70x0).den := fun c v => (c.1, (c.2.1, (c.2.2.1, (c.2.2.2.1, (c.2.2.2.2.1, (c.2.2.2.2.2.1, v))))))
def sp70x0 : (patsTy ps70x0).den → (patsTy cs70x0).den × (patsTy vs70x0).den := fun x => ((x.1, (x.2.1, (x.2.2.1, (x.2.2.2.1, (x.2.2.2.2.1, (x.2.2.2.2.2.1, ())))))), x.2.2.2.2.2.2)
abbrev wy70x0 : Ways := ⟨[(0, [])], [.slot 6 (.pc .bool)], []⟩
abbrev wv70x0 : Ways := ⟨[(0, [])], [.slot 6 (.pc .bool)], []⟩
def je70x0 : (id : Nat) → (patsTy cs70x0).den → (patsTy (wayP wv70x0 id)).den → (patsTy (wayP wy70x0 id)).den := fun id => match id with | 0 => fun c y => y | id => fun _ _ => (patsTy (wayP wy70x0 id)).dflt
def jr70x0 : (patsTy cs70x0).den → (patsTy (wv70x0).ret).den → (patsTy (wy70x0).ret).den := fun c y => y
def jp70x0 : (patsTy cs70x0).den → (patsTy (wv70x0).pan).den → (patsTy (wy70x0).pan).den := fun c y => y
def Z70x0 {α : Type} (l : RQ vs70x0 wv70x0 → α) (an : α → α → α) (c : (patsTy cs70x0).den) (v : (patsTy vs70x0).den) : α := bif (decide (v.1 < ((c.2.2.2.1.2.2.1.n : Nat) : Int))) then bif (decide (((0 : Int) ≤ v.1) ∧ (v.1 < ((c.2.2.2.1.2.2.1.n : Nat) : Int)))) then bif (decide ((c.2.2.2.1.2.2.1.g (Int.toNat v.1)).1 = c.2.2.2.2.1.1)) then bif (decide ((c.2.2.2.1.2.2.1.g (Int.toNat v.1)).2.1 = c.2.2.2.2.2.1.1)) then cl (r101).dflt (M101 (c.2.2.2.2.1.2.2.1, (c.2.2.2.2.2.1.2.2.1, ()))) (fun u0 => bif (decide ((c.2.2.2.1.2.2.1.g (Int.toNat v.1)).2.2.1 ≤ u0.1)) then l (.out (.ret (true, ()))) else l (.next ((W (v.1 + (1 : Int))), ()))) (l .bad) else bif (decide ((c.2.2.2.1.2.2.1.g (Int.toNat v.1)).1 = c.2.2.2.2.2.1.1)) then bif (decide ((c.2.2.2.1.2.2.1.g (Int.toNat v.1)).2.1 = c.2.2.2.2.1.1)) then cl (r101).dflt (M101 (c.2.2.2.2.1.2.2.1, (c.2.2.2.2.2.1.2.2.1, ()))) (fun u1 => bif (decide ((c.2.2.2.1.2.2.1.g (Int.toNat v.1)).2.2.1 ≤ u1.1)) then l (.out (.ret (true, ()))) else l (.next ((W (v.1 + (1 : Int))), ()))) (l .bad) else l (.next ((W (v.1 + (1 : Int))), ())) else l (.next ((W (v.1 + (1 : Int))), ())) else bif (decide ((c.2.2.2.1.2.2.1.g (Int.toNat v.1)).1 = c.2.2.2.2.2.1.1)) then bif (decide ((c.2.2.2.1.2.2.1.g (Int.toNat v.1)).2.1 = c.2.2.2.2.1.1)) then cl (r101).dflt (M101 (c.2.2.2.2.1.2.2.1, (c.2.2.2.2.2.1.2.2.1, ()))) (fun u2 => bif (decide ((c.2.2.2.1.2.2.1.g (Int.toNat v.1)).2.2.1 ≤ u2.1)) then l (.out (.ret (true, ()))) else l (.next ((W (v.1 + (1 : Int))), ()))) (l .bad) else l (.next ((W (v.1 + (1 : Int))), ())) else l (.next ((W (v.1 + (1 : Int))), ())) else l .bad else l (.out (.exit 0 ()))
theorem z70x0 (c : (patsTy cs70x0).den) (v : (patsTy vs70x0).den) : roundQ Try.prog E0 G70 0 114 [] ps70x0 wy70x0 b70x0 [] (j70x0 c v) = Z70x0 (fun r => .leaf (r.lift j70x0 je70x0 jr70x0 jp70x0 c)) .any c v := by kernel_rfl
def S70x0 (c : (patsTy cs70x0).den) (v : (patsTy vs70x0).den) : RQ vs70x0 wv70x0 := Z70x0 (fun r => r) (fun _ _ => .bad) c v
theorem s70x0 (c : (patsTy cs70x0).den) (v : (patsTy vs70x0).den) : detQ (roundQ Try.prog E0 G70 0 114 [] ps70x0 wy70x0 b70x0 [] (j70x0 c v)) = (S70x0 c v).lift j70x0 je70x0 jr70x0 jp70x0 c := by rw [z70x0]; unfold S70x0 Z70x0; simp only [detQ_cond, lift_cond, lift_bad, detQ, detQ_cl, detQ_onExit, detQ_onRet, detQ_onPanL, detQ_onNext, detQ_onBrk, detQ_onRetO, detQ_onPan, detQ_onOk, detQ_onGPan, lift_cl, lift_onExit, lift_onRet, lift_onPanL, lift_onNext, lift_onBrk, lift_onRetO, lift_onPan, lift_onOk, lift_onGPan]
def L70x0 (c : (patsTy cs70x0).den) (v : (patsTy vs70x0).den) : LQ wv70x0 := iterQ (S70x0 c) big v
theorem lo70 : loopsOf (c70) = [.loop b70x0] := by kernel_rfl
noncomputable def l70 : List Loop := [.known (loopZ 0 [] ps70x0 fun x => spreadV wy70x0 je70x0 jr70x0 jp70x0 [] true (sp70x0 x).1 (L70x0 (sp70x0 x).1 (sp70x0 x).2) wy70x0.exits)]
def Q70 {α : Type} (l : Option (r70).den → α) (an : α → α → α) (x : (a70).den) : α := bif (decide (((0 : Int) ≤ x.2.1) ∧ (x.2.1 < ((x.1.2.1.n : Nat) : Int)))) then bif (decide (((0 : Int) ≤ x.2.2.1) ∧ (x.2.2.1 < ((x.1.2.1.n : Nat) : Int)))) then cl (r101).dflt (M101 ((x.1.2.1.g (Int.toNat x.2.1)).2.1, ((x.1.2.1.g (Int.toNat x.2.2.1)).2.1, ()))) (fun u3 => bif (decide (x.1.2.2.2.2.2.1 < u3.1)) then l (some (false, ())) else bif (decide ((x.1.2.1.g (Int.toNat x.2.1)).1 = (x.1.2.1.g (Int.toNat x.2.2.1)).1)) then bif (decide ((x.1.2.1.g (Int.toNat x.2.1)).2.1 < (x.1.2.1.g (Int.toNat x.2.2.1)).2.1)) then bif (decide (x.1.2.2.2.2.1 ≤ (W ((x.1.2.1.g (Int.toNat x.2.1)).2.2.1 - (x.1.2.1.g (Int.toNat x.2.2.1)).2.2.1)))) then l (some (true, ())) else bif (decide ((x.1.2.1.g (Int.toNat x.2.2.1)).2.1 < (x.1.2.1.g (Int.toNat x.2.1)).2.1)) then l (some ((decide (x.1.2.2.2.2.1 ≤ (W ((x.1.2.1.g (Int.toNat x.2.2.1)).2.2.1 - (x.1.2.1.g (Int.toNat x.2.1)).2.2.1)))), ())) else l (some (false, ())) else bif (decide ((x.1.2.1.g (Int.toNat x.2.2.1)).2.1 < (x.1.2.1.g (Int.toNat x.2.1)).2.1)) then l (some ((decide (x.1.2.2.2.2.1 ≤ (W ((x.1.2.1.g (Int.toNat x.2.2.1)).2.2.1 - (x.1.2.1.g (Int.toNat x.2.1)).2.2.1)))), ())) else l (some (false, ())) else onExit (L70x0 ((), ((), ((), (x.1, ((x.1.2.1.g (Int.toNat x.2.1)), ((x.1.2.1.g (Int.toNat x.2.2.1)), ())))))) ((0 : Int), ())) 0 (fun u4 => l (some (false, ()))) (onRet (L70x0 ((), ((), ((), (x.1, ((x.1.2.1.g (Int.toNat x.2.1)), ((x.1.2.1.g (Int.toNat x.2.2.1)), ())))))) ((0 : Int), ())) (fun u5 => l (some u5)) (l none))) (l none) else l none else l none
theorem q70 (x : (a70).den) : runFn Try.prog E0 G70 Try.f70 l70 a70 r70 x = Q70 .leaf .any x := by kernel_rfl
def M70 (x : (a70).den) : Option (r70).den := Q70 (fun r => r) (fun _ _ => none) x
theorem m70 (x : (a70).den) : (runFn Try.prog E0 G70 Try.f70 l70 a70 r70 x).sure = M70 x := by rw [q70]; unfold M70 Q70; simp only [sure_cond, Tree.sure, sure_cl, sure_onExit, sure_onRet, sure_onPanL, sure_onNext, sure_onBrk, sure_onRetO, sure_onPan, sure_onOk, sure_onGPan]
def p70 (x : (a70).den) : Bool := (M70 x).isSome
def v70 (x : (a70).den) : (r70).den := (M70 x).getD (r70).dflt
def k70 : Con := ⟨a70, r70, p70, v70⟩
theorem h70 : Holds Try.prog 70 k70 := holds_of_M' (E := E0) follows_ok g70 eqTy_sound keyTy_sound at70 bd70 (by kernel_rfl) m70 fun G' hlo hF hE => LsOK_kn (by rw [lo70]; exact .cons (loopV_ok hE hF hlo (LsOK_kn (by rw [lo70x0]; exact .nil)) (by kernel_rfl) (by kernel_rfl) sp70x0 (fun _ => rfl) (fun _ _ => rfl) (s70x0) big) (.nil))
/-- isobar/isobarref05.Alarms -/
noncomputable def c37 : Code := Try.f37.body.getD .skip
theorem at37 : Try.prog.funcs[37]? = some Try.f37 := by kernel_rfl
theorem bd37 : Try.f37.body = some c37 := by kernel_rfl
theorem cl37 : Callable Try.prog 37 := callable_of at37 (by kernel_rfl) (by kernel_rfl)
abbrev a37 : Ty := T36
abbrev r37 : Ty := T95
noncomputable def G37 : Ctx := Ctx.of [(70, .pure k70)]
theorem g37 : Sound Try.prog (G37) := sound_of (List.forall_mem_cons.2 ⟨⟨cl70, h70⟩, fun _ h => by cases h⟩)
noncomputable def b37x0 : Code := loopBody ((loopsOf (c37))[0]?)
noncomputable def b37x0x0 : Code := loopBody ((loopsOf (b37x0))[0]?)
theorem lo37x0x0 : loopsOf (b37x0x0) = [] := by kernel_rfl
abbrev cs37x0x0 : List Pat := [.slot 1 (.ptr 1), .slot 4 (.pc tI), .box 1 [.pc tI, .pc (.sl T7), .pc (.sl T2), .pc (.sl T4), .pc tI, .pc tI, .pc tI, .pc tI, .pc tI]]
abbrev vs37x0x0 : List Pat := [.slot 3 (.own 1000003 86 T1), .slot 5 (.pc tI)]
abbrev ps37x0x0 : List Pat := [.slot 1 (.ptr 1), .slot 4 (.pc tI), .box 1 [.pc tI, .pc (.sl T7), .pc (.sl T2), .pc (.sl T4), .pc tI, .pc tI, .pc tI, .pc tI, .pc tI], .slot 3 (.own 1000003 86 T1), .slot 5 (.pc tI)]
def j37x0x0 : (patsTy cs37x0x0).den → (patsTy vs37x0x0).den → (patsTy ps37x0x0).den := fun c v => (c.1, (c.2.1, (c.2.2.1, v)))
def sp37x0x0 : (patsTy ps37x0x0).den → (patsTy cs37x0x0).den × (patsTy vs37x0x0).den := fun x => ((x.1, (x.2.1, (x.2.2.1, ()))), x.2.2.2)
abbrev wy37x0x0 : Ways := ⟨[(2, [.slot 1 (.ptr 1), .slot 4 (.pc tI), .box 1 [.pc tI, .pc (.sl T7), .pc (.sl T2), .pc (.sl T4), .pc tI, .pc tI, .pc tI, .pc tI, .pc tI], .slot 3 (.own 1000003 86 T1)])], [], []⟩
abbrev wv37x0x0 : Ways := ⟨[(2, [.slot 3 (.own 1000003 86 T1)])], [], []⟩
def je37x0x0 : (id : Nat) → (patsTy cs37x0x0).den → (patsTy (wayP wv37x0x0 id)).den → (patsTy (wayP wy37x0x0 id)).den := fun id => match id with | 2 => fun c y => (c.1, (c.2.1, (c.2.2.1, y))) | id => fun _ _ => (patsTy (wayP wy37x0x0 id)).dflt
def jr37x0x0 : (patsTy cs37x0x0).den → (patsTy (wv37x0x0).ret).den → (patsTy (wy37x0x0).ret).den := fun c y => y
def jp37x0x0 : (patsTy cs37x0x0).den → (patsTy (wv37x0x0).pan).den → (patsTy (wy37x0x0).pan).den := fun c y => y
def Z37x0x0 {α : Type} (l : RQ vs37x0x0 wv37x0x0 → α) (an : α → α → α) (c : (patsTy cs37x0x0).den) (v : (patsTy vs37x0x0).den) : α := bif (decide (v.2.1 < ((c.2.2.1.2.1.n : Nat) : Int))) then cl (r70).dflt (M70 (c.2.2.1, (c.2.1, v.2))) (fun u0 => bif u0.1 then bif (decide (((v.1.n + 1) * 16) ≤ 140737488355328)) then l (.next ((catSl v.1 (⟨1, fun i => List.getD [(c.2.1, v.2)] i (c.2.1, v.2)⟩ : Sl (Ty.den T1))), ((W (v.2.1 + (1 : Int))), ()))) else l .bad else l (.next (v.1, ((W (v.2.1 + (1 : Int))), ())))) (l .bad) else l (.out (.exit 2 (v.1, ())))
theorem z37x0x0 (c : (patsTy cs37x0x0).den) (v : (patsTy vs37x0x0).den) : roundQ Try.prog E0 G37 0 33 [] ps37x0x0 wy37x0x0 b37x0x0 [] (j37x0x0 c v) = Z37x0x0 (fun r => .leaf (r.lift j37x0x0 je37x0x0 jr37x0x0 jp37x0x0 c)) .any c v := by kernel_rfl
def S37x0x0 (c : (patsTy cs37x0x0).den) (v : (patsTy vs37x0x0).den) : RQ vs37x0x0 wv37x0x0 := Z37x0x0 (fun r => r) (fun _ _ => .bad) c v
theorem s37x0x0 (c : (patsTy cs37x0x0).den) (v : (patsTy vs37x0x0).den) : detQ (roundQ Try.prog E0 G37 0 33 [] ps37x0x0 wy37x0x0 b37x0x0 [] (j37x0x0 c v)) = (S37x0x0 c v).lift j37x0x0 je37x0x0 jr37x0x0 jp37x0x0 c := by rw [z37x0x0]; unfold S37x0x0 Z37x0x0; simp only [detQ_cond, lift_cond, lift_bad, detQ, detQ_cl, detQ_onExit, detQ_onRet, detQ_onPanL, detQ_onNext, detQ_onBrk, detQ_onRetO, detQ_onPan, detQ_onOk, detQ_onGPan, lift_cl, lift_onExit, lift_onRet, lift_onPanL, lift_onNext, lift_onBrk, lift_onRetO, lift_onPan, lift_onOk, lift_onGPan]
def L37x0x0 (c : (patsTy cs37x0x0).den) (v : (patsTy vs37x0x0).den) : LQ wv37x0x0 := iterQ (S37x0x0 c) big v
theorem lo37x0 : loopsOf (b37x0) = [.loop b37x0x0] := by kernel_rfl
abbrev cs37x0 : List Pat := [.slot 1 (.ptr 1), .box 1 [.pc tI, .pc (.sl T7), .pc (.sl T2), .pc (.sl T4), .pc tI, .pc tI, .pc tI, .pc tI, .pc tI]]
abbrev vs37x0 : List Pat := [.slot 3 (.own 1000003 86 T1), .slot 4 (.pc tI)]
abbrev ps37x0 : List Pat := [.slot 1 (.ptr 1), .box 1 [.pc tI, .pc (.sl T7), .pc (.sl T2), .pc (.sl T4), .pc tI, .pc tI, .pc tI, .pc tI, .pc tI], .slot 3 (.own 1000003 86 T1), .slot 4 (.pc tI)]
def j37x0 : (patsTy cs37x0).den → (patsTy vs37x0).den → (patsTy ps37x0).den := fun c v => (c.1, (c.2.1, v))
def sp37x0 : (patsTy ps37x0).den → (patsTy cs37x0).den × (patsTy vs37x0).den := fun x => ((x.1, (x.2.1, ())), x.2.2)
abbrev wy37x0 : Ways := ⟨[(0, [.slot 3 (.pc (.sl T1))])], [], []⟩
abbrev wv37x0 : Ways := ⟨[(0, [.slot 3 (.pc (.sl T1))])], [], []⟩
def je37x0 : (id : Nat) → (patsTy cs37x0).den → (patsTy (wayP wv37x0 id)).den → (patsTy (wayP wy37x0 id)).den := fun id => match id with | 0 => fun c y => y | id => fun _ _ => (patsTy (wayP wy37x0 id)).dflt
def jr37x0 : (patsTy cs37x0).den → (patsTy (wv37x0).ret).den → (patsTy (wy37x0).ret).den := fun c y => y
def jp37x0 : (patsTy cs37x0).den → (patsTy (wv37x0).pan).den → (patsTy (wy37x0).pan).den := fun c y => y
def Z37x0 {α : Type} (l : RQ vs37x0 wv37x0 → α) (an : α → α → α) (c : (patsTy cs37x0).den) (v : (patsTy vs37x0).den) : α := bif (decide (v.2.1 < ((c.2.1.2.1.n : Nat) : Int))) then onExit (L37x0x0 ((), (v.2.1, (c.2.1, ()))) (v.1, ((W (v.2.1 + (1 : Int))), ()))) 2 (fun u1 => l (.next (u1.1, ((W (v.2.1 + (1 : Int))), ())))) (l .bad) else l (.out (.exit 0 (v.1, ())))
theorem z37x0 (c : (patsTy cs37x0).den) (v : (patsTy vs37x0).den) : roundQ Try.prog E0 G37 0 33 [] ps37x0 wy37x0 b37x0 [.known (loopZ 0 [] ps37x0x0 fun x => spreadV wy37x0x0 je37x0x0 jr37x0x0 jp37x0x0 [] false (sp37x0x0 x).1 (L37x0x0 (sp37x0x0 x).1 (sp37x0x0 x).2) wy37x0x0.exits)] (j37x0 c v) = Z37x0 (fun r => .leaf (r.lift j37x0 je37x0 jr37x0 jp37x0 c)) .any c v := by kernel_rfl
def S37x0 (c : (patsTy cs37x0).den) (v : (patsTy vs37x0).den) : RQ vs37x0 wv37x0 := Z37x0 (fun r => r) (fun _ _ => .bad) c v
theorem s37x0 (c : (patsTy cs37x0).den) (v : (patsTy vs37x0).den) : detQ (roundQ Try.prog E0 G37 0 33 [] ps37x0 wy37x0 b37x0 [.known (loopZ 0 [] ps37x0x0 fun x => spreadV wy37x0x0 je37x0x0 jr37x0x0 jp37x0x0 [] false (sp37x0x0 x).1 (L37x0x0 (sp37x0x0 x).1 (sp37x0x0 x).2) wy37x0x0.exits)] (j37x0 c v)) = (S37x0 c v).lift j37x0 je37x0 jr37x0 jp37x0 c := by rw [z37x0]; unfold S37x0 Z37x0; simp only [detQ_cond, lift_cond, lift_bad, detQ, detQ_cl, detQ_onExit, detQ_onRet, detQ_onPanL, detQ_onNext, detQ_onBrk, detQ_onRetO, detQ_onPan, detQ_onOk, detQ_onGPan, lift_cl, lift_onExit, lift_onRet, lift_onPanL, lift_onNext, lift_onBrk, lift_onRetO, lift_onPan, lift_onOk, lift_onGPan]
def L37x0 (c : (patsTy cs37x0).den) (v : (patsTy vs37x0).den) : LQ wv37x0 := iterQ (S37x0 c) big v
theorem lo37 : loopsOf (c37) = [.loop b37x0] := by kernel_rfl
noncomputable def l37 : List Loop := [.known (loopZ 0 [] ps37x0 fun x => spreadV wy37x0 je37x0 jr37x0 jp37x0 [] false (sp37x0 x).1 (L37x0 (sp37x0 x).1 (sp37x0 x).2) wy37x0.exits)]
def Q37 {α : Type} (l : Option (r37).den → α) (an : α → α → α) (x : (a37).den) : α := onExit (L37x0 ((), (x.1, ())) ((⟨0, fun i => ((0 : Int), ((0 : Int), ()))⟩ : Sl _), ((0 : Int), ()))) 0 (fun u2 => l (some u2)) (l none)
theorem q37 (x : (a37).den) : runFn Try.prog E0 G37 Try.f37 l37 a37 r37 x = Q37 .leaf .any x := by kernel_rfl
def M37 (x : (a37).den) : Option (r37).den := Q37 (fun r => r) (fun _ _ => none) x
theorem m37 (x : (a37).den) : (runFn Try.prog E0 G37 Try.f37 l37 a37 r37 x).sure = M37 x := by rw [q37]; unfold M37 Q37; simp only [sure_cond, Tree.sure, sure_cl, sure_onExit, sure_onRet, sure_onPanL, sure_onNext, sure_onBrk, sure_onRetO, sure_onPan, sure_onOk, sure_onGPan]
def p37 (x : (a37).den) : Bool := (M37 x).isSome
def v37 (x : (a37).den) : (r37).den := (M37 x).getD (r37).dflt
def k37 : Con := ⟨a37, r37, p37, v37⟩
theorem h37 : Holds Try.prog 37 k37 := holds_of_M' (E := E0) follows_ok g37 eqTy_sound keyTy_sound at37 bd37 (by kernel_rfl) m37 fun G' hlo hF hE => LsOK_kn (by rw [lo37]; exact .cons (loopV_ok hE hF hlo (LsOK_kn (by rw [lo37x0]; exact .cons (loopV_ok hE hF hlo (LsOK_kn (by rw [lo37x0x0]; exact .nil)) (by kernel_rfl) (by kernel_rfl) sp37x0x0 (fun _ => rfl) (fun _ _ => rfl) (s37x0x0) big) (.nil))) (by kernel_rfl) (by kernel_rfl) sp37x0 (fun _ => rfl) (fun _ _ => rfl) (s37x0) big) (.nil))
/-- isobar/isobarref05.Sees -/
noncomputable def c40 : Code := Try.f40.body.getD .skip
theorem at40 : Try.prog.funcs[40]? = some Try.f40 := by kernel_rfl
theorem bd40 : Try.f40.body = some c40 := by kernel_rfl
theorem cl40 : Callable Try.prog 40 := callable_of at40 (by kernel_rfl) (by kernel_rfl)
abbrev T109 : Ty := (.cons T19 T81)
abbrev a40 : Ty := T109
abbrev r40 : Ty := T3
noncomputable def G40 : Ctx := Ctx.of [(37, .pure k37)]
theorem g40 : Sound Try.prog (G40) := sound_of (List.forall_mem_cons.2 ⟨⟨cl37, h37⟩, fun _ h => by cases h⟩)
noncomputable def b40x0 : Code := loopBody ((loopsOf (c40))[0]?)
theorem lo40x0 : loopsOf (b40x0) = [] := by kernel_rfl
abbrev cs40x0 : List Pat := [.slot 1 (.pc (.sl T0)), .slot 2 (.pc tI), .slot 3 (.ptr 3), .slot 7 (.pc (.sl T1)), .box 3 [.pc tI, .pc (.sl T7), .pc (.sl T2), .pc (.sl T4), .pc tI, .pc tI, .pc tI, .pc tI, .pc tI]]
abbrev vs40x0 : List Pat := [.slot 8 (.pc tI)]
abbrev ps40x0 : List Pat := [.slot 1 (.pc (.sl T0)), .slot 2 (.pc tI), .slot 3 (.ptr 3), .slot 7 (.pc (.sl T1)), .box 3 [.pc tI, .pc (.sl T7), .pc (.sl T2), .pc (.sl T4), .pc tI, .pc tI, .pc tI, .pc tI, .pc tI], .slot 8 (.pc tI)]
def j40x0 : (patsTy cs40x0).den → (patsTy vs40x0).den → (patsTy ps40x0).den := fun c v => (c.1, (c.2.1, (c.2.2.1, (c.2.2.2.1, (c.2.2.2.2.1, v)))))
def sp40x0 : (patsTy ps40x0).den → (patsTy cs40x0).den × (patsTy vs40x0).den := fun x => ((x.1, (x.2.1, (x.2.2.1, (x.2.2.2.1, (x.2.2.2.2.1, ()))))), x.2.2.2.2.2)
abbrev wy40x0 : Ways := ⟨[(0, [])], [.slot 6 (.pc .bool)], []⟩
abbrev wv40x0 : Ways := ⟨[(0, [])], [.slot 6 (.pc .bool)], []⟩
def je40x0 : (id : Nat) → (patsTy cs40x0).den → (patsTy (wayP wv40x0 id)).den → (patsTy (wayP wy40x0 id)).den := fun id => match id with | 0 => fun c y => y | id => fun _ _ => (patsTy (wayP wy40x0 id)).dflt
def jr40x0 : (patsTy cs40x0).den → (patsTy (wv40x0).ret).den → (patsTy (wy40x0).ret).den := fun c y => y
def jp40x0 : (patsTy cs40x0).den → (patsTy (wv40x0).pan).den → (patsTy (wy40x0).pan).den := fun c y => y
def Z40x0 {α : Type} (l : RQ vs40x0 wv40x0 → α) (an : α → α → α) (c : (patsTy cs40x0).den) (v : (patsTy vs40x0).den) : α := bif (decide (v.1 < ((c.2.2.2.1.n : Nat) : Int))) then bif (decide (((0 : Int) ≤ v.1) ∧ (v.1 < ((c.2.2.2.1.n : Nat) : Int)))) then bif (decide (((0 : Int) ≤ (c.2.2.2.1.g (Int.toNat v.1)).1) ∧ ((c.2.2.2.1.g (Int.toNat v.1)).1 < ((c.2.2.2.2.1.2.1.n : Nat) : Int)))) then bif (decide (((0 : Int) ≤ v.1) ∧ (v.1 < ((c.2.2.2.1.n : Nat) : Int)))) then bif (decide (((0 : Int) ≤ (c.2.2.2.1.g (Int.toNat v.1)).2.1) ∧ ((c.2.2.2.1.g (Int.toNat v.1)).2.1 < ((c.2.2.2.2.1.2.1.n : Nat) : Int)))) then bif (decide (((0 : Int) ≤ v.1) ∧ (v.1 < ((c.2.2.2.1.n : Nat) : Int)))) then bif (decide (((0 : Int) ≤ (c.2.2.2.1.g (Int.toNat v.1)).1) ∧ ((c.2.2.2.1.g (Int.toNat v.1)).1 < ((c.1.n : Nat) : Int)))) then bif (decide (((0 : Int) ≤ v.1) ∧ (v.1 < ((c.2.2.2.1.n : Nat) : Int)))) then bif (decide (((0 : Int) ≤ (c.2.2.2.1.g (Int.toNat v.1)).2.1) ∧ ((c.2.2.2.1.g (Int.toNat v.1)).2.1 < ((c.1.n : Nat) : Int)))) then bif (decide ((mx (W ((c.2.2.2.2.1.2.1.g (Int.toNat (c.2.2.2.1.g (Int.toNat v.1)).1)).2.1 + (c.1.g (Int.toNat (c.2.2.2.1.g (Int.toNat v.1)).1)).1)) (W ((c.2.2.2.2.1.2.1.g (Int.toNat (c.2.2.2.1.g (Int.toNat v.1)).2.1)).2.1 + (c.1.g (Int.toNat (c.2.2.2.1.g (Int.toNat v.1)).2.1)).1))) ≤ c.2.1)) then bif (decide (c.2.1 < (W ((mx (c.2.2.2.2.1.2.1.g (Int.toNat (c.2.2.2.1.g (Int.toNat v.1)).1)).2.1 (c.2.2.2.2.1.2.1.g (Int.toNat (c.2.2.2.1.g (Int.toNat v.1)).2.1)).2.1) + c.2.2.2.2.1.2.2.2.2.2.2.1)))) then l (.out (.ret (true, ()))) else l (.next ((W (v.1 + (1 : Int))), ())) else l (.next ((W (v.1 + (1 : Int))), ())) else l .bad else l .bad else l .bad else l .bad else l .bad else l .bad else l .bad else l .bad else l (.out (.exit 0 ()))
theorem z40x0 (c : (patsTy cs40x0).den) (v : (patsTy vs40x0).den) : roundQ Try.prog E0 G40 0 76 [] ps40x0 wy40x0 b40x0 [] (j40x0 c v) = Z40x0 (fun r => .leaf (r.lift j40x0 je40x0 jr40x0 jp40x0 c)) .any c v := by kernel_rfl
def S40x0 (c : (patsTy cs40x0).den) (v : (patsTy vs40x0).den) : RQ vs40x0 wv40x0 := Z40x0 (fun r => r) (fun _ _ => .bad) c v
theorem s40x0 (c : (patsTy cs40x0).den) (v : (patsTy vs40x0).den) : detQ (roundQ Try.prog E0 G40 0 76 [] ps40x0 wy40x0 b40x0 [] (j40x0 c v)) = (S40x0 c v).lift j40x0 je40x0 jr40x0 jp40x0 c := by rw [z40x0]; unfold S40x0 Z40x0; simp only [detQ_cond, lift_cond, lift_bad, detQ, detQ_cl, detQ_onExit, detQ_onRet, detQ_onPanL, detQ_onNext, detQ_onBrk, detQ_onRetO, detQ_onPan, detQ_onOk, detQ_onGPan, lift_cl, lift_onExit, lift_onRet, lift_onPanL, lift_onNext, lift_onBrk, lift_onRetO, lift_onPan, lift_onOk, lift_onGPan]
def L40x0 (c : (patsTy cs40x0).den) (v : (patsTy vs40x0).den) : LQ wv40x0 := iterQ (S40x0 c) big v
theorem lo40 : loopsOf (c40) = [.loop b40x0] := by kernel_rfl
noncomputable def l40 : List Loop := [.known (loopZ 0 [] ps40x0 fun x => spreadV wy40x0 je40x0 jr40x0 jp40x0 [] true (sp40x0 x).1 (L40x0 (sp40x0 x).1 (sp40x0 x).2) wy40x0.exits)]
def Q40 {α : Type} (l : Option (r40).den → α) (an : α → α → α) (x : (a40).den) : α := cl (r37).dflt (M37 (x.1, ())) (fun u0 => onExit (L40x0 (x.2.1, (x.2.2.1, ((), (u0.1, (x.1, ()))))) ((0 : Int), ())) 0 (fun u1 => l (some (false, ()))) (onRet (L40x0 (x.2.1, (x.2.2.1, ((), (u0.1, (x.1, ()))))) ((0 : Int), ())) (fun u2 => l (some u2)) (l none))) (l none)
theorem q40 (x : (a40).den) : runFn Try.prog E0 G40 Try.f40 l40 a40 r40 x = Q40 .leaf .any x := by kernel_rfl
def M40 (x : (a40).den) : Option (r40).den := Q40 (fun r => r) (fun _ _ => none) x
theorem m40 (x : (a40).den) : (runFn Try.prog E0 G40 Try.f40 l40 a40 r40 x).sure = M40 x := by rw [q40]; unfold M40 Q40; simp only [sure_cond, Tree.sure, sure_cl, sure_onExit, sure_onRet, sure_onPanL, sure_onNext, sure_onBrk, sure_onRetO, sure_onPan, sure_onOk, sure_onGPan]
def p40 (x : (a40).den) : Bool := (M40 x).isSome
def v40 (x : (a40).den) : (r40).den := (M40 x).getD (r40).dflt
def k40 : Con := ⟨a40, r40, p40, v40⟩
theorem h40 : Holds Try.prog 40 k40 := holds_of_M' (E := E0) follows_ok g40 eqTy_sound keyTy_sound at40 bd40 (by kernel_rfl) m40 fun G' hlo hF hE => LsOK_kn (by rw [lo40]; exact .cons (loopV_ok hE hF hlo (LsOK_kn (by rw [lo40x0]; exact .nil)) (by kernel_rfl) (by kernel_rfl) sp40x0 (fun _ => rfl) (fun _ _ => rfl) (s40x0) big) (.nil))
/-- isobar/isobarref05.First -/
noncomputable def c22 : Code := Try.f22.body.getD .skip
theorem at22 : Try.prog.funcs[22]? = some Try.f22 := by kernel_rfl
theorem bd22 : Try.f22.body = some c22 := by kernel_rfl
theorem cl22 : Callable Try.prog 22 := callable_of at22 (by kernel_rfl) (by kernel_rfl)
abbrev a22 : Ty := T43
abbrev r22 : Ty := T0
noncomputable def G22 : Ctx := Ctx.of [(40, .pure k40)]
theorem g22 : Sound Try.prog (G22) := sound_of (List.forall_mem_cons.2 ⟨⟨cl40, h40⟩, fun _ h => by cases h⟩)
noncomputable def b22x0 : Code := loopBody ((loopsOf (c22))[0]?)
theorem lo22x0 : loopsOf (b22x0) = [] := by kernel_rfl
abbrev cs22x0 : List Pat := [.slot 1 (.pc (.sl T0)), .slot 2 (.ptr 2), .box 2 [.pc tI, .pc (.sl T7), .pc (.sl T2), .pc (.sl T4), .pc tI, .pc tI, .pc tI, .pc tI, .pc tI]]
abbrev vs22x0 : List Pat := [.slot 5 (.pc tI), .slot 6 (.pc tI)]
abbrev ps22x0 : List Pat := [.slot 1 (.pc (.sl T0)), .slot 2 (.ptr 2), .box 2 [.pc tI, .pc (.sl T7), .pc (.sl T2), .pc (.sl T4), .pc tI, .pc tI, .pc tI, .pc tI, .pc tI], .slot 5 (.pc tI), .slot 6 (.pc tI)]
def j22x0 : (patsTy cs22x0).den → (patsTy vs22x0).den → (patsTy ps22x0).den := fun c v => (c.1, (c.2.1, (c.2.2.1, v)))
def sp22x0 : (patsTy ps22x0).den → (patsTy cs22x0).den × (patsTy vs22x0).den := fun x => ((x.1, (x.2.1, (x.2.2.1, ()))), x.2.2.2)
abbrev wy22x0 : Ways := ⟨[(0, [.slot 5 (.pc tI)])], [], []⟩
abbrev wv22x0 : Ways := ⟨[(0, [.slot 5 (.pc tI)])], [], []⟩
def je22x0 : (id : Nat) → (patsTy cs22x0).den → (patsTy (wayP wv22x0 id)).den → (patsTy (wayP wy22x0 id)).den := fun id => match id with | 0 => fun c y => y | id => fun _ _ => (patsTy (wayP wy22x0 id)).dflt
def jr22x0 : (patsTy cs22x0).den → (patsTy (wv22x0).ret).den → (patsTy (wy22x0).ret).den := fun c y => y
def jp22x0 : (patsTy cs22x0).den → (patsTy (wv22x0).pan).den → (patsTy (wy22x0).pan).den := fun c y => y
def Z22x0 {α : Type} (l : RQ vs22x0 wv22x0 → α) (an : α → α → α) (c : (patsTy cs22x0).den) (v : (patsTy vs22x0).den) : α := bif (decide (v.2.1 < ((c.2.2.1.2.1.n : Nat) : Int))) then bif (decide (((0 : Int) ≤ v.2.1) ∧ (v.2.1 < ((c.2.2.1.2.1.n : Nat) : Int)))) then bif (decide (((0 : Int) ≤ v.2.1) ∧ (v.2.1 < ((c.1.n : Nat) : Int)))) then cl (r40).dflt (M40 (c.2.2.1, (c.1, ((W ((c.2.2.1.2.1.g (Int.toNat v.2.1)).2.1 + (c.1.g (Int.toNat v.2.1)).1)), ())))) (fun u0 => bif u0.1 then bif (decide (v.1 < (0 : Int))) then l (.next ((W ((c.2.2.1.2.1.g (Int.toNat v.2.1)).2.1 + (c.1.g (Int.toNat v.2.1)).1)), ((W (v.2.1 + (1 : Int))), ()))) else bif (decide ((W ((c.2.2.1.2.1.g (Int.toNat v.2.1)).2.1 + (c.1.g (Int.toNat v.2.1)).1)) < v.1)) then l (.next ((W ((c.2.2.1.2.1.g (Int.toNat v.2.1)).2.1 + (c.1.g (Int.toNat v.2.1)).1)), ((W (v.2.1 + (1 : Int))), ()))) else l (.next (v.1, ((W (v.2.1 + (1 : Int))), ()))) else l (.next (v.1, ((W (v.2.1 + (1 : Int))), ())))) (l .bad) else l .bad else l .bad else l (.out (.exit 0 (v.1, ())))
theorem z22x0 (c : (patsTy cs22x0).den) (v : (patsTy vs22x0).den) : roundQ Try.prog E0 G22 0 41 [] ps22x0 wy22x0 b22x0 [] (j22x0 c v) = Z22x0 (fun r => .leaf (r.lift j22x0 je22x0 jr22x0 jp22x0 c)) .any c v := by kernel_rfl
def S22x0 (c : (patsTy cs22x0).den) (v : (patsTy vs22x0).den) : RQ vs22x0 wv22x0 := Z22x0 (fun r => r) (fun _ _ => .bad) c v
theorem s22x0 (c : (patsTy cs22x0).den) (v : (patsTy vs22x0).den) : detQ (roundQ Try.prog E0 G22 0 41 [] ps22x0 wy22x0 b22x0 [] (j22x0 c v)) = (S22x0 c v).lift j22x0 je22x0 jr22x0 jp22x0 c := by rw [z22x0]; unfold S22x0 Z22x0; simp only [detQ_cond, lift_cond, lift_bad, detQ, detQ_cl, detQ_onExit, detQ_onRet, detQ_onPanL, detQ_onNext, detQ_onBrk, detQ_onRetO, detQ_onPan, detQ_onOk, detQ_onGPan, lift_cl, lift_onExit, lift_onRet, lift_onPanL, lift_onNext, lift_onBrk, lift_onRetO, lift_onPan, lift_onOk, lift_onGPan]
def L22x0 (c : (patsTy cs22x0).den) (v : (patsTy vs22x0).den) : LQ wv22x0 := iterQ (S22x0 c) big v
theorem lo22 : loopsOf (c22) = [.loop b22x0] := by kernel_rfl
noncomputable def l22 : List Loop := [.known (loopZ 0 [] ps22x0 fun x => spreadV wy22x0 je22x0 jr22x0 jp22x0 [] false (sp22x0 x).1 (L22x0 (sp22x0 x).1 (sp22x0 x).2) wy22x0.exits)]
def Q22 {α : Type} (l : Option (r22).den → α) (an : α → α → α) (x : (a22).den) : α := onExit (L22x0 (x.2.1, ((), (x.1, ()))) ((-1 : Int), ((0 : Int), ()))) 0 (fun u1 => l (some u1)) (l none)
theorem q22 (x : (a22).den) : runFn Try.prog E0 G22 Try.f22 l22 a22 r22 x = Q22 .leaf .any x := by kernel_rfl
def M22 (x : (a22).den) : Option (r22).den := Q22 (fun r => r) (fun _ _ => none) x
theorem m22 (x : (a22).den) : (runFn Try.prog E0 G22 Try.f22 l22 a22 r22 x).sure = M22 x := by rw [q22]; unfold M22 Q22; simp only [sure_cond, Tree.sure, sure_cl, sure_onExit, sure_onRet, sure_onPanL, sure_onNext, sure_onBrk, sure_onRetO, sure_onPan, sure_onOk, sure_onGPan]
def p22 (x : (a22).den) : Bool := (M22 x).isSome
def v22 (x : (a22).den) : (r22).den := (M22 x).getD (r22).dflt
def k22 : Con := ⟨a22, r22, p22, v22⟩
theorem h22 : Holds Try.prog 22 k22 := holds_of_M' (E := E0) follows_ok g22 eqTy_sound keyTy_sound at22 bd22 (by kernel_rfl) m22 fun G' hlo hF hE => LsOK_kn (by rw [lo22]; exact .cons (loopV_ok hE hF hlo (LsOK_kn (by rw [lo22x0]; exact .nil)) (by kernel_rfl) (by kernel_rfl) sp22x0 (fun _ => rfl) (fun _ _ => rfl) (s22x0) big) (.nil))
/-- isobar/isobarlaw05.ConePlays -/
noncomputable def c3 : Code := Try.f3.body.getD .skip
theorem at3 : Try.prog.funcs[3]? = some Try.f3 := by kernel_rfl
theorem bd3 : Try.f3.body = some c3 := by kernel_rfl
theorem cl3 : Callable Try.prog 3 := callable_of at3 (by kernel_rfl) (by kernel_rfl)
abbrev a3 : Ty := T43
abbrev r3 : Ty := T3
noncomputable def G3 : Ctx := Ctx.of [(17, .pure k17), (18, .pure k18), (19, .pure k19), (20, .pure k20), (21, .pure k21), (22, .pure k22)]
theorem g3 : Sound Try.prog (G3) := sound_of (List.forall_mem_cons.2 ⟨⟨cl17, h17⟩, List.forall_mem_cons.2 ⟨⟨cl18, h18⟩, List.forall_mem_cons.2 ⟨⟨cl19, h19⟩, List.forall_mem_cons.2 ⟨⟨cl20, h20⟩, List.forall_mem_cons.2 ⟨⟨cl21, h21⟩, List.forall_mem_cons.2 ⟨⟨cl22, h22⟩, fun _ h => by cases h⟩⟩⟩⟩⟩⟩)
theorem lo3 : loopsOf (c3) = [] := by kernel_rfl
noncomputable def l3 : List Loop := []
def Q3 {α : Type} (l : Option (r3).den → α) (an : α → α → α) (x : (a3).den) : α := cl (r17).dflt (M17 (x.1, ())) (fun u0 => bif (!u0.1) then cl (r18).dflt (M18 ()) (fun u1 => l (some u1)) (l none) else bif (decide ((12 : Int) < ((x.2.1.n : Nat) : Int))) then cl (r18).dflt (M18 ()) (fun u2 => l (some u2)) (l none) else cl (r19).dflt (M19 (x.1, x.2)) (fun u3 => cl (r20).dflt (M20 (x.1, ())) (fun u4 => bif (!u4.1) then bif (decide (u3.2.1 = (2 : Int))) then bif (decide (u3.1 = (0 : Int))) then cl (r18).dflt (M18 ()) (fun u5 => l (some u5)) (l none) else l (some (false, ())) else l (some (false, ())) else cl (r21).dflt (M21 (x.1, x.2)) (fun u6 => bif (!u6.1) then bif (decide (u3.2.1 = (2 : Int))) then bif (decide (u3.1 = (0 : Int))) then cl (r18).dflt (M18 ()) (fun u7 => l (some u7)) (l none) else l (some (false, ())) else l (some (false, ())) else cl (r22).dflt (M22 (x.1, x.2)) (fun u8 => bif (decide (u8.1 < (0 : Int))) then bif (decide (u3.2.1 = (5 : Int))) then bif (decide (u3.1 = (0 : Int))) then cl (r18).dflt (M18 ()) (fun u9 => l (some u9)) (l none) else bif (decide ((0 : Int) ≤ u8.1)) then bif (decide (u3.2.1 = (0 : Int))) then bif (decide (u3.1 = u8.1)) then cl (r18).dflt (M18 ()) (fun u10 => l (some u10)) (l none) else l (some (false, ())) else l (some (false, ())) else l (some (false, ())) else bif (decide ((0 : Int) ≤ u8.1)) then bif (decide (u3.2.1 = (0 : Int))) then bif (decide (u3.1 = u8.1)) then cl (r18).dflt (M18 ()) (fun u11 => l (some u11)) (l none) else l (some (false, ())) else l (some (false, ())) else l (some (false, ())) else bif (decide ((0 : Int) ≤ u8.1)) then bif (decide (u3.2.1 = (0 : Int))) then bif (decide (u3.1 = u8.1)) then cl (r18).dflt (M18 ()) (fun u12 => l (some u12)) (l none) else l (some (false, ())) else l (some (false, ())) else l (some (false, ()))) (l none)) (l none)) (l none)) (l none)) (l none)
theorem q3 (x : (a3).den) : runFn Try.prog E0 G3 Try.f3 l3 a3 r3 x = Q3 .leaf .any x := by kernel_rfl
def M3 (x : (a3).den) : Option (r3).den := Q3 (fun r => r) (fun _ _ => none) x
theorem m3 (x : (a3).den) : (runFn Try.prog E0 G3 Try.f3 l3 a3 r3 x).sure = M3 x := by rw [q3]; unfold M3 Q3; simp only [sure_cond, Tree.sure, sure_cl, sure_onExit, sure_onRet, sure_onPanL, sure_onNext, sure_onBrk, sure_onRetO, sure_onPan, sure_onOk, sure_onGPan]
def p3 (x : (a3).den) : Bool := (M3 x).isSome
def v3 (x : (a3).den) : (r3).den := (M3 x).getD (r3).dflt
def k3 : Con := ⟨a3, r3, p3, v3⟩
theorem h3 : Holds Try.prog 3 k3 := holds_of_M' (E := E0) follows_ok g3 eqTy_sound keyTy_sound at3 bd3 (by kernel_rfl) m3 fun G' hlo hF hE => LsOK_kn (by rw [lo3]; exact .nil)
/-- isobar/isobarref05.Ends -/
noncomputable def c24 : Code := Try.f24.body.getD .skip
theorem at24 : Try.prog.funcs[24]? = some Try.f24 := by kernel_rfl
theorem bd24 : Try.f24.body = some c24 := by kernel_rfl
theorem cl24 : Callable Try.prog 24 := callable_of at24 (by kernel_rfl) (by kernel_rfl)
abbrev T110 : Ty := (.cons T19 T3)
abbrev a24 : Ty := T110
abbrev r24 : Ty := T42
noncomputable def G24 : Ctx := Ctx.of []
theorem g24 : Sound Try.prog (G24) := sound_of (fun _ h => by cases h)
noncomputable def b24x0 : Code := loopBody ((loopsOf (c24))[0]?)
theorem lo24x0 : loopsOf (b24x0) = [] := by kernel_rfl
abbrev cs24x0 : List Pat := [.slot 1 (.pc .bool), .slot 2 (.ptr 2), .box 2 [.pc tI, .pc (.sl T7), .pc (.sl T2), .pc (.sl T4), .pc tI, .pc tI, .pc tI, .pc tI, .pc tI]]
abbrev vs24x0 : List Pat := [.slot 5 (.own 1000005 3 T0), .slot 6 (.pc tI)]
abbrev ps24x0 : List Pat := [.slot 1 (.pc .bool), .slot 2 (.ptr 2), .box 2 [.pc tI, .pc (.sl T7), .pc (.sl T2), .pc (.sl T4), .pc tI, .pc tI, .pc tI, .pc tI, .pc tI], .slot 5 (.own 1000005 3 T0), .slot 6 (.pc tI)]
def j24x0 : (patsTy cs24x0).den → (patsTy vs24x0).den → (patsTy ps24x0).den := fun c v => (c.1, (c.2.1, (c.2.2.1, v)))
def sp24x0 : (patsTy ps24x0).den → (patsTy cs24x0).den × (patsTy vs24x0).den := fun x => ((x.1, (x.2.1, (x.2.2.1, ()))), x.2.2.2)
abbrev wy24x0 : Ways := ⟨[(0, [.slot 5 (.pc (.sl T0))])], [], []⟩
abbrev wv24x0 : Ways := ⟨[(0, [.slot 5 (.pc (.sl T0))])], [], []⟩
def je24x0 : (id : Nat) → (patsTy cs24x0).den → (patsTy (wayP wv24x0 id)).den → (patsTy (wayP wy24x0 id)).den := fun id => match id with | 0 => fun c y => y | id => fun _ _ => (patsTy (wayP wy24x0 id)).dflt
def jr24x0 : (patsTy cs24x0).den → (patsTy (wv24x0).ret).den → (patsTy (wy24x0).ret).den := fun c y => y
def jp24x0 : (patsTy cs24x0).den → (patsTy (wv24x0).pan).den → (patsTy (wy24x0).pan).den := fun c y => y
def Z24x0 {α : Type} (l : RQ vs24x0 wv24x0 → α) (an : α → α → α) (c : (patsTy cs24x0).den) (v : (patsTy vs24x0).den) : α := bif (decide (v.2.1 < ((c.2.2.1.2.1.n : Nat) : Int))) then bif (decide (((0 : Int) ≤ v.2.1) ∧ (v.2.1 < ((c.2.2.1.2.1.n : Nat) : Int)))) then bif c.1 then bif (decide (((0 : Int) ≤ v.2.1) ∧ (v.2.1 < ((c.2.2.1.2.1.n : Nat) : Int)))) then bif (decide (((v.1.n + 1) * 8) ≤ 140737488355328)) then l (.next ((catSl v.1 (⟨1, fun i => List.getD [((c.2.2.1.2.1.g (Int.toNat v.2.1)).2.2.2.2.1, ())] i ((c.2.2.1.2.1.g (Int.toNat v.2.1)).2.2.2.2.1, ())⟩ : Sl (Ty.den T0))), ((W (v.2.1 + (1 : Int))), ()))) else l .bad else l .bad else bif (decide (((v.1.n + 1) * 8) ≤ 140737488355328)) then l (.next ((catSl v.1 (⟨1, fun i => List.getD [((c.2.2.1.2.1.g (Int.toNat v.2.1)).2.2.2.1, ())] i ((c.2.2.1.2.1.g (Int.toNat v.2.1)).2.2.2.1, ())⟩ : Sl (Ty.den T0))), ((W (v.2.1 + (1 : Int))), ()))) else l .bad else l .bad else l (.out (.exit 0 (v.1, ())))
theorem z24x0 (c : (patsTy cs24x0).den) (v : (patsTy vs24x0).den) : roundQ Try.prog E0 G24 0 35 [] ps24x0 wy24x0 b24x0 [] (j24x0 c v) = Z24x0 (fun r => .leaf (r.lift j24x0 je24x0 jr24x0 jp24x0 c)) .any c v := by kernel_rfl
def S24x0 (c : (patsTy cs24x0).den) (v : (patsTy vs24x0).den) : RQ vs24x0 wv24x0 := Z24x0 (fun r => r) (fun _ _ => .bad) c v
theorem s24x0 (c : (patsTy cs24x0).den) (v : (patsTy vs24x0).den) : detQ (roundQ Try.prog E0 G24 0 35 [] ps24x0 wy24x0 b24x0 [] (j24x0 c v)) = (S24x0 c v).lift j24x0 je24x0 jr24x0 jp24x0 c := by rw [z24x0]; unfold S24x0 Z24x0; simp only [detQ_cond, lift_cond, lift_bad, detQ, detQ_cl, detQ_onExit, detQ_onRet, detQ_onPanL, detQ_onNext, detQ_onBrk, detQ_onRetO, detQ_onPan, detQ_onOk, detQ_onGPan, lift_cl, lift_onExit, lift_onRet, lift_onPanL, lift_onNext, lift_onBrk, lift_onRetO, lift_onPan, lift_onOk, lift_onGPan]
def L24x0 (c : (patsTy cs24x0).den) (v : (patsTy vs24x0).den) : LQ wv24x0 := iterQ (S24x0 c) big v
theorem lo24 : loopsOf (c24) = [.loop b24x0] := by kernel_rfl
noncomputable def l24 : List Loop := [.known (loopZ 0 [] ps24x0 fun x => spreadV wy24x0 je24x0 jr24x0 jp24x0 [] false (sp24x0 x).1 (L24x0 (sp24x0 x).1 (sp24x0 x).2) wy24x0.exits)]
def Q24 {α : Type} (l : Option (r24).den → α) (an : α → α → α) (x : (a24).den) : α := onExit (L24x0 (x.2.1, ((), (x.1, ()))) ((⟨0, fun i => ((0 : Int), ())⟩ : Sl _), ((0 : Int), ()))) 0 (fun u0 => l (some u0)) (l none)
theorem q24 (x : (a24).den) : runFn Try.prog E0 G24 Try.f24 l24 a24 r24 x = Q24 .leaf .any x := by kernel_rfl
def M24 (x : (a24).den) : Option (r24).den := Q24 (fun r => r) (fun _ _ => none) x
theorem m24 (x : (a24).den) : (runFn Try.prog E0 G24 Try.f24 l24 a24 r24 x).sure = M24 x := by rw [q24]; unfold M24 Q24; simp only [sure_cond, Tree.sure, sure_cl, sure_onExit, sure_onRet, sure_onPanL, sure_onNext, sure_onBrk, sure_onRetO, sure_onPan, sure_onOk, sure_onGPan]
def p24 (x : (a24).den) : Bool := (M24 x).isSome
def v24 (x : (a24).den) : (r24).den := (M24 x).getD (r24).dflt
def k24 : Con := ⟨a24, r24, p24, v24⟩
theorem h24 : Holds Try.prog 24 k24 := holds_of_M' (E := E0) follows_ok g24 eqTy_sound keyTy_sound at24 bd24 (by kernel_rfl) m24 fun G' hlo hF hE => LsOK_kn (by rw [lo24]; exact .cons (loopV_ok hE hF hlo (LsOK_kn (by rw [lo24x0]; exact .nil)) (by kernel_rfl) (by kernel_rfl) sp24x0 (fun _ => rfl) (fun _ _ => rfl) (s24x0) big) (.nil))
/-- isobar/isobarlaw05.ConeSees -/
noncomputable def c4 : Code := Try.f4.body.getD .skip
theorem at4 : Try.prog.funcs[4]? = some Try.f4 := by kernel_rfl
theorem bd4 : Try.f4.body = some c4 := by kernel_rfl
theorem cl4 : Callable Try.prog 4 := callable_of at4 (by kernel_rfl) (by kernel_rfl)
abbrev a4 : Ty := T36
abbrev r4 : Ty := T3
noncomputable def G4 : Ctx := Ctx.of [(17, .pure k17), (18, .pure k18), (20, .pure k20), (22, .pure k22), (23, .pure k23), (24, .pure k24)]
theorem g4 : Sound Try.prog (G4) := sound_of (List.forall_mem_cons.2 ⟨⟨cl17, h17⟩, List.forall_mem_cons.2 ⟨⟨cl18, h18⟩, List.forall_mem_cons.2 ⟨⟨cl20, h20⟩, List.forall_mem_cons.2 ⟨⟨cl22, h22⟩, List.forall_mem_cons.2 ⟨⟨cl23, h23⟩, List.forall_mem_cons.2 ⟨⟨cl24, h24⟩, fun _ h => by cases h⟩⟩⟩⟩⟩⟩)
theorem lo4 : loopsOf (c4) = [] := by kernel_rfl
noncomputable def l4 : List Loop := []
def Q4 {α : Type} (l : Option (r4).den → α) (an : α → α → α) (x : (a4).den) : α := cl (r17).dflt (M17 (x.1, ())) (fun u0 => bif (!u0.1) then cl (r18).dflt (M18 ()) (fun u1 => l (some u1)) (l none) else cl (r23).dflt (M23 (x.1, ())) (fun u2 => cl (r20).dflt (M20 (x.1, ())) (fun u3 => bif (!u3.1) then bif (decide (u2.2.2.1 = (2 : Int))) then bif (decide (u2.1 = (0 : Int))) then bif (decide (u2.2.1 = (0 : Int))) then cl (r18).dflt (M18 ()) (fun u4 => l (some u4)) (l none) else l (some (false, ())) else l (some (false, ())) else l (some (false, ())) else cl (r24).dflt (M24 (x.1, (false, ()))) (fun u5 => cl (r22).dflt (M22 (x.1, u5)) (fun u6 => cl (r24).dflt (M24 (x.1, (true, ()))) (fun u7 => cl (r22).dflt (M22 (x.1, u7)) (fun u8 => bif (decide (u6.1 < (0 : Int))) then bif (decide (u2.2.2.1 = (5 : Int))) then bif (decide (u2.1 = (0 : Int))) then bif (decide (u2.2.1 = (0 : Int))) then cl (r18).dflt (M18 ()) (fun u9 => l (some u9)) (l none) else l (some (false, ())) else l (some (false, ())) else l (some (false, ())) else bif (decide (u2.2.2.1 = (0 : Int))) then bif (decide (u2.1 = u6.1)) then bif (decide (u2.2.1 = u8.1)) then cl (r18).dflt (M18 ()) (fun u10 => l (some u10)) (l none) else l (some (false, ())) else l (some (false, ())) else l (some (false, ()))) (l none)) (l none)) (l none)) (l none)) (l none)) (l none)) (l none)
theorem q4 (x : (a4).den) : runFn Try.prog E0 G4 Try.f4 l4 a4 r4 x = Q4 .leaf .any x := by kernel_rfl
def M4 (x : (a4).den) : Option (r4).den := Q4 (fun r => r) (fun _ _ => none) x
theorem m4 (x : (a4).den) : (runFn Try.prog E0 G4 Try.f4 l4 a4 r4 x).sure = M4 x := by rw [q4]; unfold M4 Q4; simp only [sure_cond, Tree.sure, sure_cl, sure_onExit, sure_onRet, sure_onPanL, sure_onNext, sure_onBrk, sure_onRetO, sure_onPan, sure_onOk, sure_onGPan]
def p4 (x : (a4).den) : Bool := (M4 x).isSome
def v4 (x : (a4).den) : (r4).den := (M4 x).getD (r4).dflt
def k4 : Con := ⟨a4, r4, p4, v4⟩
theorem h4 : Holds Try.prog 4 k4 := holds_of_M' (E := E0) follows_ok g4 eqTy_sound keyTy_sound at4 bd4 (by kernel_rfl) m4 fun G' hlo hF hE => LsOK_kn (by rw [lo4]; exact .nil)
/-- isobar/isobarlaw05.ConeTrue -/
noncomputable def c5 : Code := Try.f5.body.getD .skip
theorem at5 : Try.prog.funcs[5]? = some Try.f5 := by kernel_rfl
theorem bd5 : Try.f5.body = some c5 := by kernel_rfl
theorem cl5 : Callable Try.prog 5 := callable_of at5 (by kernel_rfl) (by kernel_rfl)
abbrev a5 : Ty := T43
abbrev r5 : Ty := T3
noncomputable def G5 : Ctx := Ctx.of [(17, .pure k17), (18, .pure k18), (19, .pure k19), (20, .pure k20), (21, .pure k21), (23, .pure k23)]
theorem g5 : Sound Try.prog (G5) := sound_of (List.forall_mem_cons.2 ⟨⟨cl17, h17⟩, List.forall_mem_cons.2 ⟨⟨cl18, h18⟩, List.forall_mem_cons.2 ⟨⟨cl19, h19⟩, List.forall_mem_cons.2 ⟨⟨cl20, h20⟩, List.forall_mem_cons.2 ⟨⟨cl21, h21⟩, List.forall_mem_cons.2 ⟨⟨cl23, h23⟩, fun _ h => by cases h⟩⟩⟩⟩⟩⟩)
theorem lo5 : loopsOf (c5) = [] := by kernel_rfl
noncomputable def l5 : List Loop := []
def Q5 {α : Type} (l : Option (r5).den → α) (an : α → α → α) (x : (a5).den) : α := cl (r17).dflt (M17 (x.1, ())) (fun u0 => bif (!u0.1) then cl (r18).dflt (M18 ()) (fun u1 => l (some u1)) (l none) else bif (decide ((12 : Int) < ((x.2.1.n : Nat) : Int))) then cl (r18).dflt (M18 ()) (fun u2 => l (some u2)) (l none) else cl (r20).dflt (M20 (x.1, ())) (fun u3 => bif (!u3.1) then cl (r18).dflt (M18 ()) (fun u4 => l (some u4)) (l none) else cl (r21).dflt (M21 (x.1, x.2)) (fun u5 => bif (!u5.1) then cl (r18).dflt (M18 ()) (fun u6 => l (some u6)) (l none) else cl (r19).dflt (M19 (x.1, x.2)) (fun u7 => cl (r23).dflt (M23 (x.1, ())) (fun u8 => bif (!(decide (u7.2.1 = (0 : Int)))) then bif (!(decide (u7.2.1 = (5 : Int)))) then l (some (false, ())) else bif (!(decide (u8.2.2.1 = (0 : Int)))) then bif (!(decide (u8.2.2.1 = (5 : Int)))) then l (some (false, ())) else bif (decide (u7.2.1 = (0 : Int))) then bif (!(decide (u8.2.2.1 = (0 : Int)))) then l (some (false, ())) else bif (!(decide (u8.2.2.1 = (0 : Int)))) then cl (r18).dflt (M18 ()) (fun u9 => l (some u9)) (l none) else bif (!(decide (u8.2.1 = (-1 : Int)))) then bif (!(decide (u7.2.1 = (0 : Int)))) then l (some (false, ())) else bif (decide (u8.2.1 < u7.1)) then l (some (false, ())) else bif (decide (u8.2.1 < u8.1)) then l (some (false, ())) else bif (!(decide (u7.2.1 = (0 : Int)))) then bif (decide ((0 : Int) ≤ u8.1)) then cl (r18).dflt (M18 ()) (fun u10 => l (some u10)) (l none) else l (some (false, ())) else bif (decide (u8.1 ≤ u7.1)) then bif (decide ((0 : Int) ≤ u8.1)) then cl (r18).dflt (M18 ()) (fun u11 => l (some u11)) (l none) else l (some (false, ())) else l (some (false, ())) else bif (!(decide (u7.2.1 = (0 : Int)))) then bif (decide ((0 : Int) ≤ u8.1)) then cl (r18).dflt (M18 ()) (fun u12 => l (some u12)) (l none) else l (some (false, ())) else bif (decide (u8.1 ≤ u7.1)) then bif (decide ((0 : Int) ≤ u8.1)) then cl (r18).dflt (M18 ()) (fun u13 => l (some u13)) (l none) else l (some (false, ())) else l (some (false, ())) else bif (!(decide (u8.2.2.1 = (0 : Int)))) then cl (r18).dflt (M18 ()) (fun u14 => l (some u14)) (l none) else bif (!(decide (u8.2.1 = (-1 : Int)))) then bif (!(decide (u7.2.1 = (0 : Int)))) then l (some (false, ())) else bif (decide (u8.2.1 < u7.1)) then l (some (false, ())) else bif (decide (u8.2.1 < u8.1)) then l (some (false, ())) else bif (!(decide (u7.2.1 = (0 : Int)))) then bif (decide ((0 : Int) ≤ u8.1)) then cl (r18).dflt (M18 ()) (fun u15 => l (some u15)) (l none) else l (some (false, ())) else bif (decide (u8.1 ≤ u7.1)) then bif (decide ((0 : Int) ≤ u8.1)) then cl (r18).dflt (M18 ()) (fun u16 => l (some u16)) (l none) else l (some (false, ())) else l (some (false, ())) else bif (!(decide (u7.2.1 = (0 : Int)))) then bif (decide ((0 : Int) ≤ u8.1)) then cl (r18).dflt (M18 ()) (fun u17 => l (some u17)) (l none) else l (some (false, ())) else bif (decide (u8.1 ≤ u7.1)) then bif (decide ((0 : Int) ≤ u8.1)) then cl (r18).dflt (M18 ()) (fun u18 => l (some u18)) (l none) else l (some (false, ())) else l (some (false, ())) else bif (decide (u7.2.1 = (0 : Int))) then bif (!(decide (u8.2.2.1 = (0 : Int)))) then l (some (false, ())) else bif (!(decide (u8.2.2.1 = (0 : Int)))) then cl (r18).dflt (M18 ()) (fun u19 => l (some u19)) (l none) else bif (!(decide (u8.2.1 = (-1 : Int)))) then bif (!(decide (u7.2.1 = (0 : Int)))) then l (some (false, ())) else bif (decide (u8.2.1 < u7.1)) then l (some (false, ())) else bif (decide (u8.2.1 < u8.1)) then l (some (false, ())) else bif (!(decide (u7.2.1 = (0 : Int)))) then bif (decide ((0 : Int) ≤ u8.1)) then cl (r18).dflt (M18 ()) (fun u20 => l (some u20)) (l none) else l (some (false, ())) else bif (decide (u8.1 ≤ u7.1)) then bif (decide ((0 : Int) ≤ u8.1)) then cl (r18).dflt (M18 ()) (fun u21 => l (some u21)) (l none) else l (some (false, ())) else l (some (false, ())) else bif (!(decide (u7.2.1 = (0 : Int)))) then bif (decide ((0 : Int) ≤ u8.1)) then cl (r18).dflt (M18 ()) (fun u22 => l (some u22)) (l none) else l (some (false, ())) else bif (decide (u8.1 ≤ u7.1)) then bif (decide ((0 : Int) ≤ u8.1)) then cl (r18).dflt (M18 ()) (fun u23 => l (some u23)) (l none) else l (some (false, ())) else l (some (false, ())) else bif (!(decide (u8.2.2.1 = (0 : Int)))) then cl (r18).dflt (M18 ()) (fun u24 => l (some u24)) (l none) else bif (!(decide (u8.2.1 = (-1 : Int)))) then bif (!(decide (u7.2.1 = (0 : Int)))) then l (some (false, ())) else bif (decide (u8.2.1 < u7.1)) then l (some (false, ())) else bif (decide (u8.2.1 < u8.1)) then l (some (false, ())) else bif (!(decide (u7.2.1 = (0 : Int)))) then bif (decide ((0 : Int) ≤ u8.1)) then cl (r18).dflt (M18 ()) (fun u25 => l (some u25)) (l none) else l (some (false, ())) else bif (decide (u8.1 ≤ u7.1)) then bif (decide ((0 : Int) ≤ u8.1)) then cl (r18).dflt (M18 ()) (fun u26 => l (some u26)) (l none) else l (some (false, ())) else l (some (false, ())) else bif (!(decide (u7.2.1 = (0 : Int)))) then bif (decide ((0 : Int) ≤ u8.1)) then cl (r18).dflt (M18 ()) (fun u27 => l (some u27)) (l none) else l (some (false, ())) else bif (decide (u8.1 ≤ u7.1)) then bif (decide ((0 : Int) ≤ u8.1)) then cl (r18).dflt (M18 ()) (fun u28 => l (some u28)) (l none) else l (some (false, ())) else l (some (false, ())) else bif (!(decide (u8.2.2.1 = (0 : Int)))) then bif (!(decide (u8.2.2.1 = (5 : Int)))) then l (some (false, ())) else bif (decide (u7.2.1 = (0 : Int))) then bif (!(decide (u8.2.2.1 = (0 : Int)))) then l (some (false, ())) else bif (!(decide (u8.2.2.1 = (0 : Int)))) then cl (r18).dflt (M18 ()) (fun u29 => l (some u29)) (l none) else bif (!(decide (u8.2.1 = (-1 : Int)))) then bif (!(decide (u7.2.1 = (0 : Int)))) then l (some (false, ())) else bif (decide (u8.2.1 < u7.1)) then l (some (false, ())) else bif (decide (u8.2.1 < u8.1)) then l (some (false, ())) else bif (!(decide (u7.2.1 = (0 : Int)))) then bif (decide ((0 : Int) ≤ u8.1)) then cl (r18).dflt (M18 ()) (fun u30 => l (some u30)) (l none) else l (some (false, ())) else bif (decide (u8.1 ≤ u7.1)) then bif (decide ((0 : Int) ≤ u8.1)) then cl (r18).dflt (M18 ()) (fun u31 => l (some u31)) (l none) else l (some (false, ())) else l (some (false, ())) else bif (!(decide (u7.2.1 = (0 : Int)))) then bif (decide ((0 : Int) ≤ u8.1)) then cl (r18).dflt (M18 ()) (fun u32 => l (some u32)) (l none) else l (some (false, ())) else bif (decide (u8.1 ≤ u7.1)) then bif (decide ((0 : Int) ≤ u8.1)) then cl (r18).dflt (M18 ()) (fun u33 => l (some u33)) (l none) else l (some (false, ())) else l (some (false, ())) else bif (!(decide (u8.2.2.1 = (0 : Int)))) then cl (r18).dflt (M18 ()) (fun u34 => l (some u34)) (l none) else bif (!(decide (u8.2.1 = (-1 : Int)))) then bif (!(decide (u7.2.1 = (0 : Int)))) then l (some (false, ())) else bif (decide (u8.2.1 < u7.1)) then l (some (false, ())) else bif (decide (u8.2.1 < u8.1)) then l (some (false, ())) else bif (!(decide (u7.2.1 = (0 : Int)))) then bif (decide ((0 : Int) ≤ u8.1)) then cl (r18).dflt (M18 ()) (fun u35 => l (some u35)) (l none) else l (some (false, ())) else bif (decide (u8.1 ≤ u7.1)) then bif (decide ((0 : Int) ≤ u8.1)) then cl (r18).dflt (M18 ()) (fun u36 => l (some u36)) (l none) else l (some (false, ())) else l (some (false, ())) else bif (!(decide (u7.2.1 = (0 : Int)))) then bif (decide ((0 : Int) ≤ u8.1)) then cl (r18).dflt (M18 ()) (fun u37 => l (some u37)) (l none) else l (some (false, ())) else bif (decide (u8.1 ≤ u7.1)) then bif (decide ((0 : Int) ≤ u8.1)) then cl (r18).dflt (M18 ()) (fun u38 => l (some u38)) (l none) else l (some (false, ())) else l (some (false, ())) else bif (decide (u7.2.1 = (0 : Int))) then bif (!(decide (u8.2.2.1 = (0 : Int)))) then l (some (false, ())) else bif (!(decide (u8.2.2.1 = (0 : Int)))) then cl (r18).dflt (M18 ()) (fun u39 => l (some u39)) (l none) else bif (!(decide (u8.2.1 = (-1 : Int)))) then bif (!(decide (u7.2.1 = (0 : Int)))) then l (some (false, ())) else bif (decide (u8.2.1 < u7.1)) then l (some (false, ())) else bif (decide (u8.2.1 < u8.1)) then l (some (false, ())) else bif (!(decide (u7.2.1 = (0 : Int)))) then bif (decide ((0 : Int) ≤ u8.1)) then cl (r18).dflt (M18 ()) (fun u40 => l (some u40)) (l none) else l (some (false, ())) else bif (decide (u8.1 ≤ u7.1)) then bif (decide ((0 : Int) ≤ u8.1)) then cl (r18).dflt (M18 ()) (fun u41 => l (some u41)) (l none) else l (some (false, ())) else l (some (false, ())) else bif (!(decide (u7.2.1 = (0 : Int)))) then bif (decide ((0 : Int) ≤ u8.1)) then cl (r18).dflt (M18 ()) (fun u42 => l (some u42)) (l none) else l (some (false, ())) else bif (decide (u8.1 ≤ u7.1)) then bif (decide ((0 : Int) ≤ u8.1)) then cl (r18).dflt (M18 ()) (fun u43 => l (some u43)) (l none) else l (some (false, ())) else l (some (false, ())) else bif (!(decide (u8.2.2.1 = (0 : Int)))) then cl (r18).dflt (M18 ()) (fun u44 => l (some u44)) (l none) else bif (!(decide (u8.2.1 = (-1 : Int)))) then bif (!(decide (u7.2.1 = (0 : Int)))) then l (some (false, ())) else bif (decide (u8.2.1 < u7.1)) then l (some (false, ())) else bif (decide (u8.2.1 < u8.1)) then l (some (false, ())) else bif (!(decide (u7.2.1 = (0 : Int)))) then bif (decide ((0 : Int) ≤ u8.1)) then cl (r18).dflt (M18 ()) (fun u45 => l (some u45)) (l none) else l (some (false, ())) else bif (decide (u8.1 ≤ u7.1)) then bif (decide ((0 : Int) ≤ u8.1)) then cl (r18).dflt (M18 ()) (fun u46 => l (some u46)) (l none) else l (some (false, ())) else l (some (false, ())) else bif (!(decide (u7.2.1 = (0 : Int)))) then bif (decide ((0 : Int) ≤ u8.1)) then cl (r18).dflt (M18 ()) (fun u47 => l (some u47)) (l none) else l (some (false, ())) else bif (decide (u8.1 ≤ u7.1)) then bif (decide ((0 : Int) ≤ u8.1)) then cl (r18).dflt (M18 ()) (fun u48 => l (some u48)) (l none) else l (some (false, ())) else l (some (false, ()))) (l none)) (l none)) (l none)) (l none)) (l none)
theorem q5 (x : (a5).den) : runFn Try.prog E0 G5 Try.f5 l5 a5 r5 x = Q5 .leaf .any x := by kernel_rfl
def M5 (x : (a5).den) : Option (r5).den := Q5 (fun r => r) (fun _ _ => none) x
theorem m5 (x : (a5).den) : (runFn Try.prog E0 G5 Try.f5 l5 a5 r5 x).sure = M5 x := by rw [q5]; unfold M5 Q5; simp only [sure_cond, Tree.sure, sure_cl, sure_onExit, sure_onRet, sure_onPanL, sure_onNext, sure_onBrk, sure_onRetO, sure_onPan, sure_onOk, sure_onGPan]
def p5 (x : (a5).den) : Bool := (M5 x).isSome
def v5 (x : (a5).den) : (r5).den := (M5 x).getD (r5).dflt
def k5 : Con := ⟨a5, r5, p5, v5⟩
theorem h5 : Holds Try.prog 5 k5 := holds_of_M' (E := E0) follows_ok g5 eqTy_sound keyTy_sound at5 bd5 (by kernel_rfl) m5 fun G' hlo hF hE => LsOK_kn (by rw [lo5]; exact .nil)
/-- isobar/isobarlaw05.ConeSharp -/
noncomputable def c6 : Code := Try.f6.body.getD .skip
theorem at6 : Try.prog.funcs[6]? = some Try.f6 := by kernel_rfl
theorem bd6 : Try.f6.body = some c6 := by kernel_rfl
theorem cl6 : Callable Try.prog 6 := callable_of at6 (by kernel_rfl) (by kernel_rfl)
abbrev a6 : Ty := T36
abbrev r6 : Ty := T3
noncomputable def G6 : Ctx := Ctx.of [(17, .pure k17), (18, .pure k18), (19, .pure k19), (20, .pure k20), (23, .pure k23), (24, .pure k24)]
theorem g6 : Sound Try.prog (G6) := sound_of (List.forall_mem_cons.2 ⟨⟨cl17, h17⟩, List.forall_mem_cons.2 ⟨⟨cl18, h18⟩, List.forall_mem_cons.2 ⟨⟨cl19, h19⟩, List.forall_mem_cons.2 ⟨⟨cl20, h20⟩, List.forall_mem_cons.2 ⟨⟨cl23, h23⟩, List.forall_mem_cons.2 ⟨⟨cl24, h24⟩, fun _ h => by cases h⟩⟩⟩⟩⟩⟩)
theorem lo6 : loopsOf (c6) = [] := by kernel_rfl
noncomputable def l6 : List Loop := []
def Q6 {α : Type} (l : Option (r6).den → α) (an : α → α → α) (x : (a6).den) : α := cl (r17).dflt (M17 (x.1, ())) (fun u0 => bif (!u0.1) then cl (r18).dflt (M18 ()) (fun u1 => l (some u1)) (l none) else cl (r20).dflt (M20 (x.1, ())) (fun u2 => bif (!u2.1) then cl (r18).dflt (M18 ()) (fun u3 => l (some u3)) (l none) else cl (r23).dflt (M23 (x.1, ())) (fun u4 => cl (r24).dflt (M24 (x.1, (false, ()))) (fun u5 => cl (r19).dflt (M19 (x.1, u5)) (fun u6 => cl (r24).dflt (M24 (x.1, (true, ()))) (fun u7 => cl (r19).dflt (M19 (x.1, u7)) (fun u8 => bif (!(decide (u4.2.2.1 = (0 : Int)))) then bif (decide (u4.2.2.1 = (5 : Int))) then bif (decide (u6.2.1 = (5 : Int))) then bif (decide (u8.2.1 = (5 : Int))) then cl (r18).dflt (M18 ()) (fun u9 => l (some u9)) (l none) else l (some (false, ())) else l (some (false, ())) else l (some (false, ())) else bif (decide (u6.2.1 = (0 : Int))) then bif (decide (u6.1 = u4.1)) then bif (decide (u8.2.1 = (0 : Int))) then bif (decide (u8.1 = u4.2.1)) then cl (r18).dflt (M18 ()) (fun u10 => l (some u10)) (l none) else bif (decide (u8.2.1 = (5 : Int))) then bif (decide (u4.2.1 = (-1 : Int))) then cl (r18).dflt (M18 ()) (fun u11 => l (some u11)) (l none) else l (some (false, ())) else l (some (false, ())) else bif (decide (u8.2.1 = (5 : Int))) then bif (decide (u4.2.1 = (-1 : Int))) then cl (r18).dflt (M18 ()) (fun u12 => l (some u12)) (l none) else l (some (false, ())) else l (some (false, ())) else l (some (false, ())) else l (some (false, ()))) (l none)) (l none)) (l none)) (l none)) (l none)) (l none)) (l none)
theorem q6 (x : (a6).den) : runFn Try.prog E0 G6 Try.f6 l6 a6 r6 x = Q6 .leaf .any x := by kernel_rfl
def M6 (x : (a6).den) : Option (r6).den := Q6 (fun r => r) (fun _ _ => none) x
theorem m6 (x : (a6).den) : (runFn Try.prog E0 G6 Try.f6 l6 a6 r6 x).sure = M6 x := by rw [q6]; unfold M6 Q6; simp only [sure_cond, Tree.sure, sure_cl, sure_onExit, sure_onRet, sure_onPanL, sure_onNext, sure_onBrk, sure_onRetO, sure_onPan, sure_onOk, sure_onGPan]
def p6 (x : (a6).den) : Bool := (M6 x).isSome
def v6 (x : (a6).den) : (r6).den := (M6 x).getD (r6).dflt
def k6 : Con := ⟨a6, r6, p6, v6⟩
theorem h6 : Holds Try.prog 6 k6 := holds_of_M' (E := E0) follows_ok g6 eqTy_sound keyTy_sound at6 bd6 (by kernel_rfl) m6 fun G' hlo hF hE => LsOK_kn (by rw [lo6]; exact .nil)
/-- isobar/isobarref05.Port -/
noncomputable def c26 : Code := Try.f26.body.getD .skip
theorem at26 : Try.prog.funcs[26]? = some Try.f26 := by kernel_rfl
theorem bd26 : Try.f26.body = some c26 := by kernel_rfl
theorem cl26 : Callable Try.prog 26 := callable_of at26 (by kernel_rfl) (by kernel_rfl)
abbrev a26 : Ty := T107
abbrev r26 : Ty := T3
noncomputable def G26 : Ctx := Ctx.of [(60, .pure k60)]
theorem g26 : Sound Try.prog (G26) := sound_of (List.forall_mem_cons.2 ⟨⟨cl60, h60⟩, fun _ h => by cases h⟩)
theorem lo26 : loopsOf (c26) = [] := by kernel_rfl
noncomputable def l26 : List Loop := []
def Q26 {α : Type} (l : Option (r26).den → α) (an : α → α → α) (x : (a26).den) : α := cl (r60).dflt (M60 (x.2.1, ((0 : Int), ((W (((x.1.2.2.2.1.n : Nat) : Int) - (1 : Int))), ())))) (fun u0 => l (some u0)) (l none)
theorem q26 (x : (a26).den) : runFn Try.prog E0 G26 Try.f26 l26 a26 r26 x = Q26 .leaf .any x := by kernel_rfl
def M26 (x : (a26).den) : Option (r26).den := Q26 (fun r => r) (fun _ _ => none) x
theorem m26 (x : (a26).den) : (runFn Try.prog E0 G26 Try.f26 l26 a26 r26 x).sure = M26 x := by rw [q26]; unfold M26 Q26; simp only [sure_cond, Tree.sure, sure_cl, sure_onExit, sure_onRet, sure_onPanL, sure_onNext, sure_onBrk, sure_onRetO, sure_onPan, sure_onOk, sure_onGPan]
def p26 (x : (a26).den) : Bool := (M26 x).isSome
def v26 (x : (a26).den) : (r26).den := (M26 x).getD (r26).dflt
def k26 : Con := ⟨a26, r26, p26, v26⟩
theorem h26 : Holds Try.prog 26 k26 := holds_of_M' (E := E0) follows_ok g26 eqTy_sound keyTy_sound at26 bd26 (by kernel_rfl) m26 fun G' hlo hF hE => LsOK_kn (by rw [lo26]; exact .nil)
/-- isobar/isobarref05.Minute -/
noncomputable def c27 : Code := Try.f27.body.getD .skip
theorem at27 : Try.prog.funcs[27]? = some Try.f27 := by kernel_rfl
theorem bd27 : Try.f27.body = some c27 := by kernel_rfl
theorem cl27 : Callable Try.prog 27 := callable_of at27 (by kernel_rfl) (by kernel_rfl)
abbrev a27 : Ty := T0
abbrev r27 : Ty := T3
noncomputable def G27 : Ctx := Ctx.of [(60, .pure k60)]
theorem g27 : Sound Try.prog (G27) := sound_of (List.forall_mem_cons.2 ⟨⟨cl60, h60⟩, fun _ h => by cases h⟩)
theorem lo27 : loopsOf (c27) = [] := by kernel_rfl
noncomputable def l27 : List Loop := []
def Q27 {α : Type} (l : Option (r27).den → α) (an : α → α → α) (x : (a27).den) : α := cl (r60).dflt (M60 (x.1, ((0 : Int), ((20000 : Int), ())))) (fun u0 => l (some u0)) (l none)
theorem q27 (x : (a27).den) : runFn Try.prog E0 G27 Try.f27 l27 a27 r27 x = Q27 .leaf .any x := by kernel_rfl
def M27 (x : (a27).den) : Option (r27).den := Q27 (fun r => r) (fun _ _ => none) x
theorem m27 (x : (a27).den) : (runFn Try.prog E0 G27 Try.f27 l27 a27 r27 x).sure = M27 x := by rw [q27]; unfold M27 Q27; simp only [sure_cond, Tree.sure, sure_cl, sure_onExit, sure_onRet, sure_onPanL, sure_onNext, sure_onBrk, sure_onRetO, sure_onPan, sure_onOk, sure_onGPan]
def p27 (x : (a27).den) : Bool := (M27 x).isSome
def v27 (x : (a27).den) : (r27).den := (M27 x).getD (r27).dflt
def k27 : Con := ⟨a27, r27, p27, v27⟩
theorem h27 : Holds Try.prog 27 k27 := holds_of_M' (E := E0) follows_ok g27 eqTy_sound keyTy_sound at27 bd27 (by kernel_rfl) m27 fun G' hlo hF hE => LsOK_kn (by rw [lo27]; exact .nil)
/-- isobar/isobarref05.Word -/
noncomputable def c66 : Code := Try.f66.body.getD .skip
theorem at66 : Try.prog.funcs[66]? = some Try.f66 := by kernel_rfl
theorem bd66 : Try.f66.body = some c66 := by kernel_rfl
theorem cl66 : Callable Try.prog 66 := callable_of at66 (by kernel_rfl) (by kernel_rfl)
abbrev a66 : Ty := T76
abbrev r66 : Ty := T0
noncomputable def G66 : Ctx := Ctx.of []
theorem g66 : Sound Try.prog (G66) := sound_of (fun _ h => by cases h)
theorem lo66 : loopsOf (c66) = [] := by kernel_rfl
noncomputable def l66 : List Loop := []
def Q66 {α : Type} (l : Option (r66).den → α) (an : α → α → α) (x : (a66).den) : α := bif x.1 then l (some ((3 : Int), ())) else bif x.2.1 then l (some ((2 : Int), ())) else l (some ((1 : Int), ()))
theorem q66 (x : (a66).den) : runFn Try.prog E0 G66 Try.f66 l66 a66 r66 x = Q66 .leaf .any x := by kernel_rfl
def M66 (x : (a66).den) : Option (r66).den := Q66 (fun r => r) (fun _ _ => none) x
theorem m66 (x : (a66).den) : (runFn Try.prog E0 G66 Try.f66 l66 a66 r66 x).sure = M66 x := by rw [q66]; unfold M66 Q66; simp only [sure_cond, Tree.sure, sure_cl, sure_onExit, sure_onRet, sure_onPanL, sure_onNext, sure_onBrk, sure_onRetO, sure_onPan, sure_onOk, sure_onGPan]
def p66 (x : (a66).den) : Bool := (M66 x).isSome
def v66 (x : (a66).den) : (r66).den := (M66 x).getD (r66).dflt
def k66 : Con := ⟨a66, r66, p66, v66⟩
theorem h66 : Holds Try.prog 66 k66 := holds_of_M' (E := E0) follows_ok g66 eqTy_sound keyTy_sound at66 bd66 (by kernel_rfl) m66 fun G' hlo hF hE => LsOK_kn (by rw [lo66]; exact .nil)
/-- isobar/isobarref05.Up -/
noncomputable def c28 : Code := Try.f28.body.getD .skip
theorem at28 : Try.prog.funcs[28]? = some Try.f28 := by kernel_rfl
theorem bd28 : Try.f28.body = some c28 := by kernel_rfl
theorem cl28 : Callable Try.prog 28 := callable_of at28 (by kernel_rfl) (by kernel_rfl)
abbrev a28 : Ty := T91
abbrev r28 : Ty := T0
noncomputable def G28 : Ctx := Ctx.of [(24, .pure k24), (40, .pure k40), (66, .pure k66)]
theorem g28 : Sound Try.prog (G28) := sound_of (List.forall_mem_cons.2 ⟨⟨cl24, h24⟩, List.forall_mem_cons.2 ⟨⟨cl40, h40⟩, List.forall_mem_cons.2 ⟨⟨cl66, h66⟩, fun _ h => by cases h⟩⟩⟩)
noncomputable def b28x0 : Code := loopBody ((loopsOf (c28))[0]?)
theorem lo28x0 : loopsOf (b28x0) = [] := by kernel_rfl
abbrev cs28x0 : List Pat := [.slot 2 (.pc tI), .slot 3 (.ptr 3), .slot 9 (.ptr 113), .slot 10 (.pc (.sl T0)), .slot 11 (.pc (.sl T0)), .box 3 [.pc tI, .pc (.sl T7), .pc (.sl T2), .pc (.sl T4), .pc tI, .pc tI, .pc tI, .pc tI, .pc tI], .box 113 [.pc tI, .pc tI]]
abbrev vs28x0 : List Pat := [.slot 7 (.pc .bool), .slot 8 (.pc .bool), .slot 12 (.pc tI)]
abbrev ps28x0 : List Pat := [.slot 2 (.pc tI), .slot 3 (.ptr 3), .slot 9 (.ptr 113), .slot 10 (.pc (.sl T0)), .slot 11 (.pc (.sl T0)), .box 3 [.pc tI, .pc (.sl T7), .pc (.sl T2), .pc (.sl T4), .pc tI, .pc tI, .pc tI, .pc tI, .pc tI], .box 113 [.pc tI, .pc tI], .slot 7 (.pc .bool), .slot 8 (.pc .bool), .slot 12 (.pc tI)]
def j28x0 : (patsTy cs28x0).den → (patsTy vs28x0).den → (patsTy ps28x0).den := fun c v => (c.1, (c.2.1, (c.2.2.1, (c.2.2.2.1, (c.2.2.2.2.1, (c.2.2.2.2.2.1, (c.2.2.2.2.2.2.1, v)))))))
def sp28x0 : (patsTy ps28x0).den → (patsTy cs28x0).den × (patsTy vs28x0).den := fun x => ((x.1, (x.2.1, (x.2.2.1, (x.2.2.2.1, (x.2.2.2.2.1, (x.2.2.2.2.2.1, (x.2.2.2.2.2.2.1, ()))))))), x.2.2.2.2.2.2.2)
abbrev wy28x0 : Ways := ⟨[(0, [.slot 7 (.pc .bool), .slot 8 (.pc .bool)])], [], []⟩
abbrev wv28x0 : Ways := ⟨[(0, [.slot 7 (.pc .bool), .slot 8 (.pc .bool)])], [], []⟩
def je28x0 : (id : Nat) → (patsTy cs28x0).den → (patsTy (wayP wv28x0 id)).den → (patsTy (wayP wy28x0 id)).den := fun id => match id with | 0 => fun c y => y | id => fun _ _ => (patsTy (wayP wy28x0 id)).dflt
def jr28x0 : (patsTy cs28x0).den → (patsTy (wv28x0).ret).den → (patsTy (wy28x0).ret).den := fun c y => y
def jp28x0 : (patsTy cs28x0).den → (patsTy (wv28x0).pan).den → (patsTy (wy28x0).pan).den := fun c y => y
def Z28x0 {α : Type} (l : RQ vs28x0 wv28x0 → α) (an : α → α → α) (c : (patsTy cs28x0).den) (v : (patsTy vs28x0).den) : α := bif (decide (v.2.2.1 ≤ c.2.2.2.2.2.2.1.2.1)) then bif v.1 then cl (r40).dflt (M40 (c.2.2.2.2.2.1, (c.2.2.2.2.1, ((W (c.1 - v.2.2.1)), ())))) (fun u0 => bif v.2.1 then l (.next (u0.1, (true, ((W (v.2.2.1 + (1 : Int))), ())))) else cl (r40).dflt (M40 (c.2.2.2.2.2.1, (c.2.2.2.1, ((W (c.1 - v.2.2.1)), ())))) (fun u1 => l (.next (u0.1, (u1.1, ((W (v.2.2.1 + (1 : Int))), ()))))) (l .bad)) (l .bad) else bif v.2.1 then l (.next (false, (true, ((W (v.2.2.1 + (1 : Int))), ())))) else cl (r40).dflt (M40 (c.2.2.2.2.2.1, (c.2.2.2.1, ((W (c.1 - v.2.2.1)), ())))) (fun u2 => l (.next (false, (u2.1, ((W (v.2.2.1 + (1 : Int))), ()))))) (l .bad) else l (.out (.exit 0 (v.1, (v.2.1, ()))))
theorem z28x0 (c : (patsTy cs28x0).den) (v : (patsTy vs28x0).den) : roundQ Try.prog E0 G28 0 52 [] ps28x0 wy28x0 b28x0 [] (j28x0 c v) = Z28x0 (fun r => .leaf (r.lift j28x0 je28x0 jr28x0 jp28x0 c)) .any c v := by kernel_rfl
def S28x0 (c : (patsTy cs28x0).den) (v : (patsTy vs28x0).den) : RQ vs28x0 wv28x0 := Z28x0 (fun r => r) (fun _ _ => .bad) c v
theorem s28x0 (c : (patsTy cs28x0).den) (v : (patsTy vs28x0).den) : detQ (roundQ Try.prog E0 G28 0 52 [] ps28x0 wy28x0 b28x0 [] (j28x0 c v)) = (S28x0 c v).lift j28x0 je28x0 jr28x0 jp28x0 c := by rw [z28x0]; unfold S28x0 Z28x0; simp only [detQ_cond, lift_cond, lift_bad, detQ, detQ_cl, detQ_onExit, detQ_onRet, detQ_onPanL, detQ_onNext, detQ_onBrk, detQ_onRetO, detQ_onPan, detQ_onOk, detQ_onGPan, lift_cl, lift_onExit, lift_onRet, lift_onPanL, lift_onNext, lift_onBrk, lift_onRetO, lift_onPan, lift_onOk, lift_onGPan]
def L28x0 (c : (patsTy cs28x0).den) (v : (patsTy vs28x0).den) : LQ wv28x0 := iterQ (S28x0 c) big v
theorem lo28 : loopsOf (c28) = [.loop b28x0] := by kernel_rfl
noncomputable def l28 : List Loop := [.known (loopZ 0 [] ps28x0 fun x => spreadV wy28x0 je28x0 jr28x0 jp28x0 [] false (sp28x0 x).1 (L28x0 (sp28x0 x).1 (sp28x0 x).2) wy28x0.exits)]
def Q28 {α : Type} (l : Option (r28).den → α) (an : α → α → α) (x : (a28).den) : α := bif (decide (((0 : Int) ≤ x.2.1) ∧ (x.2.1 < ((x.1.2.2.2.1.n : Nat) : Int)))) then cl (r24).dflt (M24 (x.1, (false, ()))) (fun u3 => cl (r24).dflt (M24 (x.1, (true, ()))) (fun u4 => onExit (L28x0 (x.2.2.1, ((), ((), (u3.1, (u4.1, (x.1, (((x.1.2.2.2.1.g (Int.toNat x.2.1)).1, ((x.1.2.2.2.1.g (Int.toNat x.2.1)).2.1, ())), ()))))))) (true, (false, ((x.1.2.2.2.1.g (Int.toNat x.2.1)).1, ())))) 0 (fun u5 => cl (r66).dflt (M66 u5) (fun u6 => l (some u6)) (l none)) (l none)) (l none)) (l none) else l none
theorem q28 (x : (a28).den) : runFn Try.prog E0 G28 Try.f28 l28 a28 r28 x = Q28 .leaf .any x := by kernel_rfl
def M28 (x : (a28).den) : Option (r28).den := Q28 (fun r => r) (fun _ _ => none) x
theorem m28 (x : (a28).den) : (runFn Try.prog E0 G28 Try.f28 l28 a28 r28 x).sure = M28 x := by rw [q28]; unfold M28 Q28; simp only [sure_cond, Tree.sure, sure_cl, sure_onExit, sure_onRet, sure_onPanL, sure_onNext, sure_onBrk, sure_onRetO, sure_onPan, sure_onOk, sure_onGPan]
def p28 (x : (a28).den) : Bool := (M28 x).isSome
def v28 (x : (a28).den) : (r28).den := (M28 x).getD (r28).dflt
def k28 : Con := ⟨a28, r28, p28, v28⟩
theorem h28 : Holds Try.prog 28 k28 := holds_of_M' (E := E0) follows_ok g28 eqTy_sound keyTy_sound at28 bd28 (by kernel_rfl) m28 fun G' hlo hF hE => LsOK_kn (by rw [lo28]; exact .cons (loopV_ok hE hF hlo (LsOK_kn (by rw [lo28x0]; exact .nil)) (by kernel_rfl) (by kernel_rfl) sp28x0 (fun _ => rfl) (fun _ _ => rfl) (s28x0) big) (.nil))
/-- isobar/isobarlaw05.ConeUps -/
noncomputable def c7 : Code := Try.f7.body.getD .skip
theorem at7 : Try.prog.funcs[7]? = some Try.f7 := by kernel_rfl
theorem bd7 : Try.f7.body = some c7 := by kernel_rfl
theorem cl7 : Callable Try.prog 7 := callable_of at7 (by kernel_rfl) (by kernel_rfl)
abbrev a7 : Ty := T91
abbrev r7 : Ty := T3
noncomputable def G7 : Ctx := Ctx.of [(17, .pure k17), (18, .pure k18), (20, .pure k20), (25, .pure k25), (26, .pure k26), (27, .pure k27), (28, .pure k28)]
theorem g7 : Sound Try.prog (G7) := sound_of (List.forall_mem_cons.2 ⟨⟨cl17, h17⟩, List.forall_mem_cons.2 ⟨⟨cl18, h18⟩, List.forall_mem_cons.2 ⟨⟨cl20, h20⟩, List.forall_mem_cons.2 ⟨⟨cl25, h25⟩, List.forall_mem_cons.2 ⟨⟨cl26, h26⟩, List.forall_mem_cons.2 ⟨⟨cl27, h27⟩, List.forall_mem_cons.2 ⟨⟨cl28, h28⟩, fun _ h => by cases h⟩⟩⟩⟩⟩⟩⟩)
theorem lo7 : loopsOf (c7) = [] := by kernel_rfl
noncomputable def l7 : List Loop := []
def Q7 {α : Type} (l : Option (r7).den → α) (an : α → α → α) (x : (a7).den) : α := cl (r17).dflt (M17 (x.1, ())) (fun u0 => bif (!u0.1) then cl (r18).dflt (M18 ()) (fun u1 => l (some u1)) (l none) else cl (r25).dflt (M25 (x.1, x.2)) (fun u2 => cl (r20).dflt (M20 (x.1, ())) (fun u3 => bif (!u3.1) then bif (decide (u2.2.1 = (2 : Int))) then bif (decide (u2.1 = (0 : Int))) then cl (r18).dflt (M18 ()) (fun u4 => l (some u4)) (l none) else l (some (false, ())) else l (some (false, ())) else cl (r26).dflt (M26 (x.1, (x.2.1, ()))) (fun u5 => bif (!u5.1) then bif (decide (u2.2.1 = (2 : Int))) then bif (decide (u2.1 = (0 : Int))) then cl (r18).dflt (M18 ()) (fun u6 => l (some u6)) (l none) else l (some (false, ())) else l (some (false, ())) else cl (r27).dflt (M27 x.2.2) (fun u7 => bif (!u7.1) then bif (decide (u2.2.1 = (2 : Int))) then bif (decide (u2.1 = (0 : Int))) then cl (r18).dflt (M18 ()) (fun u8 => l (some u8)) (l none) else l (some (false, ())) else l (some (false, ())) else bif (decide (u2.2.1 = (0 : Int))) then cl (r28).dflt (M28 (x.1, x.2)) (fun u9 => bif (decide (u2.1 = u9.1)) then cl (r18).dflt (M18 ()) (fun u10 => l (some u10)) (l none) else l (some (false, ()))) (l none) else l (some (false, ()))) (l none)) (l none)) (l none)) (l none)) (l none)
theorem q7 (x : (a7).den) : runFn Try.prog E0 G7 Try.f7 l7 a7 r7 x = Q7 .leaf .any x := by kernel_rfl
def M7 (x : (a7).den) : Option (r7).den := Q7 (fun r => r) (fun _ _ => none) x
theorem m7 (x : (a7).den) : (runFn Try.prog E0 G7 Try.f7 l7 a7 r7 x).sure = M7 x := by rw [q7]; unfold M7 Q7; simp only [sure_cond, Tree.sure, sure_cl, sure_onExit, sure_onRet, sure_onPanL, sure_onNext, sure_onBrk, sure_onRetO, sure_onPan, sure_onOk, sure_onGPan]
def p7 (x : (a7).den) : Bool := (M7 x).isSome
def v7 (x : (a7).den) : (r7).den := (M7 x).getD (r7).dflt
def k7 : Con := ⟨a7, r7, p7, v7⟩
theorem h7 : Holds Try.prog 7 k7 := holds_of_M' (E := E0) follows_ok g7 eqTy_sound keyTy_sound at7 bd7 (by kernel_rfl) m7 fun G' hlo hF hE => LsOK_kn (by rw [lo7]; exact .nil)
/-- isobar/isobarref05.Sight -/
noncomputable def c43 : Code := Try.f43.body.getD .skip
theorem at43 : Try.prog.funcs[43]? = some Try.f43 := by kernel_rfl
theorem bd43 : Try.f43.body = some c43 := by kernel_rfl
theorem cl43 : Callable Try.prog 43 := callable_of at43 (by kernel_rfl) (by kernel_rfl)
abbrev a43 : Ty := T91
abbrev r43 : Ty := T0
noncomputable def G43 : Ctx := Ctx.of [(60, .pure k60)]
theorem g43 : Sound Try.prog (G43) := sound_of (List.forall_mem_cons.2 ⟨⟨cl60, h60⟩, fun _ h => by cases h⟩)
theorem lo43 : loopsOf (c43) = [] := by kernel_rfl
noncomputable def l43 : List Loop := []
def Q43 {α : Type} (l : Option (r43).den → α) (an : α → α → α) (x : (a43).den) : α := cl (r60).dflt (M60 ((Int.tmod x.2.2.1 (1440 : Int)), (x.1.2.2.2.2.2.2.2.1, ((W (x.1.2.2.2.2.2.2.2.2.1 - (1 : Int))), ())))) (fun u0 => bif u0.1 then bif (decide (((0 : Int) ≤ x.2.1) ∧ (x.2.1 < ((x.1.2.2.2.1.n : Nat) : Int)))) then l (some ((x.1.2.2.2.1.g (Int.toNat x.2.1)).2.2.1, ())) else l none else bif (decide (((0 : Int) ≤ x.2.1) ∧ (x.2.1 < ((x.1.2.2.2.1.n : Nat) : Int)))) then l (some (x.1.2.2.2.1.g (Int.toNat x.2.1)).2.2.2) else l none) (l none)
theorem q43 (x : (a43).den) : runFn Try.prog E0 G43 Try.f43 l43 a43 r43 x = Q43 .leaf .any x := by kernel_rfl
def M43 (x : (a43).den) : Option (r43).den := Q43 (fun r => r) (fun _ _ => none) x
theorem m43 (x : (a43).den) : (runFn Try.prog E0 G43 Try.f43 l43 a43 r43 x).sure = M43 x := by rw [q43]; unfold M43 Q43; simp only [sure_cond, Tree.sure, sure_cl, sure_onExit, sure_onRet, sure_onPanL, sure_onNext, sure_onBrk, sure_onRetO, sure_onPan, sure_onOk, sure_onGPan]
def p43 (x : (a43).den) : Bool := (M43 x).isSome
def v43 (x : (a43).den) : (r43).den := (M43 x).getD (r43).dflt
def k43 : Con := ⟨a43, r43, p43, v43⟩
theorem h43 : Holds Try.prog 43 k43 := holds_of_M' (E := E0) follows_ok g43 eqTy_sound keyTy_sound at43 bd43 (by kernel_rfl) m43 fun G' hlo hF hE => LsOK_kn (by rw [lo43]; exact .nil)
/-- isobar/cone.Check -/
noncomputable def c34 : Code := Try.f34.body.getD .skip
theorem at34 : Try.prog.funcs[34]? = some Try.f34 := by kernel_rfl
theorem bd34 : Try.f34.body = some c34 := by kernel_rfl
theorem cl34 : Callable Try.prog 34 := callable_of at34 (by kernel_rfl) (by kernel_rfl)
abbrev a34 : Ty := T36
abbrev r34 : Ty := T0
noncomputable def G34 : Ctx := Ctx.of [(55, .pure k55)]
theorem g34 : Sound Try.prog (G34) := sound_of (List.forall_mem_cons.2 ⟨⟨cl55, h55⟩, fun _ h => by cases h⟩)
theorem lo34 : loopsOf (c34) = [] := by kernel_rfl
noncomputable def l34 : List Loop := []
def Q34 {α : Type} (l : Option (r34).den → α) (an : α → α → α) (x : (a34).den) : α := cl (r55).dflt (M55 (x.1, ())) (fun u0 => bif (!u0.1) then l (some ((2 : Int), ())) else l (some ((0 : Int), ()))) (l none)
theorem q34 (x : (a34).den) : runFn Try.prog E0 G34 Try.f34 l34 a34 r34 x = Q34 .leaf .any x := by kernel_rfl
def M34 (x : (a34).den) : Option (r34).den := Q34 (fun r => r) (fun _ _ => none) x
theorem m34 (x : (a34).den) : (runFn Try.prog E0 G34 Try.f34 l34 a34 r34 x).sure = M34 x := by rw [q34]; unfold M34 Q34; simp only [sure_cond, Tree.sure, sure_cl, sure_onExit, sure_onRet, sure_onPanL, sure_onNext, sure_onBrk, sure_onRetO, sure_onPan, sure_onOk, sure_onGPan]
def p34 (x : (a34).den) : Bool := (M34 x).isSome
def v34 (x : (a34).den) : (r34).den := (M34 x).getD (r34).dflt
def k34 : Con := ⟨a34, r34, p34, v34⟩
theorem h34 : Holds Try.prog 34 k34 := holds_of_M' (E := E0) follows_ok g34 eqTy_sound keyTy_sound at34 bd34 (by kernel_rfl) m34 fun G' hlo hF hE => LsOK_kn (by rw [lo34]; exact .nil)
/-- isobar/isobarlaw05.ConeAlarms -/
noncomputable def c10 : Code := Try.f10.body.getD .skip
theorem at10 : Try.prog.funcs[10]? = some Try.f10 := by kernel_rfl
theorem bd10 : Try.f10.body = some c10 := by kernel_rfl
theorem cl10 : Callable Try.prog 10 := callable_of at10 (by kernel_rfl) (by kernel_rfl)
abbrev a10 : Ty := T36
abbrev r10 : Ty := T3
noncomputable def G10 : Ctx := Ctx.of [(17, .pure k17), (18, .pure k18), (20, .pure k20), (34, .pure k34), (35, .pure k35), (36, .pure k36), (37, .pure k37)]
theorem g10 : Sound Try.prog (G10) := sound_of (List.forall_mem_cons.2 ⟨⟨cl17, h17⟩, List.forall_mem_cons.2 ⟨⟨cl18, h18⟩, List.forall_mem_cons.2 ⟨⟨cl20, h20⟩, List.forall_mem_cons.2 ⟨⟨cl34, h34⟩, List.forall_mem_cons.2 ⟨⟨cl35, h35⟩, List.forall_mem_cons.2 ⟨⟨cl36, h36⟩, List.forall_mem_cons.2 ⟨⟨cl37, h37⟩, fun _ h => by cases h⟩⟩⟩⟩⟩⟩⟩)
theorem lo10 : loopsOf (c10) = [] := by kernel_rfl
noncomputable def l10 : List Loop := []
def Q10 {α : Type} (l : Option (r10).den → α) (an : α → α → α) (x : (a10).den) : α := cl (r17).dflt (M17 (x.1, ())) (fun u0 => bif (!u0.1) then cl (r18).dflt (M18 ()) (fun u1 => l (some u1)) (l none) else cl (r34).dflt (M34 (x.1, ())) (fun u2 => cl (r35).dflt (M35 (x.1, ())) (fun u3 => cl (r20).dflt (M20 (x.1, ())) (fun u4 => bif (!u4.1) then bif (decide (u2.1 = (2 : Int))) then bif (decide (u3.2.1 = (2 : Int))) then bif (decide (((u3.1.n : Nat) : Int) = (0 : Int))) then cl (r18).dflt (M18 ()) (fun u5 => l (some u5)) (l none) else l (some (false, ())) else l (some (false, ())) else l (some (false, ())) else bif (decide (u2.1 = (0 : Int))) then bif (decide (u3.2.1 = (0 : Int))) then cl (r37).dflt (M37 (x.1, ())) (fun u6 => cl (r36).dflt (M36 (u3.1, u6)) (fun u7 => bif u7.1 then cl (r18).dflt (M18 ()) (fun u8 => l (some u8)) (l none) else l (some (false, ()))) (l none)) (l none) else l (some (false, ())) else l (some (false, ()))) (l none)) (l none)) (l none)) (l none)
theorem q10 (x : (a10).den) : runFn Try.prog E0 G10 Try.f10 l10 a10 r10 x = Q10 .leaf .any x := by kernel_rfl
def M10 (x : (a10).den) : Option (r10).den := Q10 (fun r => r) (fun _ _ => none) x
theorem m10 (x : (a10).den) : (runFn Try.prog E0 G10 Try.f10 l10 a10 r10 x).sure = M10 x := by rw [q10]; unfold M10 Q10; simp only [sure_cond, Tree.sure, sure_cl, sure_onExit, sure_onRet, sure_onPanL, sure_onNext, sure_onBrk, sure_onRetO, sure_onPan, sure_onOk, sure_onGPan]
def p10 (x : (a10).den) : Bool := (M10 x).isSome
def v10 (x : (a10).den) : (r10).den := (M10 x).getD (r10).dflt
def k10 : Con := ⟨a10, r10, p10, v10⟩
theorem h10 : Holds Try.prog 10 k10 := holds_of_M' (E := E0) follows_ok g10 eqTy_sound keyTy_sound at10 bd10 (by kernel_rfl) m10 fun G' hlo hF hE => LsOK_kn (by rw [lo10]; exact .nil)
/-- isobar/cone.hoisted -/
noncomputable def c71 : Code := Try.f71.body.getD .skip
theorem at71 : Try.prog.funcs[71]? = some Try.f71 := by kernel_rfl
theorem bd71 : Try.f71.body = some c71 := by kernel_rfl
theorem cl71 : Callable Try.prog 71 := callable_of at71 (by kernel_rfl) (by kernel_rfl)
abbrev T111 : Ty := (.cons (.sl T0) T2)
abbrev T112 : Ty := (.cons T19 T111)
abbrev a71 : Ty := T112
abbrev r71 : Ty := T3
noncomputable def G71 : Ctx := Ctx.of [(55, .pure k55), (56, .pure k56), (63, .pure k63)]
theorem g71 : Sound Try.prog (G71) := sound_of (List.forall_mem_cons.2 ⟨⟨cl55, h55⟩, List.forall_mem_cons.2 ⟨⟨cl56, h56⟩, List.forall_mem_cons.2 ⟨⟨cl63, h63⟩, fun _ h => by cases h⟩⟩⟩)
theorem lo71 : loopsOf (c71) = [] := by kernel_rfl
noncomputable def l71 : List Loop := []
def Q71 {α : Type} (l : Option (r71).den → α) (an : α → α → α) (x : (a71).den) : α := cl (r55).dflt (M55 (x.1, ())) (fun u0 => bif u0.1 then cl (r56).dflt (M56 (x.1, (x.2.1, ()))) (fun u1 => bif u1.1 then cl (r63).dflt (M63 (x.2.2.1, ((0 : Int), ((W (((x.1.2.2.2.1.n : Nat) : Int) - (1 : Int))), ())))) (fun u2 => bif u2.1 then bif (decide (((0 : Int) ≤ x.2.2.1) ∧ (x.2.2.1 < ((x.1.2.2.2.1.n : Nat) : Int)))) then bif (decide (((0 : Int) ≤ x.2.2.1) ∧ (x.2.2.1 < ((x.1.2.2.2.1.n : Nat) : Int)))) then cl (r63).dflt (M63 (x.2.2.2.1, ((x.1.2.2.2.1.g (Int.toNat x.2.2.1)).1, ((x.1.2.2.2.1.g (Int.toNat x.2.2.1)).2.1, ())))) (fun u3 => bif u3.1 then cl (r63).dflt (M63 (x.2.2.2.2.1, ((0 : Int), ((20000 : Int), ())))) (fun u4 => l (some u4)) (l none) else l (some (false, ()))) (l none) else l none else l none else l (some (false, ()))) (l none) else l (some (false, ()))) (l none) else l (some (false, ()))) (l none)
theorem q71 (x : (a71).den) : runFn Try.prog E0 G71 Try.f71 l71 a71 r71 x = Q71 .leaf .any x := by kernel_rfl
def M71 (x : (a71).den) : Option (r71).den := Q71 (fun r => r) (fun _ _ => none) x
theorem m71 (x : (a71).den) : (runFn Try.prog E0 G71 Try.f71 l71 a71 r71 x).sure = M71 x := by rw [q71]; unfold M71 Q71; simp only [sure_cond, Tree.sure, sure_cl, sure_onExit, sure_onRet, sure_onPanL, sure_onNext, sure_onBrk, sure_onRetO, sure_onPan, sure_onOk, sure_onGPan]
def p71 (x : (a71).den) : Bool := (M71 x).isSome
def v71 (x : (a71).den) : (r71).den := (M71 x).getD (r71).dflt
def k71 : Con := ⟨a71, r71, p71, v71⟩
theorem h71 : Holds Try.prog 71 k71 := holds_of_M' (E := E0) follows_ok g71 eqTy_sound keyTy_sound at71 bd71 (by kernel_rfl) m71 fun G' hlo hF hE => LsOK_kn (by rw [lo71]; exact .nil)
/-- isobar/cone.Hoisted -/
noncomputable def c38 : Code := Try.f38.body.getD .skip
theorem at38 : Try.prog.funcs[38]? = some Try.f38 := by kernel_rfl
theorem bd38 : Try.f38.body = some c38 := by kernel_rfl
theorem cl38 : Callable Try.prog 38 := callable_of at38 (by kernel_rfl) (by kernel_rfl)
abbrev T113 : Ty := (.cons .bool T0)
abbrev a38 : Ty := T112
abbrev r38 : Ty := T113
noncomputable def G38 : Ctx := Ctx.of [(57, .pure k57), (71, .pure k71), (72, .pure k72)]
theorem g38 : Sound Try.prog (G38) := sound_of (List.forall_mem_cons.2 ⟨⟨cl57, h57⟩, List.forall_mem_cons.2 ⟨⟨cl71, h71⟩, List.forall_mem_cons.2 ⟨⟨cl72, h72⟩, fun _ h => by cases h⟩⟩⟩)
theorem lo38 : loopsOf (c38) = [] := by kernel_rfl
noncomputable def l38 : List Loop := []
def Q38 {α : Type} (l : Option (r38).den → α) (an : α → α → α) (x : (a38).den) : α := cl (r71).dflt (M71 (x.1, x.2)) (fun u0 => bif (!u0.1) then l (some (false, ((2 : Int), ()))) else cl (r57).dflt (M57 (x.1, ())) (fun u1 => cl (r72).dflt (M72 (u1.1, (x.2.1, ((W (x.2.2.2.2.1 - x.2.2.2.1)), ())))) (fun u2 => l (some (u2.1, ((0 : Int), ())))) (l none)) (l none)) (l none)
theorem q38 (x : (a38).den) : runFn Try.prog E0 G38 Try.f38 l38 a38 r38 x = Q38 .leaf .any x := by kernel_rfl
def M38 (x : (a38).den) : Option (r38).den := Q38 (fun r => r) (fun _ _ => none) x
theorem m38 (x : (a38).den) : (runFn Try.prog E0 G38 Try.f38 l38 a38 r38 x).sure = M38 x := by rw [q38]; unfold M38 Q38; simp only [sure_cond, Tree.sure, sure_cl, sure_onExit, sure_onRet, sure_onPanL, sure_onNext, sure_onBrk, sure_onRetO, sure_onPan, sure_onOk, sure_onGPan]
def p38 (x : (a38).den) : Bool := (M38 x).isSome
def v38 (x : (a38).den) : (r38).den := (M38 x).getD (r38).dflt
def k38 : Con := ⟨a38, r38, p38, v38⟩
theorem h38 : Holds Try.prog 38 k38 := holds_of_M' (E := E0) follows_ok g38 eqTy_sound keyTy_sound at38 bd38 (by kernel_rfl) m38 fun G' hlo hF hE => LsOK_kn (by rw [lo38]; exact .nil)
/-- isobar/isobarref05.Order -/
noncomputable def c39 : Code := Try.f39.body.getD .skip
theorem at39 : Try.prog.funcs[39]? = some Try.f39 := by kernel_rfl
theorem bd39 : Try.f39.body = some c39 := by kernel_rfl
theorem cl39 : Callable Try.prog 39 := callable_of at39 (by kernel_rfl) (by kernel_rfl)
abbrev a39 : Ty := T91
abbrev r39 : Ty := T3
noncomputable def G39 : Ctx := Ctx.of [(26, .pure k26), (60, .pure k60)]
theorem g39 : Sound Try.prog (G39) := sound_of (List.forall_mem_cons.2 ⟨⟨cl26, h26⟩, List.forall_mem_cons.2 ⟨⟨cl60, h60⟩, fun _ h => by cases h⟩⟩)
theorem lo39 : loopsOf (c39) = [] := by kernel_rfl
noncomputable def l39 : List Loop := []
def Q39 {α : Type} (l : Option (r39).den → α) (an : α → α → α) (x : (a39).den) : α := cl (r26).dflt (M26 (x.1, (x.2.1, ()))) (fun u0 => bif u0.1 then bif (decide (((0 : Int) ≤ x.2.1) ∧ (x.2.1 < ((x.1.2.2.2.1.n : Nat) : Int)))) then bif (decide (((0 : Int) ≤ x.2.1) ∧ (x.2.1 < ((x.1.2.2.2.1.n : Nat) : Int)))) then cl (r60).dflt (M60 (x.2.2.1, ((x.1.2.2.2.1.g (Int.toNat x.2.1)).1, ((x.1.2.2.2.1.g (Int.toNat x.2.1)).2.1, ())))) (fun u1 => l (some u1)) (l none) else l none else l none else l (some (false, ()))) (l none)
theorem q39 (x : (a39).den) : runFn Try.prog E0 G39 Try.f39 l39 a39 r39 x = Q39 .leaf .any x := by kernel_rfl
def M39 (x : (a39).den) : Option (r39).den := Q39 (fun r => r) (fun _ _ => none) x
theorem m39 (x : (a39).den) : (runFn Try.prog E0 G39 Try.f39 l39 a39 r39 x).sure = M39 x := by rw [q39]; unfold M39 Q39; simp only [sure_cond, Tree.sure, sure_cl, sure_onExit, sure_onRet, sure_onPanL, sure_onNext, sure_onBrk, sure_onRetO, sure_onPan, sure_onOk, sure_onGPan]
def p39 (x : (a39).den) : Bool := (M39 x).isSome
def v39 (x : (a39).den) : (r39).den := (M39 x).getD (r39).dflt
def k39 : Con := ⟨a39, r39, p39, v39⟩
theorem h39 : Holds Try.prog 39 k39 := holds_of_M' (E := E0) follows_ok g39 eqTy_sound keyTy_sound at39 bd39 (by kernel_rfl) m39 fun G' hlo hF hE => LsOK_kn (by rw [lo39]; exact .nil)
/-- isobar/isobarlaw05.ConeHoists -/
noncomputable def c11 : Code := Try.f11.body.getD .skip
theorem at11 : Try.prog.funcs[11]? = some Try.f11 := by kernel_rfl
theorem bd11 : Try.f11.body = some c11 := by kernel_rfl
theorem cl11 : Callable Try.prog 11 := callable_of at11 (by kernel_rfl) (by kernel_rfl)
abbrev a11 : Ty := T112
abbrev r11 : Ty := T3
noncomputable def G11 : Ctx := Ctx.of [(17, .pure k17), (18, .pure k18), (20, .pure k20), (21, .pure k21), (27, .pure k27), (38, .pure k38), (39, .pure k39), (40, .pure k40)]
theorem g11 : Sound Try.prog (G11) := sound_of (List.forall_mem_cons.2 ⟨⟨cl17, h17⟩, List.forall_mem_cons.2 ⟨⟨cl18, h18⟩, List.forall_mem_cons.2 ⟨⟨cl20, h20⟩, List.forall_mem_cons.2 ⟨⟨cl21, h21⟩, List.forall_mem_cons.2 ⟨⟨cl27, h27⟩, List.forall_mem_cons.2 ⟨⟨cl38, h38⟩, List.forall_mem_cons.2 ⟨⟨cl39, h39⟩, List.forall_mem_cons.2 ⟨⟨cl40, h40⟩, fun _ h => by cases h⟩⟩⟩⟩⟩⟩⟩⟩)
theorem lo11 : loopsOf (c11) = [] := by kernel_rfl
noncomputable def l11 : List Loop := []
def Q11 {α : Type} (l : Option (r11).den → α) (an : α → α → α) (x : (a11).den) : α := cl (r17).dflt (M17 (x.1, ())) (fun u0 => bif (!u0.1) then cl (r18).dflt (M18 ()) (fun u1 => l (some u1)) (l none) else bif (decide ((12 : Int) < ((x.2.1.n : Nat) : Int))) then cl (r18).dflt (M18 ()) (fun u2 => l (some u2)) (l none) else cl (r38).dflt (M38 (x.1, x.2)) (fun u3 => cl (r20).dflt (M20 (x.1, ())) (fun u4 => bif (!u4.1) then bif (decide (u3.2.1 = (2 : Int))) then bif (!u3.1) then cl (r18).dflt (M18 ()) (fun u5 => l (some u5)) (l none) else l (some (false, ())) else l (some (false, ())) else cl (r21).dflt (M21 (x.1, (x.2.1, ()))) (fun u6 => bif (!u6.1) then bif (decide (u3.2.1 = (2 : Int))) then bif (!u3.1) then cl (r18).dflt (M18 ()) (fun u7 => l (some u7)) (l none) else l (some (false, ())) else l (some (false, ())) else cl (r39).dflt (M39 (x.1, (x.2.2.1, (x.2.2.2.1, ())))) (fun u8 => bif (!u8.1) then bif (decide (u3.2.1 = (2 : Int))) then bif (!u3.1) then cl (r18).dflt (M18 ()) (fun u9 => l (some u9)) (l none) else l (some (false, ())) else l (some (false, ())) else cl (r27).dflt (M27 x.2.2.2.2) (fun u10 => bif (!u10.1) then bif (decide (u3.2.1 = (2 : Int))) then bif (!u3.1) then cl (r18).dflt (M18 ()) (fun u11 => l (some u11)) (l none) else l (some (false, ())) else l (some (false, ())) else bif (decide (u3.2.1 = (0 : Int))) then cl (r40).dflt (M40 (x.1, (x.2.1, ((W (x.2.2.2.2.1 - x.2.2.2.1)), ())))) (fun u12 => bif (u3.1 == u12.1) then cl (r18).dflt (M18 ()) (fun u13 => l (some u13)) (l none) else l (some (false, ()))) (l none) else l (some (false, ()))) (l none)) (l none)) (l none)) (l none)) (l none)) (l none)
theorem q11 (x : (a11).den) : runFn Try.prog E0 G11 Try.f11 l11 a11 r11 x = Q11 .leaf .any x := by kernel_rfl
def M11 (x : (a11).den) : Option (r11).den := Q11 (fun r => r) (fun _ _ => none) x
theorem m11 (x : (a11).den) : (runFn Try.prog E0 G11 Try.f11 l11 a11 r11 x).sure = M11 x := by rw [q11]; unfold M11 Q11; simp only [sure_cond, Tree.sure, sure_cl, sure_onExit, sure_onRet, sure_onPanL, sure_onNext, sure_onBrk, sure_onRetO, sure_onPan, sure_onOk, sure_onGPan]
def p11 (x : (a11).den) : Bool := (M11 x).isSome
def v11 (x : (a11).den) : (r11).den := (M11 x).getD (r11).dflt
def k11 : Con := ⟨a11, r11, p11, v11⟩
theorem h11 : Holds Try.prog 11 k11 := holds_of_M' (E := E0) follows_ok g11 eqTy_sound keyTy_sound at11 bd11 (by kernel_rfl) m11 fun G' hlo hF hE => LsOK_kn (by rw [lo11]; exact .nil)
/-- isobar/cone.Seen -/
noncomputable def c41 : Code := Try.f41.body.getD .skip
theorem at41 : Try.prog.funcs[41]? = some Try.f41 := by kernel_rfl
theorem bd41 : Try.f41.body = some c41 := by kernel_rfl
theorem cl41 : Callable Try.prog 41 := callable_of at41 (by kernel_rfl) (by kernel_rfl)
abbrev T114 : Ty := (.cons (.sl T0) T4)
abbrev T115 : Ty := (.cons T19 T114)
abbrev a41 : Ty := T115
abbrev r41 : Ty := T113
noncomputable def G41 : Ctx := Ctx.of [(57, .pure k57), (63, .pure k63), (68, .pure k68), (71, .pure k71), (72, .pure k72)]
theorem g41 : Sound Try.prog (G41) := sound_of (List.forall_mem_cons.2 ⟨⟨cl57, h57⟩, List.forall_mem_cons.2 ⟨⟨cl63, h63⟩, List.forall_mem_cons.2 ⟨⟨cl68, h68⟩, List.forall_mem_cons.2 ⟨⟨cl71, h71⟩, List.forall_mem_cons.2 ⟨⟨cl72, h72⟩, fun _ h => by cases h⟩⟩⟩⟩⟩)
theorem lo41 : loopsOf (c41) = [] := by kernel_rfl
noncomputable def l41 : List Loop := []
def Q41 {α : Type} (l : Option (r41).den → α) (an : α → α → α) (x : (a41).den) : α := cl (r71).dflt (M71 (x.1, (x.2.1, (x.2.2.1, (x.2.2.2.1, (x.2.2.2.2.1, ())))))) (fun u0 => bif (!u0.1) then l (some (false, ((2 : Int), ()))) else cl (r63).dflt (M63 (x.2.2.2.2.2.1, ((0 : Int), ((50000 : Int), ())))) (fun u1 => bif (!u1.1) then l (some (false, ((2 : Int), ()))) else cl (r57).dflt (M57 (x.1, ())) (fun u2 => cl (r68).dflt (M68 (u2.1, (x.2.2.1, (x.2.2.2.2.1, ())))) (fun u3 => bif (decide (x.2.2.2.2.2.1 ≤ u3.1)) then cl (r72).dflt (M72 (u2.1, (x.2.1, ((W (x.2.2.2.2.1 - x.2.2.2.1)), ())))) (fun u4 => l (some (u4.1, ((0 : Int), ())))) (l none) else l (some (false, ((0 : Int), ())))) (l none)) (l none)) (l none)) (l none)
theorem q41 (x : (a41).den) : runFn Try.prog E0 G41 Try.f41 l41 a41 r41 x = Q41 .leaf .any x := by kernel_rfl
def M41 (x : (a41).den) : Option (r41).den := Q41 (fun r => r) (fun _ _ => none) x
theorem m41 (x : (a41).den) : (runFn Try.prog E0 G41 Try.f41 l41 a41 r41 x).sure = M41 x := by rw [q41]; unfold M41 Q41; simp only [sure_cond, Tree.sure, sure_cl, sure_onExit, sure_onRet, sure_onPanL, sure_onNext, sure_onBrk, sure_onRetO, sure_onPan, sure_onOk, sure_onGPan]
def p41 (x : (a41).den) : Bool := (M41 x).isSome
def v41 (x : (a41).den) : (r41).den := (M41 x).getD (r41).dflt
def k41 : Con := ⟨a41, r41, p41, v41⟩
theorem h41 : Holds Try.prog 41 k41 := holds_of_M' (E := E0) follows_ok g41 eqTy_sound keyTy_sound at41 bd41 (by kernel_rfl) m41 fun G' hlo hF hE => LsOK_kn (by rw [lo41]; exact .nil)
/-- isobar/isobarref05.Away -/
noncomputable def c42 : Code := Try.f42.body.getD .skip
theorem at42 : Try.prog.funcs[42]? = some Try.f42 := by kernel_rfl
theorem bd42 : Try.f42.body = some c42 := by kernel_rfl
theorem cl42 : Callable Try.prog 42 := callable_of at42 (by kernel_rfl) (by kernel_rfl)
abbrev a42 : Ty := T0
abbrev r42 : Ty := T3
noncomputable def G42 : Ctx := Ctx.of [(60, .pure k60)]
theorem g42 : Sound Try.prog (G42) := sound_of (List.forall_mem_cons.2 ⟨⟨cl60, h60⟩, fun _ h => by cases h⟩)
theorem lo42 : loopsOf (c42) = [] := by kernel_rfl
noncomputable def l42 : List Loop := []
def Q42 {α : Type} (l : Option (r42).den → α) (an : α → α → α) (x : (a42).den) : α := cl (r60).dflt (M60 (x.1, ((0 : Int), ((50000 : Int), ())))) (fun u0 => l (some u0)) (l none)
theorem q42 (x : (a42).den) : runFn Try.prog E0 G42 Try.f42 l42 a42 r42 x = Q42 .leaf .any x := by kernel_rfl
def M42 (x : (a42).den) : Option (r42).den := Q42 (fun r => r) (fun _ _ => none) x
theorem m42 (x : (a42).den) : (runFn Try.prog E0 G42 Try.f42 l42 a42 r42 x).sure = M42 x := by rw [q42]; unfold M42 Q42; simp only [sure_cond, Tree.sure, sure_cl, sure_onExit, sure_onRet, sure_onPanL, sure_onNext, sure_onBrk, sure_onRetO, sure_onPan, sure_onOk, sure_onGPan]
def p42 (x : (a42).den) : Bool := (M42 x).isSome
def v42 (x : (a42).den) : (r42).den := (M42 x).getD (r42).dflt
def k42 : Con := ⟨a42, r42, p42, v42⟩
theorem h42 : Holds Try.prog 42 k42 := holds_of_M' (E := E0) follows_ok g42 eqTy_sound keyTy_sound at42 bd42 (by kernel_rfl) m42 fun G' hlo hF hE => LsOK_kn (by rw [lo42]; exact .nil)
/-- isobar/isobarlaw05.ConeBoats -/
noncomputable def c13 : Code := Try.f13.body.getD .skip
theorem at13 : Try.prog.funcs[13]? = some Try.f13 := by kernel_rfl
theorem bd13 : Try.f13.body = some c13 := by kernel_rfl
theorem cl13 : Callable Try.prog 13 := callable_of at13 (by kernel_rfl) (by kernel_rfl)
abbrev a13 : Ty := T115
abbrev r13 : Ty := T3
noncomputable def G13 : Ctx := Ctx.of [(17, .pure k17), (18, .pure k18), (20, .pure k20), (21, .pure k21), (27, .pure k27), (39, .pure k39), (40, .pure k40), (41, .pure k41), (42, .pure k42), (43, .pure k43)]
theorem g13 : Sound Try.prog (G13) := sound_of (List.forall_mem_cons.2 ⟨⟨cl17, h17⟩, List.forall_mem_cons.2 ⟨⟨cl18, h18⟩, List.forall_mem_cons.2 ⟨⟨cl20, h20⟩, List.forall_mem_cons.2 ⟨⟨cl21, h21⟩, List.forall_mem_cons.2 ⟨⟨cl27, h27⟩, List.forall_mem_cons.2 ⟨⟨cl39, h39⟩, List.forall_mem_cons.2 ⟨⟨cl40, h40⟩, List.forall_mem_cons.2 ⟨⟨cl41, h41⟩, List.forall_mem_cons.2 ⟨⟨cl42, h42⟩, List.forall_mem_cons.2 ⟨⟨cl43, h43⟩, fun _ h => by cases h⟩⟩⟩⟩⟩⟩⟩⟩⟩⟩)
theorem lo13 : loopsOf (c13) = [] := by kernel_rfl
noncomputable def l13 : List Loop := []
def Q13 {α : Type} (l : Option (r13).den → α) (an : α → α → α) (x : (a13).den) : α := cl (r17).dflt (M17 (x.1, ())) (fun u0 => bif (!u0.1) then cl (r18).dflt (M18 ()) (fun u1 => l (some u1)) (l none) else bif (decide ((12 : Int) < ((x.2.1.n : Nat) : Int))) then cl (r18).dflt (M18 ()) (fun u2 => l (some u2)) (l none) else cl (r41).dflt (M41 (x.1, x.2)) (fun u3 => cl (r20).dflt (M20 (x.1, ())) (fun u4 => bif (!u4.1) then bif (decide (u3.2.1 = (2 : Int))) then bif (!u3.1) then cl (r18).dflt (M18 ()) (fun u5 => l (some u5)) (l none) else l (some (false, ())) else l (some (false, ())) else cl (r21).dflt (M21 (x.1, (x.2.1, ()))) (fun u6 => bif (!u6.1) then bif (decide (u3.2.1 = (2 : Int))) then bif (!u3.1) then cl (r18).dflt (M18 ()) (fun u7 => l (some u7)) (l none) else l (some (false, ())) else l (some (false, ())) else cl (r39).dflt (M39 (x.1, (x.2.2.1, (x.2.2.2.1, ())))) (fun u8 => bif (!u8.1) then bif (decide (u3.2.1 = (2 : Int))) then bif (!u3.1) then cl (r18).dflt (M18 ()) (fun u9 => l (some u9)) (l none) else l (some (false, ())) else l (some (false, ())) else cl (r27).dflt (M27 (x.2.2.2.2.1, ())) (fun u10 => bif (!u10.1) then bif (decide (u3.2.1 = (2 : Int))) then bif (!u3.1) then cl (r18).dflt (M18 ()) (fun u11 => l (some u11)) (l none) else l (some (false, ())) else l (some (false, ())) else cl (r42).dflt (M42 x.2.2.2.2.2) (fun u12 => bif (!u12.1) then bif (decide (u3.2.1 = (2 : Int))) then bif (!u3.1) then cl (r18).dflt (M18 ()) (fun u13 => l (some u13)) (l none) else l (some (false, ())) else l (some (false, ())) else bif (decide (u3.2.1 = (0 : Int))) then cl (r40).dflt (M40 (x.1, (x.2.1, ((W (x.2.2.2.2.1 - x.2.2.2.1)), ())))) (fun u14 => bif u14.1 then cl (r43).dflt (M43 (x.1, (x.2.2.1, (x.2.2.2.2.1, ())))) (fun u15 => bif (u3.1 == (decide (x.2.2.2.2.2.1 ≤ u15.1))) then cl (r18).dflt (M18 ()) (fun u16 => l (some u16)) (l none) else l (some (false, ()))) (l none) else bif (u3.1 == false) then cl (r18).dflt (M18 ()) (fun u17 => l (some u17)) (l none) else l (some (false, ()))) (l none) else l (some (false, ()))) (l none)) (l none)) (l none)) (l none)) (l none)) (l none)) (l none)
theorem q13 (x : (a13).den) : runFn Try.prog E0 G13 Try.f13 l13 a13 r13 x = Q13 .leaf .any x := by kernel_rfl
def M13 (x : (a13).den) : Option (r13).den := Q13 (fun r => r) (fun _ _ => none) x
theorem m13 (x : (a13).den) : (runFn Try.prog E0 G13 Try.f13 l13 a13 r13 x).sure = M13 x := by rw [q13]; unfold M13 Q13; simp only [sure_cond, Tree.sure, sure_cl, sure_onExit, sure_onRet, sure_onPanL, sure_onNext, sure_onBrk, sure_onRetO, sure_onPan, sure_onOk, sure_onGPan]
def p13 (x : (a13).den) : Bool := (M13 x).isSome
def v13 (x : (a13).den) : (r13).den := (M13 x).getD (r13).dflt
def k13 : Con := ⟨a13, r13, p13, v13⟩
theorem h13 : Holds Try.prog 13 k13 := holds_of_M' (E := E0) follows_ok g13 eqTy_sound keyTy_sound at13 bd13 (by kernel_rfl) m13 fun G' hlo hF hE => LsOK_kn (by rw [lo13]; exact .nil)
/-- isobar/cone.Suffice -/
noncomputable def c44 : Code := Try.f44.body.getD .skip
theorem at44 : Try.prog.funcs[44]? = some Try.f44 := by kernel_rfl
theorem bd44 : Try.f44.body = some c44 := by kernel_rfl
theorem cl44 : Callable Try.prog 44 := callable_of at44 (by kernel_rfl) (by kernel_rfl)
abbrev a44 : Ty := T109
abbrev r44 : Ty := T113
noncomputable def G44 : Ctx := Ctx.of [(55, .pure k55), (57, .pure k57), (63, .pure k63), (73, .pure k73)]
theorem g44 : Sound Try.prog (G44) := sound_of (List.forall_mem_cons.2 ⟨⟨cl55, h55⟩, List.forall_mem_cons.2 ⟨⟨cl57, h57⟩, List.forall_mem_cons.2 ⟨⟨cl63, h63⟩, List.forall_mem_cons.2 ⟨⟨cl73, h73⟩, fun _ h => by cases h⟩⟩⟩⟩)
noncomputable def b44x0 : Code := loopBody ((loopsOf (c44))[0]?)
theorem lo44x0 : loopsOf (b44x0) = [] := by kernel_rfl
abbrev cs44x0 : List Pat := [.slot 1 (.pc (.sl T0)), .slot 2 (.pc tI), .slot 3 (.ptr 3), .slot 19 (.pc (.sl T0)), .slot 20 (.pc tI), .box 3 [.pc tI, .pc (.sl T7), .pc (.sl T2), .pc (.sl T4), .pc tI, .pc tI, .pc tI, .pc tI, .pc tI]]
abbrev vs44x0 : List Pat := [.slot 8 (.pc tI), .slot 21 (.pc tI)]
abbrev ps44x0 : List Pat := [.slot 1 (.pc (.sl T0)), .slot 2 (.pc tI), .slot 3 (.ptr 3), .slot 19 (.pc (.sl T0)), .slot 20 (.pc tI), .box 3 [.pc tI, .pc (.sl T7), .pc (.sl T2), .pc (.sl T4), .pc tI, .pc tI, .pc tI, .pc tI, .pc tI], .slot 8 (.pc tI), .slot 21 (.pc tI)]
def j44x0 : (patsTy cs44x0).den → (patsTy vs44x0).den → (patsTy ps44x0).den := fun c v => (c.1, (c.2.1, (c.2.2.1, (c.2.2.2.1, (c.2.2.2.2.1, (c.2.2.2.2.2.1, v))))))
def sp44x0 : (patsTy ps44x0).den → (patsTy cs44x0).den × (patsTy vs44x0).den := fun x => ((x.1, (x.2.1, (x.2.2.1, (x.2.2.2.1, (x.2.2.2.2.1, (x.2.2.2.2.2.1, ())))))), x.2.2.2.2.2.2)
abbrev wy44x0 : Ways := ⟨[(0, [.slot 1 (.pc (.sl T0)), .slot 2 (.pc tI), .slot 3 (.ptr 3), .box 3 [.pc tI, .pc (.sl T7), .pc (.sl T2), .pc (.sl T4), .pc tI, .pc tI, .pc tI, .pc tI, .pc tI]])], [.slot 6 (.pc .bool), .slot 7 (.pc tI)], []⟩
abbrev wv44x0 : Ways := ⟨[(0, [])], [.slot 6 (.pc .bool), .slot 7 (.pc tI)], []⟩
def je44x0 : (id : Nat) → (patsTy cs44x0).den → (patsTy (wayP wv44x0 id)).den → (patsTy (wayP wy44x0 id)).den := fun id => match id with | 0 => fun c y => (c.1, (c.2.1, (c.2.2.1, (c.2.2.2.2.2.1, y)))) | id => fun _ _ => (patsTy (wayP wy44x0 id)).dflt
def jr44x0 : (patsTy cs44x0).den → (patsTy (wv44x0).ret).den → (patsTy (wy44x0).ret).den := fun c y => y
def jp44x0 : (patsTy cs44x0).den → (patsTy (wv44x0).pan).den → (patsTy (wy44x0).pan).den := fun c y => y
def Z44x0 {α : Type} (l : RQ vs44x0 wv44x0 → α) (an : α → α → α) (c : (patsTy cs44x0).den) (v : (patsTy vs44x0).den) : α := bif (decide (v.2.1 < c.2.2.2.2.1)) then bif (decide (((0 : Int) ≤ v.2.1) ∧ (v.2.1 < ((c.2.2.2.1.n : Nat) : Int)))) then cl (r63).dflt (M63 ((c.2.2.2.1.g (Int.toNat v.2.1)).1, ((W (v.1 + (1 : Int))), ((W (((c.2.2.2.2.2.1.2.1.n : Nat) : Int) - (1 : Int))), ())))) (fun u0 => bif (!u0.1) then l (.out (.ret (false, ((2 : Int), ())))) else l (.next ((c.2.2.2.1.g (Int.toNat v.2.1)).1, ((W (v.2.1 + (1 : Int))), ())))) (l .bad) else l .bad else l (.out (.exit 0 ()))
theorem z44x0 (c : (patsTy cs44x0).den) (v : (patsTy vs44x0).den) : roundQ Try.prog E0 G44 0 41 [] ps44x0 wy44x0 b44x0 [] (j44x0 c v) = Z44x0 (fun r => .leaf (r.lift j44x0 je44x0 jr44x0 jp44x0 c)) .any c v := by kernel_rfl
def S44x0 (c : (patsTy cs44x0).den) (v : (patsTy vs44x0).den) : RQ vs44x0 wv44x0 := Z44x0 (fun r => r) (fun _ _ => .bad) c v
theorem s44x0 (c : (patsTy cs44x0).den) (v : (patsTy vs44x0).den) : detQ (roundQ Try.prog E0 G44 0 41 [] ps44x0 wy44x0 b44x0 [] (j44x0 c v)) = (S44x0 c v).lift j44x0 je44x0 jr44x0 jp44x0 c := by rw [z44x0]; unfold S44x0 Z44x0; simp only [detQ_cond, lift_cond, lift_bad, detQ, detQ_cl, detQ_onExit, detQ_onRet, detQ_onPanL, detQ_onNext, detQ_onBrk, detQ_onRetO, detQ_onPan, detQ_onOk, detQ_onGPan, lift_cl, lift_onExit, lift_onRet, lift_onPanL, lift_onNext, lift_onBrk, lift_onRetO, lift_onPan, lift_onOk, lift_onGPan]
def L44x0 (c : (patsTy cs44x0).den) (v : (patsTy vs44x0).den) : LQ wv44x0 := iterQ (S44x0 c) big v
theorem lo44 : loopsOf (c44) = [.loop b44x0] := by kernel_rfl
noncomputable def l44 : List Loop := [.known (loopZ 0 [] ps44x0 fun x => spreadV wy44x0 je44x0 jr44x0 jp44x0 [] true (sp44x0 x).1 (L44x0 (sp44x0 x).1 (sp44x0 x).2) wy44x0.exits)]
def Q44 {α : Type} (l : Option (r44).den → α) (an : α → α → α) (x : (a44).den) : α := cl (r55).dflt (M55 (x.1, ())) (fun u1 => bif (!u1.1) then l (some (false, ((2 : Int), ()))) else cl (r63).dflt (M63 (x.2.2.1, ((0 : Int), ((20000 : Int), ())))) (fun u2 => bif (!u2.1) then l (some (false, ((2 : Int), ()))) else onExit (L44x0 (x.2.1, (x.2.2.1, ((), (x.2.1, (((x.2.1.n : Nat) : Int), (x.1, ())))))) ((-1 : Int), ((0 : Int), ()))) 0 (fun u3 => cl (r57).dflt (M57 (x.1, ())) (fun u4 => cl (r73).dflt (M73 (u4.1, x.2)) (fun u5 => l (some (u5.1, ((0 : Int), ())))) (l none)) (l none)) (onRet (L44x0 (x.2.1, (x.2.2.1, ((), (x.2.1, (((x.2.1.n : Nat) : Int), (x.1, ())))))) ((-1 : Int), ((0 : Int), ()))) (fun u6 => l (some u6)) (l none))) (l none)) (l none)
theorem q44 (x : (a44).den) : runFn Try.prog E0 G44 Try.f44 l44 a44 r44 x = Q44 .leaf .any x := by kernel_rfl
def M44 (x : (a44).den) : Option (r44).den := Q44 (fun r => r) (fun _ _ => none) x
theorem m44 (x : (a44).den) : (runFn Try.prog E0 G44 Try.f44 l44 a44 r44 x).sure = M44 x := by rw [q44]; unfold M44 Q44; simp only [sure_cond, Tree.sure, sure_cl, sure_onExit, sure_onRet, sure_onPanL, sure_onNext, sure_onBrk, sure_onRetO, sure_onPan, sure_onOk, sure_onGPan]
def p44 (x : (a44).den) : Bool := (M44 x).isSome
def v44 (x : (a44).den) : (r44).den := (M44 x).getD (r44).dflt
def k44 : Con := ⟨a44, r44, p44, v44⟩
theorem h44 : Holds Try.prog 44 k44 := holds_of_M' (E := E0) follows_ok g44 eqTy_sound keyTy_sound at44 bd44 (by kernel_rfl) m44 fun G' hlo hF hE => LsOK_kn (by rw [lo44]; exact .cons (loopV_ok hE hF hlo (LsOK_kn (by rw [lo44x0]; exact .nil)) (by kernel_rfl) (by kernel_rfl) sp44x0 (fun _ => rfl) (fun _ _ => rfl) (s44x0) big) (.nil))
/-- isobar/isobarref05.Urgent -/
noncomputable def c46 : Code := Try.f46.body.getD .skip
theorem at46 : Try.prog.funcs[46]? = some Try.f46 := by kernel_rfl
theorem bd46 : Try.f46.body = some c46 := by kernel_rfl
theorem cl46 : Callable Try.prog 46 := callable_of at46 (by kernel_rfl) (by kernel_rfl)
abbrev a46 : Ty := T43
abbrev r46 : Ty := T3
noncomputable def G46 : Ctx := Ctx.of [(60, .pure k60)]
theorem g46 : Sound Try.prog (G46) := sound_of (List.forall_mem_cons.2 ⟨⟨cl60, h60⟩, fun _ h => by cases h⟩)
noncomputable def b46x0 : Code := loopBody ((loopsOf (c46))[0]?)
theorem lo46x0 : loopsOf (b46x0) = [] := by kernel_rfl
abbrev cs46x0 : List Pat := [.slot 1 (.pc (.sl T0)), .slot 2 (.ptr 2), .box 2 [.pc tI, .pc (.sl T7), .pc (.sl T2), .pc (.sl T4), .pc tI, .pc tI, .pc tI, .pc tI, .pc tI]]
abbrev vs46x0 : List Pat := [.slot 5 (.pc tI)]
abbrev ps46x0 : List Pat := [.slot 1 (.pc (.sl T0)), .slot 2 (.ptr 2), .box 2 [.pc tI, .pc (.sl T7), .pc (.sl T2), .pc (.sl T4), .pc tI, .pc tI, .pc tI, .pc tI, .pc tI], .slot 5 (.pc tI)]
def j46x0 : (patsTy cs46x0).den → (patsTy vs46x0).den → (patsTy ps46x0).den := fun c v => (c.1, (c.2.1, (c.2.2.1, v)))
def sp46x0 : (patsTy ps46x0).den → (patsTy cs46x0).den × (patsTy vs46x0).den := fun x => ((x.1, (x.2.1, (x.2.2.1, ()))), x.2.2.2)
abbrev wy46x0 : Ways := ⟨[(0, [])], [.slot 4 (.pc .bool)], []⟩
abbrev wv46x0 : Ways := ⟨[(0, [])], [.slot 4 (.pc .bool)], []⟩
def je46x0 : (id : Nat) → (patsTy cs46x0).den → (patsTy (wayP wv46x0 id)).den → (patsTy (wayP wy46x0 id)).den := fun id => match id with | 0 => fun c y => y | id => fun _ _ => (patsTy (wayP wy46x0 id)).dflt
def jr46x0 : (patsTy cs46x0).den → (patsTy (wv46x0).ret).den → (patsTy (wy46x0).ret).den := fun c y => y
def jp46x0 : (patsTy cs46x0).den → (patsTy (wv46x0).pan).den → (patsTy (wy46x0).pan).den := fun c y => y
def Z46x0 {α : Type} (l : RQ vs46x0 wv46x0 → α) (an : α → α → α) (c : (patsTy cs46x0).den) (v : (patsTy vs46x0).den) : α := bif (decide (v.1 < ((c.1.n : Nat) : Int))) then bif (decide (((0 : Int) ≤ v.1) ∧ (v.1 < ((c.1.n : Nat) : Int)))) then cl (r60).dflt (M60 ((c.1.g (Int.toNat v.1)).1, ((0 : Int), ((W (((c.2.2.1.2.1.n : Nat) : Int) - (1 : Int))), ())))) (fun u0 => bif (!u0.1) then l (.out (.ret (false, ()))) else bif (decide ((0 : Int) < v.1)) then bif (decide (((0 : Int) ≤ v.1) ∧ (v.1 < ((c.1.n : Nat) : Int)))) then bif (decide (((0 : Int) ≤ (W (v.1 - (1 : Int)))) ∧ ((W (v.1 - (1 : Int))) < ((c.1.n : Nat) : Int)))) then bif (decide ((c.1.g (Int.toNat v.1)).1 ≤ (c.1.g (Int.toNat (W (v.1 - (1 : Int))))).1)) then l (.out (.ret (false, ()))) else l (.next ((W (v.1 + (1 : Int))), ())) else l .bad else l .bad else l (.next ((W (v.1 + (1 : Int))), ()))) (l .bad) else l .bad else l (.out (.exit 0 ()))
theorem z46x0 (c : (patsTy cs46x0).den) (v : (patsTy vs46x0).den) : roundQ Try.prog E0 G46 0 38 [] ps46x0 wy46x0 b46x0 [] (j46x0 c v) = Z46x0 (fun r => .leaf (r.lift j46x0 je46x0 jr46x0 jp46x0 c)) .any c v := by kernel_rfl
def S46x0 (c : (patsTy cs46x0).den) (v : (patsTy vs46x0).den) : RQ vs46x0 wv46x0 := Z46x0 (fun r => r) (fun _ _ => .bad) c v
theorem s46x0 (c : (patsTy cs46x0).den) (v : (patsTy vs46x0).den) : detQ (roundQ Try.prog E0 G46 0 38 [] ps46x0 wy46x0 b46x0 [] (j46x0 c v)) = (S46x0 c v).lift j46x0 je46x0 jr46x0 jp46x0 c := by rw [z46x0]; unfold S46x0 Z46x0; simp only [detQ_cond, lift_cond, lift_bad, detQ, detQ_cl, detQ_onExit, detQ_onRet, detQ_onPanL, detQ_onNext, detQ_onBrk, detQ_onRetO, detQ_onPan, detQ_onOk, detQ_onGPan, lift_cl, lift_onExit, lift_onRet, lift_onPanL, lift_onNext, lift_onBrk, lift_onRetO, lift_onPan, lift_onOk, lift_onGPan]
def L46x0 (c : (patsTy cs46x0).den) (v : (patsTy vs46x0).den) : LQ wv46x0 := iterQ (S46x0 c) big v
theorem lo46 : loopsOf (c46) = [.loop b46x0] := by kernel_rfl
noncomputable def l46 : List Loop := [.known (loopZ 0 [] ps46x0 fun x => spreadV wy46x0 je46x0 jr46x0 jp46x0 [] true (sp46x0 x).1 (L46x0 (sp46x0 x).1 (sp46x0 x).2) wy46x0.exits)]
def Q46 {α : Type} (l : Option (r46).den → α) (an : α → α → α) (x : (a46).den) : α := onExit (L46x0 (x.2.1, ((), (x.1, ()))) ((0 : Int), ())) 0 (fun u1 => l (some (true, ()))) (onRet (L46x0 (x.2.1, ((), (x.1, ()))) ((0 : Int), ())) (fun u2 => l (some u2)) (l none))
theorem q46 (x : (a46).den) : runFn Try.prog E0 G46 Try.f46 l46 a46 r46 x = Q46 .leaf .any x := by kernel_rfl
def M46 (x : (a46).den) : Option (r46).den := Q46 (fun r => r) (fun _ _ => none) x
theorem m46 (x : (a46).den) : (runFn Try.prog E0 G46 Try.f46 l46 a46 r46 x).sure = M46 x := by rw [q46]; unfold M46 Q46; simp only [sure_cond, Tree.sure, sure_cl, sure_onExit, sure_onRet, sure_onPanL, sure_onNext, sure_onBrk, sure_onRetO, sure_onPan, sure_onOk, sure_onGPan]
def p46 (x : (a46).den) : Bool := (M46 x).isSome
def v46 (x : (a46).den) : (r46).den := (M46 x).getD (r46).dflt
def k46 : Con := ⟨a46, r46, p46, v46⟩
theorem h46 : Holds Try.prog 46 k46 := holds_of_M' (E := E0) follows_ok g46 eqTy_sound keyTy_sound at46 bd46 (by kernel_rfl) m46 fun G' hlo hF hE => LsOK_kn (by rw [lo46]; exact .cons (loopV_ok hE hF hlo (LsOK_kn (by rw [lo46x0]; exact .nil)) (by kernel_rfl) (by kernel_rfl) sp46x0 (fun _ => rfl) (fun _ _ => rfl) (s46x0) big) (.nil))
/-- isobar/isobarref05.Sped -/
noncomputable def c51 : Code := Try.f51.body.getD .skip
theorem at51 : Try.prog.funcs[51]? = some Try.f51 := by kernel_rfl
theorem bd51 : Try.f51.body = some c51 := by kernel_rfl
theorem cl51 : Callable Try.prog 51 := callable_of at51 (by kernel_rfl) (by kernel_rfl)
abbrev a51 : Ty := T43
abbrev r51 : Ty := T36
noncomputable def G51 : Ctx := Ctx.of []
theorem g51 : Sound Try.prog (G51) := sound_of (fun _ h => by cases h)
noncomputable def b51x0 : Code := loopBody ((loopsOf (c51))[0]?)
theorem lo51x0 : loopsOf (b51x0) = [] := by kernel_rfl
abbrev cs51x0 : List Pat := [.slot 1 (.pc (.sl T0)), .slot 4 (.ptr 4), .slot 5 (.ptr 55), .box 4 [.pc tI, .own 1005001 54 T7, .own 1005002 56 T2, .own 1005003 70 T4, .pc tI, .pc tI, .pc tI, .pc tI, .pc tI]]
abbrev vs51x0 : List Pat := [.slot 6 (.pc tI), .box 55 [.pc tI, .rw 111 54 T7, .pc (.sl T2), .pc (.sl T4), .pc tI, .pc tI, .pc tI, .pc tI, .pc tI]]
abbrev ps51x0 : List Pat := [.slot 1 (.pc (.sl T0)), .slot 4 (.ptr 4), .slot 5 (.ptr 55), .box 4 [.pc tI, .own 1005001 54 T7, .own 1005002 56 T2, .own 1005003 70 T4, .pc tI, .pc tI, .pc tI, .pc tI, .pc tI], .slot 6 (.pc tI), .box 55 [.pc tI, .rw 111 54 T7, .pc (.sl T2), .pc (.sl T4), .pc tI, .pc tI, .pc tI, .pc tI, .pc tI]]
def j51x0 : (patsTy cs51x0).den → (patsTy vs51x0).den → (patsTy ps51x0).den := fun c v => (c.1, (c.2.1, (c.2.2.1, (c.2.2.2.1, v))))
def sp51x0 : (patsTy ps51x0).den → (patsTy cs51x0).den × (patsTy vs51x0).den := fun x => ((x.1, (x.2.1, (x.2.2.1, (x.2.2.2.1, ())))), x.2.2.2.2)
abbrev wy51x0 : Ways := ⟨[(0, [.slot 4 (.ptr 4), .slot 5 (.ptr 55), .box 4 [.pc tI, .own 1005001 54 T7, .own 1005002 56 T2, .own 1005003 70 T4, .pc tI, .pc tI, .pc tI, .pc tI, .pc tI], .box 55 [.pc tI, .rw 111 54 T7, .pc (.sl T2), .pc (.sl T4), .pc tI, .pc tI, .pc tI, .pc tI, .pc tI]])], [], []⟩
abbrev wv51x0 : Ways := ⟨[(0, [.box 55 [.pc tI, .rw 111 54 T7, .pc (.sl T2), .pc (.sl T4), .pc tI, .pc tI, .pc tI, .pc tI, .pc tI]])], [], []⟩
def je51x0 : (id : Nat) → (patsTy cs51x0).den → (patsTy (wayP wv51x0 id)).den → (patsTy (wayP wy51x0 id)).den := fun id => match id with | 0 => fun c y => (c.2.1, (c.2.2.1, (c.2.2.2.1, y))) | id => fun _ _ => (patsTy (wayP wy51x0 id)).dflt
def jr51x0 : (patsTy cs51x0).den → (patsTy (wv51x0).ret).den → (patsTy (wy51x0).ret).den := fun c y => y
def jp51x0 : (patsTy cs51x0).den → (patsTy (wv51x0).pan).den → (patsTy (wy51x0).pan).den := fun c y => y
def Z51x0 {α : Type} (l : RQ vs51x0 wv51x0 → α) (an : α → α → α) (c : (patsTy cs51x0).den) (v : (patsTy vs51x0).den) : α := bif (decide (v.1 < ((c.1.n : Nat) : Int))) then bif (decide (((0 : Int) ≤ v.1) ∧ (v.1 < ((c.1.n : Nat) : Int)))) then bif (decide (((0 : Int) ≤ (c.1.g (Int.toNat v.1)).1) ∧ ((c.1.g (Int.toNat v.1)).1 < ((v.2.1.2.1.n : Nat) : Int)))) then bif (decide (((0 : Int) ≤ v.1) ∧ (v.1 < ((c.1.n : Nat) : Int)))) then bif (decide (((0 : Int) ≤ (c.1.g (Int.toNat v.1)).1) ∧ ((c.1.g (Int.toNat v.1)).1 < ((v.2.1.2.1.n : Nat) : Int)))) then l (.next ((W (v.1 + (1 : Int))), ((v.2.1.1, ((setSl v.2.1.2.1 (Int.toNat (c.1.g (Int.toNat v.1)).1) ((v.2.1.2.1.g (Int.toNat (c.1.g (Int.toNat v.1)).1)).1, ((v.2.1.2.1.g (Int.toNat (c.1.g (Int.toNat v.1)).1)).2.1, ((v.2.1.2.1.g (Int.toNat (c.1.g (Int.toNat v.1)).1)).2.2.1, ((mn (v.2.1.2.1.g (Int.toNat (c.1.g (Int.toNat v.1)).1)).2.2.2.1 (v.2.1.2.1.g (Int.toNat (c.1.g (Int.toNat v.1)).1)).2.2.2.2.2.1), ((mn (v.2.1.2.1.g (Int.toNat (c.1.g (Int.toNat v.1)).1)).2.2.2.2.1 (v.2.1.2.1.g (Int.toNat (c.1.g (Int.toNat v.1)).1)).2.2.2.2.2.1), (v.2.1.2.1.g (Int.toNat (c.1.g (Int.toNat v.1)).1)).2.2.2.2.2)))))), v.2.1.2.2)), ()))) else l .bad else l .bad else l .bad else l .bad else l (.out (.exit 0 (v.2.1, ())))
theorem z51x0 (c : (patsTy cs51x0).den) (v : (patsTy vs51x0).den) : roundQ Try.prog (E0.rw [11] []) G51 0 50 [] ps51x0 wy51x0 b51x0 [] (j51x0 c v) = Z51x0 (fun r => .leaf (r.lift j51x0 je51x0 jr51x0 jp51x0 c)) .any c v := by kernel_rfl
def S51x0 (c : (patsTy cs51x0).den) (v : (patsTy vs51x0).den) : RQ vs51x0 wv51x0 := Z51x0 (fun r => r) (fun _ _ => .bad) c v
theorem s51x0 (c : (patsTy cs51x0).den) (v : (patsTy vs51x0).den) : detQ (roundQ Try.prog (E0.rw [11] []) G51 0 50 [] ps51x0 wy51x0 b51x0 [] (j51x0 c v)) = (S51x0 c v).lift j51x0 je51x0 jr51x0 jp51x0 c := by rw [z51x0]; unfold S51x0 Z51x0; simp only [detQ_cond, lift_cond, lift_bad, detQ, detQ_cl, detQ_onExit, detQ_onRet, detQ_onPanL, detQ_onNext, detQ_onBrk, detQ_onRetO, detQ_onPan, detQ_onOk, detQ_onGPan, lift_cl, lift_onExit, lift_onRet, lift_onPanL, lift_onNext, lift_onBrk, lift_onRetO, lift_onPan, lift_onOk, lift_onGPan]
def L51x0 (c : (patsTy cs51x0).den) (v : (patsTy vs51x0).den) : LQ wv51x0 := iterQ (S51x0 c) big v
theorem lo51 : loopsOf (c51) = [.loop b51x0] := by kernel_rfl
noncomputable def l51 : List Loop := [.known (loopZ 0 [] ps51x0 fun x => spreadV wy51x0 je51x0 jr51x0 jp51x0 [] false (sp51x0 x).1 (L51x0 (sp51x0 x).1 (sp51x0 x).2) wy51x0.exits)]
def Q51 {α : Type} (l : Option (r51).den → α) (an : α → α → α) (x : (a51).den) : α := bif (decide ((x.1.2.1.n * 56) ≤ 140737488355328)) then onExit (L51x0 (x.2.1, ((), ((), (((0 : Int), ((⟨0, fun i => ((0 : Int), ((0 : Int), ((0 : Int), ((0 : Int), ((0 : Int), ((0 : Int), ((0 : Int), ())))))))⟩ : Sl _), ((⟨0, fun i => ((0 : Int), ((0 : Int), ((0 : Int), ())))⟩ : Sl _), ((⟨0, fun i => ((0 : Int), ((0 : Int), ((0 : Int), ((0 : Int), ()))))⟩ : Sl _), ((0 : Int), ((0 : Int), ((0 : Int), ((0 : Int), ((0 : Int), ()))))))))), ())))) ((0 : Int), (x.1, ()))) 0 (fun u0 => l (some (u0.1, ()))) (l none) else l none
theorem q51 (x : (a51).den) : runFn Try.prog (E0.rw [11] []) G51 Try.f51 l51 a51 r51 x = Q51 .leaf .any x := by kernel_rfl
def M51 (x : (a51).den) : Option (r51).den := Q51 (fun r => r) (fun _ _ => none) x
theorem m51 (x : (a51).den) : (runFn Try.prog (E0.rw [11] []) G51 Try.f51 l51 a51 r51 x).sure = M51 x := by rw [q51]; unfold M51 Q51; simp only [sure_cond, Tree.sure, sure_cl, sure_onExit, sure_onRet, sure_onPanL, sure_onNext, sure_onBrk, sure_onRetO, sure_onPan, sure_onOk, sure_onGPan]
def p51 (x : (a51).den) : Bool := (M51 x).isSome
def v51 (x : (a51).den) : (r51).den := (M51 x).getD (r51).dflt
def k51 : Con := ⟨a51, r51, p51, v51⟩
theorem h51 : Holds Try.prog 51 k51 := holds_of_M' (E := (E0.rw [11] [])) follows_ok g51 eqTy_sound keyTy_sound at51 bd51 (by kernel_rfl) m51 fun G' hlo hF hE => LsOK_kn (by rw [lo51]; exact .cons (loopV_ok hE hF hlo (LsOK_kn (by rw [lo51x0]; exact .nil)) (by kernel_rfl) (by kernel_rfl) sp51x0 (fun _ => rfl) (fun _ _ => rfl) (s51x0) big) (.nil))
/-- isobar/isobarref05.Suffice -/
noncomputable def c47 : Code := Try.f47.body.getD .skip
theorem at47 : Try.prog.funcs[47]? = some Try.f47 := by kernel_rfl
theorem bd47 : Try.f47.body = some c47 := by kernel_rfl
theorem cl47 : Callable Try.prog 47 := callable_of at47 (by kernel_rfl) (by kernel_rfl)
abbrev a47 : Ty := T109
abbrev r47 : Ty := T3
noncomputable def G47 : Ctx := Ctx.of [(22, .pure k22), (24, .pure k24), (51, .pure k51)]
theorem g47 : Sound Try.prog (G47) := sound_of (List.forall_mem_cons.2 ⟨⟨cl22, h22⟩, List.forall_mem_cons.2 ⟨⟨cl24, h24⟩, List.forall_mem_cons.2 ⟨⟨cl51, h51⟩, fun _ h => by cases h⟩⟩⟩)
theorem lo47 : loopsOf (c47) = [] := by kernel_rfl
noncomputable def l47 : List Loop := []
def Q47 {α : Type} (l : Option (r47).den → α) (an : α → α → α) (x : (a47).den) : α := cl (r51).dflt (M51 (x.1, (x.2.1, ()))) (fun u0 => cl (r24).dflt (M24 (u0.1, (true, ()))) (fun u1 => cl (r22).dflt (M22 (u0.1, u1)) (fun u2 => bif (decide ((0 : Int) ≤ u2.1)) then l (some ((decide (u2.1 ≤ x.2.2.1)), ())) else l (some (false, ()))) (l none)) (l none)) (l none)
theorem q47 (x : (a47).den) : runFn Try.prog E0 G47 Try.f47 l47 a47 r47 x = Q47 .leaf .any x := by kernel_rfl
def M47 (x : (a47).den) : Option (r47).den := Q47 (fun r => r) (fun _ _ => none) x
theorem m47 (x : (a47).den) : (runFn Try.prog E0 G47 Try.f47 l47 a47 r47 x).sure = M47 x := by rw [q47]; unfold M47 Q47; simp only [sure_cond, Tree.sure, sure_cl, sure_onExit, sure_onRet, sure_onPanL, sure_onNext, sure_onBrk, sure_onRetO, sure_onPan, sure_onOk, sure_onGPan]
def p47 (x : (a47).den) : Bool := (M47 x).isSome
def v47 (x : (a47).den) : (r47).den := (M47 x).getD (r47).dflt
def k47 : Con := ⟨a47, r47, p47, v47⟩
theorem h47 : Holds Try.prog 47 k47 := holds_of_M' (E := E0) follows_ok g47 eqTy_sound keyTy_sound at47 bd47 (by kernel_rfl) m47 fun G' hlo hF hE => LsOK_kn (by rw [lo47]; exact .nil)
/-- isobar/isobarref05.Cost -/
noncomputable def c50 : Code := Try.f50.body.getD .skip
theorem at50 : Try.prog.funcs[50]? = some Try.f50 := by kernel_rfl
theorem bd50 : Try.f50.body = some c50 := by kernel_rfl
theorem cl50 : Callable Try.prog 50 := callable_of at50 (by kernel_rfl) (by kernel_rfl)
abbrev a50 : Ty := T43
abbrev r50 : Ty := T0
noncomputable def G50 : Ctx := Ctx.of []
theorem g50 : Sound Try.prog (G50) := sound_of (fun _ h => by cases h)
noncomputable def b50x0 : Code := loopBody ((loopsOf (c50))[0]?)
theorem lo50x0 : loopsOf (b50x0) = [] := by kernel_rfl
abbrev cs50x0 : List Pat := [.slot 1 (.pc (.sl T0)), .slot 2 (.ptr 2), .box 2 [.pc tI, .pc (.sl T7), .pc (.sl T2), .pc (.sl T4), .pc tI, .pc tI, .pc tI, .pc tI, .pc tI]]
abbrev vs50x0 : List Pat := [.slot 5 (.pc tI), .slot 6 (.pc tI)]
abbrev ps50x0 : List Pat := [.slot 1 (.pc (.sl T0)), .slot 2 (.ptr 2), .box 2 [.pc tI, .pc (.sl T7), .pc (.sl T2), .pc (.sl T4), .pc tI, .pc tI, .pc tI, .pc tI, .pc tI], .slot 5 (.pc tI), .slot 6 (.pc tI)]
def j50x0 : (patsTy cs50x0).den → (patsTy vs50x0).den → (patsTy ps50x0).den := fun c v => (c.1, (c.2.1, (c.2.2.1, v)))
def sp50x0 : (patsTy ps50x0).den → (patsTy cs50x0).den × (patsTy vs50x0).den := fun x => ((x.1, (x.2.1, (x.2.2.1, ()))), x.2.2.2)
abbrev wy50x0 : Ways := ⟨[(0, [.slot 5 (.pc tI)])], [], []⟩
abbrev wv50x0 : Ways := ⟨[(0, [.slot 5 (.pc tI)])], [], []⟩
def je50x0 : (id : Nat) → (patsTy cs50x0).den → (patsTy (wayP wv50x0 id)).den → (patsTy (wayP wy50x0 id)).den := fun id => match id with | 0 => fun c y => y | id => fun _ _ => (patsTy (wayP wy50x0 id)).dflt
def jr50x0 : (patsTy cs50x0).den → (patsTy (wv50x0).ret).den → (patsTy (wy50x0).ret).den := fun c y => y
def jp50x0 : (patsTy cs50x0).den → (patsTy (wv50x0).pan).den → (patsTy (wy50x0).pan).den := fun c y => y
def Z50x0 {α : Type} (l : RQ vs50x0 wv50x0 → α) (an : α → α → α) (c : (patsTy cs50x0).den) (v : (patsTy vs50x0).den) : α := bif (decide (v.2.1 < ((c.1.n : Nat) : Int))) then bif (decide (((0 : Int) ≤ v.2.1) ∧ (v.2.1 < ((c.1.n : Nat) : Int)))) then bif (decide (((0 : Int) ≤ (c.1.g (Int.toNat v.2.1)).1) ∧ ((c.1.g (Int.toNat v.2.1)).1 < ((c.2.2.1.2.1.n : Nat) : Int)))) then l (.next ((W (v.1 + (c.2.2.1.2.1.g (Int.toNat (c.1.g (Int.toNat v.2.1)).1)).2.2.2.2.2.2.1)), ((W (v.2.1 + (1 : Int))), ()))) else l .bad else l .bad else l (.out (.exit 0 (v.1, ())))
theorem z50x0 (c : (patsTy cs50x0).den) (v : (patsTy vs50x0).den) : roundQ Try.prog E0 G50 0 25 [] ps50x0 wy50x0 b50x0 [] (j50x0 c v) = Z50x0 (fun r => .leaf (r.lift j50x0 je50x0 jr50x0 jp50x0 c)) .any c v := by kernel_rfl
def S50x0 (c : (patsTy cs50x0).den) (v : (patsTy vs50x0).den) : RQ vs50x0 wv50x0 := Z50x0 (fun r => r) (fun _ _ => .bad) c v
theorem s50x0 (c : (patsTy cs50x0).den) (v : (patsTy vs50x0).den) : detQ (roundQ Try.prog E0 G50 0 25 [] ps50x0 wy50x0 b50x0 [] (j50x0 c v)) = (S50x0 c v).lift j50x0 je50x0 jr50x0 jp50x0 c := by rw [z50x0]; unfold S50x0 Z50x0; simp only [detQ_cond, lift_cond, lift_bad, detQ, detQ_cl, detQ_onExit, detQ_onRet, detQ_onPanL, detQ_onNext, detQ_onBrk, detQ_onRetO, detQ_onPan, detQ_onOk, detQ_onGPan, lift_cl, lift_onExit, lift_onRet, lift_onPanL, lift_onNext, lift_onBrk, lift_onRetO, lift_onPan, lift_onOk, lift_onGPan]
def L50x0 (c : (patsTy cs50x0).den) (v : (patsTy vs50x0).den) : LQ wv50x0 := iterQ (S50x0 c) big v
theorem lo50 : loopsOf (c50) = [.loop b50x0] := by kernel_rfl
noncomputable def l50 : List Loop := [.known (loopZ 0 [] ps50x0 fun x => spreadV wy50x0 je50x0 jr50x0 jp50x0 [] false (sp50x0 x).1 (L50x0 (sp50x0 x).1 (sp50x0 x).2) wy50x0.exits)]
def Q50 {α : Type} (l : Option (r50).den → α) (an : α → α → α) (x : (a50).den) : α := onExit (L50x0 (x.2.1, ((), (x.1, ()))) ((0 : Int), ((0 : Int), ()))) 0 (fun u0 => l (some u0)) (l none)
theorem q50 (x : (a50).den) : runFn Try.prog E0 G50 Try.f50 l50 a50 r50 x = Q50 .leaf .any x := by kernel_rfl
def M50 (x : (a50).den) : Option (r50).den := Q50 (fun r => r) (fun _ _ => none) x
theorem m50 (x : (a50).den) : (runFn Try.prog E0 G50 Try.f50 l50 a50 r50 x).sure = M50 x := by rw [q50]; unfold M50 Q50; simp only [sure_cond, Tree.sure, sure_cl, sure_onExit, sure_onRet, sure_onPanL, sure_onNext, sure_onBrk, sure_onRetO, sure_onPan, sure_onOk, sure_onGPan]
def p50 (x : (a50).den) : Bool := (M50 x).isSome
def v50 (x : (a50).den) : (r50).den := (M50 x).getD (r50).dflt
def k50 : Con := ⟨a50, r50, p50, v50⟩
theorem h50 : Holds Try.prog 50 k50 := holds_of_M' (E := E0) follows_ok g50 eqTy_sound keyTy_sound at50 bd50 (by kernel_rfl) m50 fun G' hlo hF hE => LsOK_kn (by rw [lo50]; exact .cons (loopV_ok hE hF hlo (LsOK_kn (by rw [lo50x0]; exact .nil)) (by kernel_rfl) (by kernel_rfl) sp50x0 (fun _ => rfl) (fun _ _ => rfl) (s50x0) big) (.nil))
/-- isobar/isobarref05.sets -/
noncomputable def c82 : Code := Try.f82.body.getD .skip
theorem at82 : Try.prog.funcs[82]? = some Try.f82 := by kernel_rfl
theorem bd82 : Try.f82.body = some c82 := by kernel_rfl
theorem cl82 : Callable Try.prog 82 := callable_of at82 (by kernel_rfl) (by kernel_rfl)
abbrev T116 : Ty := (.sl T42)
abbrev T117 : Ty := (.cons T116 .nil)
abbrev a82 : Ty := T1
abbrev r82 : Ty := T117
noncomputable def G82 : Ctx := Ctx.of []
theorem g82 : Sound Try.prog (G82) := sound_of (fun _ h => by cases h)
noncomputable def b82x0 : Code := loopBody ((loopsOf (c82))[0]?)
noncomputable def b82x0x0 : Code := loopBody ((loopsOf (b82x0))[0]?)
noncomputable def b82x0x0x0 : Code := loopBody ((loopsOf (b82x0x0))[0]?)
theorem lo82x0x0x0 : loopsOf (b82x0x0x0) = [] := by kernel_rfl
abbrev cs82x0x0x0 : List Pat := [.slot 0 (.pc tI), .slot 1 (.pc tI), .slot 5 (.pc T116), .slot 6 (.pc tI), .slot 8 (.pc tI)]
abbrev vs82x0x0x0 : List Pat := [.slot 7 (.own 1000007 27 T42), .slot 10 (.pc tI)]
abbrev ps82x0x0x0 : List Pat := [.slot 0 (.pc tI), .slot 1 (.pc tI), .slot 5 (.pc T116), .slot 6 (.pc tI), .slot 8 (.pc tI), .slot 7 (.own 1000007 27 T42), .slot 10 (.pc tI)]
def j82x0x0x0 : (patsTy cs82x0x0x0).den → (patsTy vs82x0x0x0).den → (patsTy ps82x0x0x0).den := fun c v => (c.1, (c.2.1, (c.2.2.1, (c.2.2.2.1, (c.2.2.2.2.1, v)))))
def sp82x0x0x0 : (patsTy ps82x0x0x0).den → (patsTy cs82x0x0x0).den × (patsTy vs82x0x0x0).den := fun x => ((x.1, (x.2.1, (x.2.2.1, (x.2.2.2.1, (x.2.2.2.2.1, ()))))), x.2.2.2.2.2)
abbrev wy82x0x0x0 : Ways := ⟨[(4, [.slot 0 (.pc tI), .slot 1 (.pc tI), .slot 5 (.pc T116), .slot 6 (.pc tI), .slot 8 (.pc tI), .slot 7 (.own 1000007 27 T42)])], [], []⟩
abbrev wv82x0x0x0 : Ways := ⟨[(4, [.slot 7 (.own 1000007 27 T42)])], [], []⟩
def je82x0x0x0 : (id : Nat) → (patsTy cs82x0x0x0).den → (patsTy (wayP wv82x0x0x0 id)).den → (patsTy (wayP wy82x0x0x0 id)).den := fun id => match id with | 4 => fun c y => (c.1, (c.2.1, (c.2.2.1, (c.2.2.2.1, (c.2.2.2.2.1, y))))) | id => fun _ _ => (patsTy (wayP wy82x0x0x0 id)).dflt
def jr82x0x0x0 : (patsTy cs82x0x0x0).den → (patsTy (wv82x0x0x0).ret).den → (patsTy (wy82x0x0x0).ret).den := fun c y => y
def jp82x0x0x0 : (patsTy cs82x0x0x0).den → (patsTy (wv82x0x0x0).pan).den → (patsTy (wy82x0x0x0).pan).den := fun c y => y
def Z82x0x0x0 {α : Type} (l : RQ vs82x0x0x0 wv82x0x0x0 → α) (an : α → α → α) (c : (patsTy cs82x0x0x0).den) (v : (patsTy vs82x0x0x0).den) : α := bif (decide (v.2.1 < c.1)) then bif (decide (((0 : Int) ≤ c.2.2.2.2.1) ∧ (c.2.2.2.2.1 < ((c.2.2.1.n : Nat) : Int)))) then bif (decide (((c.2.2.1.g (Int.toNat c.2.2.2.2.1)).1.n * 8) ≤ 140737488355328)) then bif (decide ((((c.2.2.1.g (Int.toNat c.2.2.2.2.1)).1.n + 1) * 8) ≤ 140737488355328)) then bif (decide (((v.1.n + 1) * 24) ≤ 140737488355328)) then l (.next ((catSl v.1 (⟨1, fun i => List.getD [((catSl (c.2.2.1.g (Int.toNat c.2.2.2.2.1)).1 (⟨1, fun i => List.getD [v.2] i v.2⟩ : Sl (Ty.den T0))), ())] i ((catSl (c.2.2.1.g (Int.toNat c.2.2.2.2.1)).1 (⟨1, fun i => List.getD [v.2] i v.2⟩ : Sl (Ty.den T0))), ())⟩ : Sl (Ty.den T42))), ((W (v.2.1 + (1 : Int))), ()))) else l .bad else l .bad else l .bad else l .bad else l (.out (.exit 4 (v.1, ())))
theorem z82x0x0x0 (c : (patsTy cs82x0x0x0).den) (v : (patsTy vs82x0x0x0).den) : roundQ Try.prog E0 G82 0 53 [] ps82x0x0x0 wy82x0x0x0 b82x0x0x0 [] (j82x0x0x0 c v) = Z82x0x0x0 (fun r => .leaf (r.lift j82x0x0x0 je82x0x0x0 jr82x0x0x0 jp82x0x0x0 c)) .any c v := by kernel_rfl
def S82x0x0x0 (c : (patsTy cs82x0x0x0).den) (v : (patsTy vs82x0x0x0).den) : RQ vs82x0x0x0 wv82x0x0x0 := Z82x0x0x0 (fun r => r) (fun _ _ => .bad) c v
theorem s82x0x0x0 (c : (patsTy cs82x0x0x0).den) (v : (patsTy vs82x0x0x0).den) : detQ (roundQ Try.prog E0 G82 0 53 [] ps82x0x0x0 wy82x0x0x0 b82x0x0x0 [] (j82x0x0x0 c v)) = (S82x0x0x0 c v).lift j82x0x0x0 je82x0x0x0 jr82x0x0x0 jp82x0x0x0 c := by rw [z82x0x0x0]; unfold S82x0x0x0 Z82x0x0x0; simp only [detQ_cond, lift_cond, lift_bad, detQ, detQ_cl, detQ_onExit, detQ_onRet, detQ_onPanL, detQ_onNext, detQ_onBrk, detQ_onRetO, detQ_onPan, detQ_onOk, detQ_onGPan, lift_cl, lift_onExit, lift_onRet, lift_onPanL, lift_onNext, lift_onBrk, lift_onRetO, lift_onPan, lift_onOk, lift_onGPan]
def L82x0x0x0 (c : (patsTy cs82x0x0x0).den) (v : (patsTy vs82x0x0x0).den) : LQ wv82x0x0x0 := iterQ (S82x0x0x0 c) big v
theorem lo82x0x0 : loopsOf (b82x0x0) = [.loop b82x0x0x0] := by kernel_rfl
abbrev cs82x0x0 : List Pat := [.slot 0 (.pc tI), .slot 1 (.pc tI), .slot 5 (.pc T116), .slot 6 (.pc tI)]
abbrev vs82x0x0 : List Pat := [.slot 7 (.own 1000007 27 T42), .slot 8 (.pc tI)]
abbrev ps82x0x0 : List Pat := [.slot 0 (.pc tI), .slot 1 (.pc tI), .slot 5 (.pc T116), .slot 6 (.pc tI), .slot 7 (.own 1000007 27 T42), .slot 8 (.pc tI)]
def j82x0x0 : (patsTy cs82x0x0).den → (patsTy vs82x0x0).den → (patsTy ps82x0x0).den := fun c v => (c.1, (c.2.1, (c.2.2.1, (c.2.2.2.1, v))))
def sp82x0x0 : (patsTy ps82x0x0).den → (patsTy cs82x0x0).den × (patsTy vs82x0x0).den := fun x => ((x.1, (x.2.1, (x.2.2.1, (x.2.2.2.1, ())))), x.2.2.2.2)
abbrev wy82x0x0 : Ways := ⟨[(2, [.slot 0 (.pc tI), .slot 1 (.pc tI), .slot 6 (.pc tI), .slot 7 (.pc (.sl T42))])], [], []⟩
abbrev wv82x0x0 : Ways := ⟨[(2, [.slot 7 (.pc (.sl T42))])], [], []⟩
def je82x0x0 : (id : Nat) → (patsTy cs82x0x0).den → (patsTy (wayP wv82x0x0 id)).den → (patsTy (wayP wy82x0x0 id)).den := fun id => match id with | 2 => fun c y => (c.1, (c.2.1, (c.2.2.2.1, y))) | id => fun _ _ => (patsTy (wayP wy82x0x0 id)).dflt
def jr82x0x0 : (patsTy cs82x0x0).den → (patsTy (wv82x0x0).ret).den → (patsTy (wy82x0x0).ret).den := fun c y => y
def jp82x0x0 : (patsTy cs82x0x0).den → (patsTy (wv82x0x0).pan).den → (patsTy (wy82x0x0).pan).den := fun c y => y
def Z82x0x0 {α : Type} (l : RQ vs82x0x0 wv82x0x0 → α) (an : α → α → α) (c : (patsTy cs82x0x0).den) (v : (patsTy vs82x0x0).den) : α := bif (decide (v.2.1 < ((c.2.2.1.n : Nat) : Int))) then bif (decide ((0 : Int) < c.2.2.2.1)) then bif (decide (((0 : Int) ≤ v.2.1) ∧ (v.2.1 < ((c.2.2.1.n : Nat) : Int)))) then bif (decide (((0 : Int) ≤ (W (c.2.2.2.1 - (1 : Int)))) ∧ ((W (c.2.2.2.1 - (1 : Int))) < (((c.2.2.1.g (Int.toNat v.2.1)).1.n : Nat) : Int)))) then onExit (L82x0x0x0 (c.1, (c.2.1, (c.2.2.1, (c.2.2.2.1, v.2)))) (v.1, ((W (((c.2.2.1.g (Int.toNat v.2.1)).1.g (Int.toNat (W (c.2.2.2.1 - (1 : Int))))).1 + (1 : Int))), ()))) 4 (fun u0 => l (.next (u0.1, ((W (v.2.1 + (1 : Int))), ())))) (l .bad) else l .bad else l .bad else onExit (L82x0x0x0 (c.1, (c.2.1, (c.2.2.1, (c.2.2.2.1, v.2)))) (v.1, ((0 : Int), ()))) 4 (fun u1 => l (.next (u1.1, ((W (v.2.1 + (1 : Int))), ())))) (l .bad) else l (.out (.exit 2 (v.1, ())))
theorem z82x0x0 (c : (patsTy cs82x0x0).den) (v : (patsTy vs82x0x0).den) : roundQ Try.prog E0 G82 0 53 [] ps82x0x0 wy82x0x0 b82x0x0 [.known (loopZ 0 [] ps82x0x0x0 fun x => spreadV wy82x0x0x0 je82x0x0x0 jr82x0x0x0 jp82x0x0x0 [] false (sp82x0x0x0 x).1 (L82x0x0x0 (sp82x0x0x0 x).1 (sp82x0x0x0 x).2) wy82x0x0x0.exits)] (j82x0x0 c v) = Z82x0x0 (fun r => .leaf (r.lift j82x0x0 je82x0x0 jr82x0x0 jp82x0x0 c)) .any c v := by kernel_rfl
def S82x0x0 (c : (patsTy cs82x0x0).den) (v : (patsTy vs82x0x0).den) : RQ vs82x0x0 wv82x0x0 := Z82x0x0 (fun r => r) (fun _ _ => .bad) c v
theorem s82x0x0 (c : (patsTy cs82x0x0).den) (v : (patsTy vs82x0x0).den) : detQ (roundQ Try.prog E0 G82 0 53 [] ps82x0x0 wy82x0x0 b82x0x0 [.known (loopZ 0 [] ps82x0x0x0 fun x => spreadV wy82x0x0x0 je82x0x0x0 jr82x0x0x0 jp82x0x0x0 [] false (sp82x0x0x0 x).1 (L82x0x0x0 (sp82x0x0x0 x).1 (sp82x0x0x0 x).2) wy82x0x0x0.exits)] (j82x0x0 c v)) = (S82x0x0 c v).lift j82x0x0 je82x0x0 jr82x0x0 jp82x0x0 c := by rw [z82x0x0]; unfold S82x0x0 Z82x0x0; simp only [detQ_cond, lift_cond, lift_bad, detQ, detQ_cl, detQ_onExit, detQ_onRet, detQ_onPanL, detQ_onNext, detQ_onBrk, detQ_onRetO, detQ_onPan, detQ_onOk, detQ_onGPan, lift_cl, lift_onExit, lift_onRet, lift_onPanL, lift_onNext, lift_onBrk, lift_onRetO, lift_onPan, lift_onOk, lift_onGPan]
def L82x0x0 (c : (patsTy cs82x0x0).den) (v : (patsTy vs82x0x0).den) : LQ wv82x0x0 := iterQ (S82x0x0 c) big v
theorem lo82x0 : loopsOf (b82x0) = [.loop b82x0x0] := by kernel_rfl
abbrev cs82x0 : List Pat := [.slot 0 (.pc tI), .slot 1 (.pc tI)]
abbrev vs82x0 : List Pat := [.slot 5 (.pc (.sl T42)), .slot 6 (.pc tI)]
abbrev ps82x0 : List Pat := [.slot 0 (.pc tI), .slot 1 (.pc tI), .slot 5 (.pc (.sl T42)), .slot 6 (.pc tI)]
def j82x0 : (patsTy cs82x0).den → (patsTy vs82x0).den → (patsTy ps82x0).den := fun c v => (c.1, (c.2.1, v))
def sp82x0 : (patsTy ps82x0).den → (patsTy cs82x0).den × (patsTy vs82x0).den := fun x => ((x.1, (x.2.1, ())), x.2.2)
abbrev wy82x0 : Ways := ⟨[(0, [.slot 5 (.pc T116)])], [], []⟩
abbrev wv82x0 : Ways := ⟨[(0, [.slot 5 (.pc T116)])], [], []⟩
def je82x0 : (id : Nat) → (patsTy cs82x0).den → (patsTy (wayP wv82x0 id)).den → (patsTy (wayP wy82x0 id)).den := fun id => match id with | 0 => fun c y => y | id => fun _ _ => (patsTy (wayP wy82x0 id)).dflt
def jr82x0 : (patsTy cs82x0).den → (patsTy (wv82x0).ret).den → (patsTy (wy82x0).ret).den := fun c y => y
def jp82x0 : (patsTy cs82x0).den → (patsTy (wv82x0).pan).den → (patsTy (wy82x0).pan).den := fun c y => y
def Z82x0 {α : Type} (l : RQ vs82x0 wv82x0 → α) (an : α → α → α) (c : (patsTy cs82x0).den) (v : (patsTy vs82x0).den) : α := bif (decide (v.2.1 < c.2.1)) then onExit (L82x0x0 (c.1, (c.2.1, v)) ((⟨0, fun i => ((⟨0, fun i => ((0 : Int), ())⟩ : Sl _), ())⟩ : Sl _), ((0 : Int), ()))) 2 (fun u2 => l (.next (u2.1, ((W (v.2.1 + (1 : Int))), ())))) (l .bad) else l (.out (.exit 0 (v.1, ())))
theorem z82x0 (c : (patsTy cs82x0).den) (v : (patsTy vs82x0).den) : roundQ Try.prog E0 G82 0 53 [] ps82x0 wy82x0 b82x0 [.known (loopZ 0 [] ps82x0x0 fun x => spreadV wy82x0x0 je82x0x0 jr82x0x0 jp82x0x0 [] false (sp82x0x0 x).1 (L82x0x0 (sp82x0x0 x).1 (sp82x0x0 x).2) wy82x0x0.exits)] (j82x0 c v) = Z82x0 (fun r => .leaf (r.lift j82x0 je82x0 jr82x0 jp82x0 c)) .any c v := by kernel_rfl
def S82x0 (c : (patsTy cs82x0).den) (v : (patsTy vs82x0).den) : RQ vs82x0 wv82x0 := Z82x0 (fun r => r) (fun _ _ => .bad) c v
theorem s82x0 (c : (patsTy cs82x0).den) (v : (patsTy vs82x0).den) : detQ (roundQ Try.prog E0 G82 0 53 [] ps82x0 wy82x0 b82x0 [.known (loopZ 0 [] ps82x0x0 fun x => spreadV wy82x0x0 je82x0x0 jr82x0x0 jp82x0x0 [] false (sp82x0x0 x).1 (L82x0x0 (sp82x0x0 x).1 (sp82x0x0 x).2) wy82x0x0.exits)] (j82x0 c v)) = (S82x0 c v).lift j82x0 je82x0 jr82x0 jp82x0 c := by rw [z82x0]; unfold S82x0 Z82x0; simp only [detQ_cond, lift_cond, lift_bad, detQ, detQ_cl, detQ_onExit, detQ_onRet, detQ_onPanL, detQ_onNext, detQ_onBrk, detQ_onRetO, detQ_onPan, detQ_onOk, detQ_onGPan, lift_cl, lift_onExit, lift_onRet, lift_onPanL, lift_onNext, lift_onBrk, lift_onRetO, lift_onPan, lift_onOk, lift_onGPan]
def L82x0 (c : (patsTy cs82x0).den) (v : (patsTy vs82x0).den) : LQ wv82x0 := iterQ (S82x0 c) big v
theorem lo82 : loopsOf (c82) = [.loop b82x0] := by kernel_rfl
noncomputable def l82 : List Loop := [.known (loopZ 0 [] ps82x0 fun x => spreadV wy82x0 je82x0 jr82x0 jp82x0 [] false (sp82x0 x).1 (L82x0 (sp82x0 x).1 (sp82x0 x).2) wy82x0.exits)]
def Q82 {α : Type} (l : Option (r82).den → α) (an : α → α → α) (x : (a82).den) : α := onExit (L82x0 x ((⟨1, fun i => List.getD [((⟨0, fun i => ((0 : Int), ())⟩ : Sl _), ())] i ((⟨0, fun i => ((0 : Int), ())⟩ : Sl _), ())⟩ : Sl _), ((0 : Int), ()))) 0 (fun u3 => l (some u3)) (l none)
theorem q82 (x : (a82).den) : runFn Try.prog E0 G82 Try.f82 l82 a82 r82 x = Q82 .leaf .any x := by kernel_rfl
def M82 (x : (a82).den) : Option (r82).den := Q82 (fun r => r) (fun _ _ => none) x
theorem m82 (x : (a82).den) : (runFn Try.prog E0 G82 Try.f82 l82 a82 r82 x).sure = M82 x := by rw [q82]; unfold M82 Q82; simp only [sure_cond, Tree.sure, sure_cl, sure_onExit, sure_onRet, sure_onPanL, sure_onNext, sure_onBrk, sure_onRetO, sure_onPan, sure_onOk, sure_onGPan]
def p82 (x : (a82).den) : Bool := (M82 x).isSome
def v82 (x : (a82).den) : (r82).den := (M82 x).getD (r82).dflt
def k82 : Con := ⟨a82, r82, p82, v82⟩
theorem h82 : Holds Try.prog 82 k82 := holds_of_M' (E := E0) follows_ok g82 eqTy_sound keyTy_sound at82 bd82 (by kernel_rfl) m82 fun G' hlo hF hE => LsOK_kn (by rw [lo82]; exact .cons (loopV_ok hE hF hlo (LsOK_kn (by rw [lo82x0]; exact .cons (loopV_ok hE hF hlo (LsOK_kn (by rw [lo82x0x0]; exact .cons (loopV_ok hE hF hlo (LsOK_kn (by rw [lo82x0x0x0]; exact .nil)) (by kernel_rfl) (by kernel_rfl) sp82x0x0x0 (fun _ => rfl) (fun _ _ => rfl) (s82x0x0x0) big) (.nil))) (by kernel_rfl) (by kernel_rfl) sp82x0x0 (fun _ => rfl) (fun _ _ => rfl) (s82x0x0) big) (.nil))) (by kernel_rfl) (by kernel_rfl) sp82x0 (fun _ => rfl) (fun _ _ => rfl) (s82x0) big) (.nil))
/-- isobar/isobarref05.Speed -/
noncomputable def c48 : Code := Try.f48.body.getD .skip
theorem at48 : Try.prog.funcs[48]? = some Try.f48 := by kernel_rfl
theorem bd48 : Try.f48.body = some c48 := by kernel_rfl
theorem cl48 : Callable Try.prog 48 := callable_of at48 (by kernel_rfl) (by kernel_rfl)
abbrev T118 : Ty := (.cons (.sl T0) T3)
abbrev a48 : Ty := T107
abbrev r48 : Ty := T118
noncomputable def G48 : Ctx := Ctx.of [(47, .pure k47), (50, .pure k50), (82, .pure k82)]
theorem g48 : Sound Try.prog (G48) := sound_of (List.forall_mem_cons.2 ⟨⟨cl47, h47⟩, List.forall_mem_cons.2 ⟨⟨cl50, h50⟩, List.forall_mem_cons.2 ⟨⟨cl82, h82⟩, fun _ h => by cases h⟩⟩⟩)
noncomputable def b48x0 : Code := loopBody ((loopsOf (c48))[0]?)
noncomputable def b48x0x0 : Code := loopBody ((loopsOf (b48x0))[0]?)
theorem lo48x0x0 : loopsOf (b48x0x0) = [] := by kernel_rfl
abbrev cs48x0x0 : List Pat := [.slot 1 (.pc tI), .slot 2 (.ptr 2), .slot 8 (.pc tI), .slot 9 (.pc T116), .box 2 [.pc tI, .pc (.sl T7), .pc (.sl T2), .pc (.sl T4), .pc tI, .pc tI, .pc tI, .pc tI, .pc tI]]
abbrev vs48x0x0 : List Pat := [.slot 6 (.pc (.sl T0)), .slot 7 (.pc .bool), .slot 10 (.pc tI)]
abbrev ps48x0x0 : List Pat := [.slot 1 (.pc tI), .slot 2 (.ptr 2), .slot 8 (.pc tI), .slot 9 (.pc T116), .box 2 [.pc tI, .pc (.sl T7), .pc (.sl T2), .pc (.sl T4), .pc tI, .pc tI, .pc tI, .pc tI, .pc tI], .slot 6 (.pc (.sl T0)), .slot 7 (.pc .bool), .slot 10 (.pc tI)]
def j48x0x0 : (patsTy cs48x0x0).den → (patsTy vs48x0x0).den → (patsTy ps48x0x0).den := fun c v => (c.1, (c.2.1, (c.2.2.1, (c.2.2.2.1, (c.2.2.2.2.1, v)))))
def sp48x0x0 : (patsTy ps48x0x0).den → (patsTy cs48x0x0).den × (patsTy vs48x0x0).den := fun x => ((x.1, (x.2.1, (x.2.2.1, (x.2.2.2.1, (x.2.2.2.2.1, ()))))), x.2.2.2.2.2)
abbrev wy48x0x0 : Ways := ⟨[(2, [.slot 1 (.pc tI), .slot 2 (.ptr 2), .slot 8 (.pc tI), .box 2 [.pc tI, .pc (.sl T7), .pc (.sl T2), .pc (.sl T4), .pc tI, .pc tI, .pc tI, .pc tI, .pc tI], .slot 6 (.pc (.sl T0)), .slot 7 (.pc .bool)])], [], []⟩
abbrev wv48x0x0 : Ways := ⟨[(2, [.slot 6 (.pc (.sl T0)), .slot 7 (.pc .bool)])], [], []⟩
def je48x0x0 : (id : Nat) → (patsTy cs48x0x0).den → (patsTy (wayP wv48x0x0 id)).den → (patsTy (wayP wy48x0x0 id)).den := fun id => match id with | 2 => fun c y => (c.1, (c.2.1, (c.2.2.1, (c.2.2.2.2.1, y)))) | id => fun _ _ => (patsTy (wayP wy48x0x0 id)).dflt
def jr48x0x0 : (patsTy cs48x0x0).den → (patsTy (wv48x0x0).ret).den → (patsTy (wy48x0x0).ret).den := fun c y => y
def jp48x0x0 : (patsTy cs48x0x0).den → (patsTy (wv48x0x0).pan).den → (patsTy (wy48x0x0).pan).den := fun c y => y
def Z48x0x0 {α : Type} (l : RQ vs48x0x0 wv48x0x0 → α) (an : α → α → α) (c : (patsTy cs48x0x0).den) (v : (patsTy vs48x0x0).den) : α := bif (decide (v.2.2.1 < ((c.2.2.2.1.n : Nat) : Int))) then bif (!v.2.1) then bif (decide (((0 : Int) ≤ v.2.2.1) ∧ (v.2.2.1 < ((c.2.2.2.1.n : Nat) : Int)))) then cl (r47).dflt (M47 (c.2.2.2.2.1, ((c.2.2.2.1.g (Int.toNat v.2.2.1)).1, (c.1, ())))) (fun u0 => bif u0.1 then bif (decide (((0 : Int) ≤ v.2.2.1) ∧ (v.2.2.1 < ((c.2.2.2.1.n : Nat) : Int)))) then l (.next ((c.2.2.2.1.g (Int.toNat v.2.2.1)).1, (true, ((W (v.2.2.1 + (1 : Int))), ())))) else l .bad else l (.next (v.1, (v.2.1, ((W (v.2.2.1 + (1 : Int))), ()))))) (l .bad) else l .bad else bif (decide (((0 : Int) ≤ v.2.2.1) ∧ (v.2.2.1 < ((c.2.2.2.1.n : Nat) : Int)))) then cl (r50).dflt (M50 (c.2.2.2.2.1, (c.2.2.2.1.g (Int.toNat v.2.2.1)))) (fun u1 => cl (r50).dflt (M50 (c.2.2.2.2.1, (v.1, ()))) (fun u2 => bif (decide (u1.1 < u2.1)) then bif (decide (((0 : Int) ≤ v.2.2.1) ∧ (v.2.2.1 < ((c.2.2.2.1.n : Nat) : Int)))) then cl (r47).dflt (M47 (c.2.2.2.2.1, ((c.2.2.2.1.g (Int.toNat v.2.2.1)).1, (c.1, ())))) (fun u3 => bif u3.1 then bif (decide (((0 : Int) ≤ v.2.2.1) ∧ (v.2.2.1 < ((c.2.2.2.1.n : Nat) : Int)))) then l (.next ((c.2.2.2.1.g (Int.toNat v.2.2.1)).1, (true, ((W (v.2.2.1 + (1 : Int))), ())))) else l .bad else l (.next (v.1, (v.2.1, ((W (v.2.2.1 + (1 : Int))), ()))))) (l .bad) else l .bad else l (.next (v.1, (v.2.1, ((W (v.2.2.1 + (1 : Int))), ()))))) (l .bad)) (l .bad) else l .bad else l (.out (.exit 2 (v.1, (v.2.1, ()))))
theorem z48x0x0 (c : (patsTy cs48x0x0).den) (v : (patsTy vs48x0x0).den) : roundQ Try.prog E0 G48 0 58 [] ps48x0x0 wy48x0x0 b48x0x0 [] (j48x0x0 c v) = Z48x0x0 (fun r => .leaf (r.lift j48x0x0 je48x0x0 jr48x0x0 jp48x0x0 c)) .any c v := by kernel_rfl
def S48x0x0 (c : (patsTy cs48x0x0).den) (v : (patsTy vs48x0x0).den) : RQ vs48x0x0 wv48x0x0 := Z48x0x0 (fun r => r) (fun _ _ => .bad) c v
theorem s48x0x0 (c : (patsTy cs48x0x0).den) (v : (patsTy vs48x0x0).den) : detQ (roundQ Try.prog E0 G48 0 58 [] ps48x0x0 wy48x0x0 b48x0x0 [] (j48x0x0 c v)) = (S48x0x0 c v).lift j48x0x0 je48x0x0 jr48x0x0 jp48x0x0 c := by rw [z48x0x0]; unfold S48x0x0 Z48x0x0; simp only [detQ_cond, lift_cond, lift_bad, detQ, detQ_cl, detQ_onExit, detQ_onRet, detQ_onPanL, detQ_onNext, detQ_onBrk, detQ_onRetO, detQ_onPan, detQ_onOk, detQ_onGPan, lift_cl, lift_onExit, lift_onRet, lift_onPanL, lift_onNext, lift_onBrk, lift_onRetO, lift_onPan, lift_onOk, lift_onGPan]
def L48x0x0 (c : (patsTy cs48x0x0).den) (v : (patsTy vs48x0x0).den) : LQ wv48x0x0 := iterQ (S48x0x0 c) big v
theorem lo48x0 : loopsOf (b48x0) = [.loop b48x0x0] := by kernel_rfl
abbrev cs48x0 : List Pat := [.slot 1 (.pc tI), .slot 2 (.ptr 2), .box 2 [.pc tI, .pc (.sl T7), .pc (.sl T2), .pc (.sl T4), .pc tI, .pc tI, .pc tI, .pc tI, .pc tI]]
abbrev vs48x0 : List Pat := [.slot 6 (.pc (.sl T0)), .slot 7 (.pc .bool), .slot 8 (.pc tI)]
abbrev ps48x0 : List Pat := [.slot 1 (.pc tI), .slot 2 (.ptr 2), .box 2 [.pc tI, .pc (.sl T7), .pc (.sl T2), .pc (.sl T4), .pc tI, .pc tI, .pc tI, .pc tI, .pc tI], .slot 6 (.pc (.sl T0)), .slot 7 (.pc .bool), .slot 8 (.pc tI)]
def j48x0 : (patsTy cs48x0).den → (patsTy vs48x0).den → (patsTy ps48x0).den := fun c v => (c.1, (c.2.1, (c.2.2.1, v)))
def sp48x0 : (patsTy ps48x0).den → (patsTy cs48x0).den × (patsTy vs48x0).den := fun x => ((x.1, (x.2.1, (x.2.2.1, ()))), x.2.2.2)
abbrev wy48x0 : Ways := ⟨[(0, [.slot 6 (.pc (.sl T0)), .slot 7 (.pc .bool)])], [], []⟩
abbrev wv48x0 : Ways := ⟨[(0, [.slot 6 (.pc (.sl T0)), .slot 7 (.pc .bool)])], [], []⟩
def je48x0 : (id : Nat) → (patsTy cs48x0).den → (patsTy (wayP wv48x0 id)).den → (patsTy (wayP wy48x0 id)).den := fun id => match id with | 0 => fun c y => y | id => fun _ _ => (patsTy (wayP wy48x0 id)).dflt
def jr48x0 : (patsTy cs48x0).den → (patsTy (wv48x0).ret).den → (patsTy (wy48x0).ret).den := fun c y => y
def jp48x0 : (patsTy cs48x0).den → (patsTy (wv48x0).pan).den → (patsTy (wy48x0).pan).den := fun c y => y
def Z48x0 {α : Type} (l : RQ vs48x0 wv48x0 → α) (an : α → α → α) (c : (patsTy cs48x0).den) (v : (patsTy vs48x0).den) : α := bif (decide (v.2.2.1 ≤ ((c.2.2.1.2.1.n : Nat) : Int))) then cl (r82).dflt (M82 (((c.2.2.1.2.1.n : Nat) : Int), v.2.2)) (fun u4 => onExit (L48x0x0 (c.1, ((), (v.2.2.1, (u4.1, (c.2.2.1, ()))))) (v.1, (v.2.1, ((0 : Int), ())))) 2 (fun u5 => l (.next (u5.1, (u5.2.1, ((W (v.2.2.1 + (1 : Int))), ()))))) (l .bad)) (l .bad) else l (.out (.exit 0 (v.1, (v.2.1, ()))))
theorem z48x0 (c : (patsTy cs48x0).den) (v : (patsTy vs48x0).den) : roundQ Try.prog E0 G48 0 58 [] ps48x0 wy48x0 b48x0 [.known (loopZ 0 [] ps48x0x0 fun x => spreadV wy48x0x0 je48x0x0 jr48x0x0 jp48x0x0 [] false (sp48x0x0 x).1 (L48x0x0 (sp48x0x0 x).1 (sp48x0x0 x).2) wy48x0x0.exits)] (j48x0 c v) = Z48x0 (fun r => .leaf (r.lift j48x0 je48x0 jr48x0 jp48x0 c)) .any c v := by kernel_rfl
def S48x0 (c : (patsTy cs48x0).den) (v : (patsTy vs48x0).den) : RQ vs48x0 wv48x0 := Z48x0 (fun r => r) (fun _ _ => .bad) c v
theorem s48x0 (c : (patsTy cs48x0).den) (v : (patsTy vs48x0).den) : detQ (roundQ Try.prog E0 G48 0 58 [] ps48x0 wy48x0 b48x0 [.known (loopZ 0 [] ps48x0x0 fun x => spreadV wy48x0x0 je48x0x0 jr48x0x0 jp48x0x0 [] false (sp48x0x0 x).1 (L48x0x0 (sp48x0x0 x).1 (sp48x0x0 x).2) wy48x0x0.exits)] (j48x0 c v)) = (S48x0 c v).lift j48x0 je48x0 jr48x0 jp48x0 c := by rw [z48x0]; unfold S48x0 Z48x0; simp only [detQ_cond, lift_cond, lift_bad, detQ, detQ_cl, detQ_onExit, detQ_onRet, detQ_onPanL, detQ_onNext, detQ_onBrk, detQ_onRetO, detQ_onPan, detQ_onOk, detQ_onGPan, lift_cl, lift_onExit, lift_onRet, lift_onPanL, lift_onNext, lift_onBrk, lift_onRetO, lift_onPan, lift_onOk, lift_onGPan]
def L48x0 (c : (patsTy cs48x0).den) (v : (patsTy vs48x0).den) : LQ wv48x0 := iterQ (S48x0 c) big v
theorem lo48 : loopsOf (c48) = [.loop b48x0] := by kernel_rfl
noncomputable def l48 : List Loop := [.known (loopZ 0 [] ps48x0 fun x => spreadV wy48x0 je48x0 jr48x0 jp48x0 [] false (sp48x0 x).1 (L48x0 (sp48x0 x).1 (sp48x0 x).2) wy48x0.exits)]
def Q48 {α : Type} (l : Option (r48).den → α) (an : α → α → α) (x : (a48).den) : α := onExit (L48x0 (x.2.1, ((), (x.1, ()))) ((⟨0, fun i => ((0 : Int), ())⟩ : Sl _), (false, ((0 : Int), ())))) 0 (fun u6 => l (some u6)) (l none)
theorem q48 (x : (a48).den) : runFn Try.prog E0 G48 Try.f48 l48 a48 r48 x = Q48 .leaf .any x := by kernel_rfl
def M48 (x : (a48).den) : Option (r48).den := Q48 (fun r => r) (fun _ _ => none) x
theorem m48 (x : (a48).den) : (runFn Try.prog E0 G48 Try.f48 l48 a48 r48 x).sure = M48 x := by rw [q48]; unfold M48 Q48; simp only [sure_cond, Tree.sure, sure_cl, sure_onExit, sure_onRet, sure_onPanL, sure_onNext, sure_onBrk, sure_onRetO, sure_onPan, sure_onOk, sure_onGPan]
def p48 (x : (a48).den) : Bool := (M48 x).isSome
def v48 (x : (a48).den) : (r48).den := (M48 x).getD (r48).dflt
def k48 : Con := ⟨a48, r48, p48, v48⟩
theorem h48 : Holds Try.prog 48 k48 := holds_of_M' (E := E0) follows_ok g48 eqTy_sound keyTy_sound at48 bd48 (by kernel_rfl) m48 fun G' hlo hF hE => LsOK_kn (by rw [lo48]; exact .cons (loopV_ok hE hF hlo (LsOK_kn (by rw [lo48x0]; exact .cons (loopV_ok hE hF hlo (LsOK_kn (by rw [lo48x0x0]; exact .nil)) (by kernel_rfl) (by kernel_rfl) sp48x0x0 (fun _ => rfl) (fun _ _ => rfl) (s48x0x0) big) (.nil))) (by kernel_rfl) (by kernel_rfl) sp48x0 (fun _ => rfl) (fun _ _ => rfl) (s48x0) big) (.nil))
/-- isobar/isobarlaw05.ConeSpeeds -/
noncomputable def c15 : Code := Try.f15.body.getD .skip
theorem at15 : Try.prog.funcs[15]? = some Try.f15 := by kernel_rfl
theorem bd15 : Try.f15.body = some c15 := by kernel_rfl
theorem cl15 : Callable Try.prog 15 := callable_of at15 (by kernel_rfl) (by kernel_rfl)
abbrev a15 : Ty := T109
abbrev r15 : Ty := T3
noncomputable def G15 : Ctx := Ctx.of [(17, .pure k17), (18, .pure k18), (20, .pure k20), (27, .pure k27), (44, .pure k44), (45, .pure k45), (46, .pure k46), (47, .pure k47), (48, .pure k48), (49, .pure k49), (50, .pure k50)]
theorem g15 : Sound Try.prog (G15) := sound_of (List.forall_mem_cons.2 ⟨⟨cl17, h17⟩, List.forall_mem_cons.2 ⟨⟨cl18, h18⟩, List.forall_mem_cons.2 ⟨⟨cl20, h20⟩, List.forall_mem_cons.2 ⟨⟨cl27, h27⟩, List.forall_mem_cons.2 ⟨⟨cl44, h44⟩, List.forall_mem_cons.2 ⟨⟨cl45, h45⟩, List.forall_mem_cons.2 ⟨⟨cl46, h46⟩, List.forall_mem_cons.2 ⟨⟨cl47, h47⟩, List.forall_mem_cons.2 ⟨⟨cl48, h48⟩, List.forall_mem_cons.2 ⟨⟨cl49, h49⟩, List.forall_mem_cons.2 ⟨⟨cl50, h50⟩, fun _ h => by cases h⟩⟩⟩⟩⟩⟩⟩⟩⟩⟩⟩)
theorem lo15 : loopsOf (c15) = [] := by kernel_rfl
noncomputable def l15 : List Loop := []
def Q15 {α : Type} (l : Option (r15).den → α) (an : α → α → α) (x : (a15).den) : α := cl (r17).dflt (M17 (x.1, ())) (fun u0 => bif (!u0.1) then cl (r18).dflt (M18 ()) (fun u1 => l (some u1)) (l none) else bif (decide ((12 : Int) < ((x.2.1.n : Nat) : Int))) then cl (r18).dflt (M18 ()) (fun u2 => l (some u2)) (l none) else cl (r44).dflt (M44 (x.1, x.2)) (fun u3 => cl (r45).dflt (M45 (x.1, x.2.2)) (fun u4 => cl (r20).dflt (M20 (x.1, ())) (fun u5 => bif (!u5.1) then bif (decide (u3.2.1 = (2 : Int))) then bif (!u3.1) then bif (decide (u4.2.2.1 = (2 : Int))) then bif (decide (((u4.1.n : Nat) : Int) = (0 : Int))) then bif (decide (u4.2.1 = (0 : Int))) then cl (r18).dflt (M18 ()) (fun u6 => l (some u6)) (l none) else l (some (false, ())) else l (some (false, ())) else l (some (false, ())) else l (some (false, ())) else l (some (false, ())) else cl (r27).dflt (M27 x.2.2) (fun u7 => bif (!u7.1) then bif (decide (u3.2.1 = (2 : Int))) then bif (!u3.1) then bif (decide (u4.2.2.1 = (2 : Int))) then bif (decide (((u4.1.n : Nat) : Int) = (0 : Int))) then bif (decide (u4.2.1 = (0 : Int))) then cl (r18).dflt (M18 ()) (fun u8 => l (some u8)) (l none) else l (some (false, ())) else l (some (false, ())) else l (some (false, ())) else l (some (false, ())) else l (some (false, ())) else cl (r46).dflt (M46 (x.1, (x.2.1, ()))) (fun u9 => bif (!u9.1) then bif (!(decide (u3.2.1 = (2 : Int)))) then l (some (false, ())) else bif u3.1 then l (some (false, ())) else cl (r48).dflt (M48 (x.1, x.2.2)) (fun u10 => bif (!u10.2.1) then bif (decide (u4.2.2.1 = (5 : Int))) then bif (decide (((u4.1.n : Nat) : Int) = (0 : Int))) then bif (decide (u4.2.1 = (0 : Int))) then cl (r18).dflt (M18 ()) (fun u11 => l (some u11)) (l none) else l (some (false, ())) else l (some (false, ())) else l (some (false, ())) else bif (decide (u4.2.2.1 = (0 : Int))) then cl (r49).dflt (M49 (u4.1, (u10.1, ()))) (fun u12 => bif u12.1 then cl (r50).dflt (M50 (x.1, (u10.1, ()))) (fun u13 => bif (decide (u4.2.1 = u13.1)) then cl (r18).dflt (M18 ()) (fun u14 => l (some u14)) (l none) else l (some (false, ()))) (l none) else l (some (false, ()))) (l none) else l (some (false, ()))) (l none) else bif (!(decide (u3.2.1 = (0 : Int)))) then l (some (false, ())) else cl (r47).dflt (M47 (x.1, x.2)) (fun u15 => bif (!(u3.1 == u15.1)) then l (some (false, ())) else cl (r48).dflt (M48 (x.1, x.2.2)) (fun u16 => bif (!u16.2.1) then bif (decide (u4.2.2.1 = (5 : Int))) then bif (decide (((u4.1.n : Nat) : Int) = (0 : Int))) then bif (decide (u4.2.1 = (0 : Int))) then cl (r18).dflt (M18 ()) (fun u17 => l (some u17)) (l none) else l (some (false, ())) else l (some (false, ())) else l (some (false, ())) else bif (decide (u4.2.2.1 = (0 : Int))) then cl (r49).dflt (M49 (u4.1, (u16.1, ()))) (fun u18 => bif u18.1 then cl (r50).dflt (M50 (x.1, (u16.1, ()))) (fun u19 => bif (decide (u4.2.1 = u19.1)) then cl (r18).dflt (M18 ()) (fun u20 => l (some u20)) (l none) else l (some (false, ()))) (l none) else l (some (false, ()))) (l none) else l (some (false, ()))) (l none)) (l none)) (l none)) (l none)) (l none)) (l none)) (l none)) (l none)
theorem q15 (x : (a15).den) : runFn Try.prog E0 G15 Try.f15 l15 a15 r15 x = Q15 .leaf .any x := by kernel_rfl
def M15 (x : (a15).den) : Option (r15).den := Q15 (fun r => r) (fun _ _ => none) x
theorem m15 (x : (a15).den) : (runFn Try.prog E0 G15 Try.f15 l15 a15 r15 x).sure = M15 x := by rw [q15]; unfold M15 Q15; simp only [sure_cond, Tree.sure, sure_cl, sure_onExit, sure_onRet, sure_onPanL, sure_onNext, sure_onBrk, sure_onRetO, sure_onPan, sure_onOk, sure_onGPan]
def p15 (x : (a15).den) : Bool := (M15 x).isSome
def v15 (x : (a15).den) : (r15).den := (M15 x).getD (r15).dflt
def k15 : Con := ⟨a15, r15, p15, v15⟩
theorem h15 : Holds Try.prog 15 k15 := holds_of_M' (E := E0) follows_ok g15 eqTy_sound keyTy_sound at15 bd15 (by kernel_rfl) m15 fun G' hlo hF hE => LsOK_kn (by rw [lo15]; exact .nil)
/-- isobar/isobarref05.Before -/
noncomputable def c52 : Code := Try.f52.body.getD .skip
theorem at52 : Try.prog.funcs[52]? = some Try.f52 := by kernel_rfl
theorem bd52 : Try.f52.body = some c52 := by kernel_rfl
theorem cl52 : Callable Try.prog 52 := callable_of at52 (by kernel_rfl) (by kernel_rfl)
abbrev a52 : Ty := T70
abbrev r52 : Ty := T3
noncomputable def G52 : Ctx := Ctx.of []
theorem g52 : Sound Try.prog (G52) := sound_of (fun _ h => by cases h)
noncomputable def b52x0 : Code := loopBody ((loopsOf (c52))[0]?)
theorem lo52x0 : loopsOf (b52x0) = [] := by kernel_rfl
abbrev cs52x0 : List Pat := [.slot 0 (.pc (.sl T0)), .slot 1 (.pc (.sl T0))]
abbrev vs52x0 : List Pat := [.slot 5 (.pc tI)]
abbrev ps52x0 : List Pat := [.slot 0 (.pc (.sl T0)), .slot 1 (.pc (.sl T0)), .slot 5 (.pc tI)]
def j52x0 : (patsTy cs52x0).den → (patsTy vs52x0).den → (patsTy ps52x0).den := fun c v => (c.1, (c.2.1, v))
def sp52x0 : (patsTy ps52x0).den → (patsTy cs52x0).den × (patsTy vs52x0).den := fun x => ((x.1, (x.2.1, ())), x.2.2)
abbrev wy52x0 : Ways := ⟨[(0, [.slot 0 (.pc (.sl T0)), .slot 1 (.pc (.sl T0))])], [.slot 4 (.pc .bool)], []⟩
abbrev wv52x0 : Ways := ⟨[(0, [])], [.slot 4 (.pc .bool)], []⟩
def je52x0 : (id : Nat) → (patsTy cs52x0).den → (patsTy (wayP wv52x0 id)).den → (patsTy (wayP wy52x0 id)).den := fun id => match id with | 0 => fun c y => (c.1, (c.2.1, y)) | id => fun _ _ => (patsTy (wayP wy52x0 id)).dflt
def jr52x0 : (patsTy cs52x0).den → (patsTy (wv52x0).ret).den → (patsTy (wy52x0).ret).den := fun c y => y
def jp52x0 : (patsTy cs52x0).den → (patsTy (wv52x0).pan).den → (patsTy (wy52x0).pan).den := fun c y => y
def Z52x0 {α : Type} (l : RQ vs52x0 wv52x0 → α) (an : α → α → α) (c : (patsTy cs52x0).den) (v : (patsTy vs52x0).den) : α := bif (decide (v.1 < ((c.1.n : Nat) : Int))) then bif (decide (v.1 < ((c.2.1.n : Nat) : Int))) then bif (decide (((0 : Int) ≤ v.1) ∧ (v.1 < ((c.1.n : Nat) : Int)))) then bif (decide (((0 : Int) ≤ v.1) ∧ (v.1 < ((c.2.1.n : Nat) : Int)))) then bif (!(decide ((c.1.g (Int.toNat v.1)).1 = (c.2.1.g (Int.toNat v.1)).1))) then bif (decide (((0 : Int) ≤ v.1) ∧ (v.1 < ((c.1.n : Nat) : Int)))) then bif (decide (((0 : Int) ≤ v.1) ∧ (v.1 < ((c.2.1.n : Nat) : Int)))) then l (.out (.ret ((decide ((c.1.g (Int.toNat v.1)).1 < (c.2.1.g (Int.toNat v.1)).1)), ()))) else l .bad else l .bad else l (.next ((W (v.1 + (1 : Int))), ())) else l .bad else l .bad else l (.out (.exit 0 ())) else l (.out (.exit 0 ()))
theorem z52x0 (c : (patsTy cs52x0).den) (v : (patsTy vs52x0).den) : roundQ Try.prog E0 G52 0 41 [] ps52x0 wy52x0 b52x0 [] (j52x0 c v) = Z52x0 (fun r => .leaf (r.lift j52x0 je52x0 jr52x0 jp52x0 c)) .any c v := by kernel_rfl
def S52x0 (c : (patsTy cs52x0).den) (v : (patsTy vs52x0).den) : RQ vs52x0 wv52x0 := Z52x0 (fun r => r) (fun _ _ => .bad) c v
theorem s52x0 (c : (patsTy cs52x0).den) (v : (patsTy vs52x0).den) : detQ (roundQ Try.prog E0 G52 0 41 [] ps52x0 wy52x0 b52x0 [] (j52x0 c v)) = (S52x0 c v).lift j52x0 je52x0 jr52x0 jp52x0 c := by rw [z52x0]; unfold S52x0 Z52x0; simp only [detQ_cond, lift_cond, lift_bad, detQ, detQ_cl, detQ_onExit, detQ_onRet, detQ_onPanL, detQ_onNext, detQ_onBrk, detQ_onRetO, detQ_onPan, detQ_onOk, detQ_onGPan, lift_cl, lift_onExit, lift_onRet, lift_onPanL, lift_onNext, lift_onBrk, lift_onRetO, lift_onPan, lift_onOk, lift_onGPan]
def L52x0 (c : (patsTy cs52x0).den) (v : (patsTy vs52x0).den) : LQ wv52x0 := iterQ (S52x0 c) big v
theorem lo52 : loopsOf (c52) = [.loop b52x0] := by kernel_rfl
noncomputable def l52 : List Loop := [.known (loopZ 0 [] ps52x0 fun x => spreadV wy52x0 je52x0 jr52x0 jp52x0 [] true (sp52x0 x).1 (L52x0 (sp52x0 x).1 (sp52x0 x).2) wy52x0.exits)]
def Q52 {α : Type} (l : Option (r52).den → α) (an : α → α → α) (x : (a52).den) : α := onExit (L52x0 x ((0 : Int), ())) 0 (fun u0 => l (some ((decide (((x.1.n : Nat) : Int) < ((x.2.1.n : Nat) : Int))), ()))) (onRet (L52x0 x ((0 : Int), ())) (fun u1 => l (some u1)) (l none))
theorem q52 (x : (a52).den) : runFn Try.prog E0 G52 Try.f52 l52 a52 r52 x = Q52 .leaf .any x := by kernel_rfl
def M52 (x : (a52).den) : Option (r52).den := Q52 (fun r => r) (fun _ _ => none) x
theorem m52 (x : (a52).den) : (runFn Try.prog E0 G52 Try.f52 l52 a52 r52 x).sure = M52 x := by rw [q52]; unfold M52 Q52; simp only [sure_cond, Tree.sure, sure_cl, sure_onExit, sure_onRet, sure_onPanL, sure_onNext, sure_onBrk, sure_onRetO, sure_onPan, sure_onOk, sure_onGPan]
def p52 (x : (a52).den) : Bool := (M52 x).isSome
def v52 (x : (a52).den) : (r52).den := (M52 x).getD (r52).dflt
def k52 : Con := ⟨a52, r52, p52, v52⟩
theorem h52 : Holds Try.prog 52 k52 := holds_of_M' (E := E0) follows_ok g52 eqTy_sound keyTy_sound at52 bd52 (by kernel_rfl) m52 fun G' hlo hF hE => LsOK_kn (by rw [lo52]; exact .cons (loopV_ok hE hF hlo (LsOK_kn (by rw [lo52x0]; exact .nil)) (by kernel_rfl) (by kernel_rfl) sp52x0 (fun _ => rfl) (fun _ _ => rfl) (s52x0) big) (.nil))

end Go.Dm

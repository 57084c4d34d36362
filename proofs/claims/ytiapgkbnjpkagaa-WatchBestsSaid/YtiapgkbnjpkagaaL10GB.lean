/-
  Each function of the program as a Lean function, and that its calls come to what that says.
-/
import Derived.Test.YtiapgkbnjpkagaaL10GA
set_option linter.unusedVariables false
set_option linter.unusedSimpArgs false
namespace Go.Dm
open Go.RowKit Go.Proofs
set_option maxRecDepth 100000
/-- isobar/watch.best[isobar/watch.plan] -/
noncomputable def c82 : Code := Try.f82.body.getD .skip
theorem at82 : Try.prog.funcs[82]? = some Try.f82 := by kernel_rfl
theorem bd82 : Try.f82.body = some c82 := by kernel_rfl
theorem cl82 : Callable Try.prog 82 := callable_of at82 (by kernel_rfl) (by kernel_rfl)
abbrev T62 : Ty := (.sl T54)
abbrev T63 : Ty := (.fn T59 T3)
abbrev T64 : Ty := (.cons T63 .nil)
abbrev T65 : Ty := (.cons T62 T64)
abbrev a82 : Ty := T65
abbrev r82 : Ty := T58
noncomputable def G82 : Ctx := Ctx.of []
theorem g82 : Sound Try.prog (G82) := sound_of (fun _ h => by cases h)
noncomputable def b82x0 : Code := loopBody ((loopsOf (c82))[0]?)
theorem lo82x0 : loopsOf (b82x0) = [] := by kernel_rfl
abbrev cs82x0 : List Pat := [.slot 1 (.pc T63), .slot 4 (.ptr 4), .slot 5 (.ptr 29), .slot 11 (.pc T62), .slot 12 (.pc tI), .box 4 [.own 1005000 3 T0, .pc tI]]
abbrev vs82x0 : List Pat := [.slot 13 (.pc tI), .box 29 [.pc (.sl T0), .pc tI]]
abbrev ps82x0 : List Pat := [.slot 1 (.pc T63), .slot 4 (.ptr 4), .slot 5 (.ptr 29), .slot 11 (.pc T62), .slot 12 (.pc tI), .box 4 [.own 1005000 3 T0, .pc tI], .slot 13 (.pc tI), .box 29 [.pc (.sl T0), .pc tI]]
def j82x0 : (patsTy cs82x0).den → (patsTy vs82x0).den → (patsTy ps82x0).den := fun c v => (c.1, (c.2.1, (c.2.2.1, (c.2.2.2.1, (c.2.2.2.2.1, (c.2.2.2.2.2.1, v))))))
def sp82x0 : (patsTy ps82x0).den → (patsTy cs82x0).den × (patsTy vs82x0).den := fun x => ((x.1, (x.2.1, (x.2.2.1, (x.2.2.2.1, (x.2.2.2.2.1, (x.2.2.2.2.2.1, ())))))), x.2.2.2.2.2.2)
abbrev wy82x0 : Ways := ⟨[(0, [.slot 4 (.ptr 4), .slot 5 (.ptr 29), .box 4 [.own 1005000 3 T0, .pc tI], .box 29 [.pc (.sl T0), .pc tI]])], [], []⟩
abbrev wv82x0 : Ways := ⟨[(0, [.box 29 [.pc (.sl T0), .pc tI]])], [], []⟩
def je82x0 : (id : Nat) → (patsTy cs82x0).den → (patsTy (wayP wv82x0 id)).den → (patsTy (wayP wy82x0 id)).den := fun id => match id with | 0 => fun c y => (c.2.1, (c.2.2.1, (c.2.2.2.2.2.1, y))) | id => fun _ _ => (patsTy (wayP wy82x0 id)).dflt
def jr82x0 : (patsTy cs82x0).den → (patsTy (wv82x0).ret).den → (patsTy (wy82x0).ret).den := fun c y => y
def jp82x0 : (patsTy cs82x0).den → (patsTy (wv82x0).pan).den → (patsTy (wy82x0).pan).den := fun c y => y
def Z82x0 {α : Type} (l : RQ vs82x0 wv82x0 → α) (an : α → α → α) (c : (patsTy cs82x0).den) (v : (patsTy vs82x0).den) : α := bif (decide (v.1 < c.2.2.2.2.1)) then bif (decide (((0 : Int) ≤ v.1) ∧ (v.1 < ((c.2.2.2.1.n : Nat) : Int)))) then bif (c.1 ((c.2.2.2.1.g (Int.toNat v.1)), (v.2.1, ()))).1 then bif (c.1 ((c.2.2.2.1.g (Int.toNat v.1)), (v.2.1, ()))).2.1 then l (.next ((W (v.1 + (1 : Int))), ((c.2.2.2.1.g (Int.toNat v.1)), ()))) else l (.next ((W (v.1 + (1 : Int))), (v.2.1, ()))) else l .bad else l .bad else l (.out (.exit 0 (v.2.1, ())))
theorem z82x0 (c : (patsTy cs82x0).den) (v : (patsTy vs82x0).den) : roundQ Try.prog E0 G82 0 24 [] ps82x0 wy82x0 b82x0 [] (j82x0 c v) = Z82x0 (fun r => .leaf (r.lift j82x0 je82x0 jr82x0 jp82x0 c)) .any c v := by kernel_rfl
def S82x0 (c : (patsTy cs82x0).den) (v : (patsTy vs82x0).den) : RQ vs82x0 wv82x0 := Z82x0 (fun r => r) (fun _ _ => .bad) c v
theorem s82x0 (c : (patsTy cs82x0).den) (v : (patsTy vs82x0).den) : detQ (roundQ Try.prog E0 G82 0 24 [] ps82x0 wy82x0 b82x0 [] (j82x0 c v)) = (S82x0 c v).lift j82x0 je82x0 jr82x0 jp82x0 c := by rw [z82x0]; unfold S82x0 Z82x0; simp only [detQ_cond, lift_cond, lift_bad, detQ, detQ_cl, detQ_onExit, detQ_onRet, detQ_onPanL, detQ_onNext, detQ_onBrk, detQ_onRetO, detQ_onPan, detQ_onOk, detQ_onGPan, lift_cl, lift_onExit, lift_onRet, lift_onPanL, lift_onNext, lift_onBrk, lift_onRetO, lift_onPan, lift_onOk, lift_onGPan]
def L82x0 (c : (patsTy cs82x0).den) (v : (patsTy vs82x0).den) : LQ wv82x0 := iterQ (S82x0 c) big v
theorem lo82 : loopsOf (c82) = [.loop b82x0] := by kernel_rfl
noncomputable def l82 : List Loop := [.known (loopZ 0 [] ps82x0 fun x => spreadV wy82x0 je82x0 jr82x0 jp82x0 [] false (sp82x0 x).1 (L82x0 (sp82x0 x).1 (sp82x0 x).2) wy82x0.exits)]
def Q82 {α : Type} (l : Option (r82).den → α) (an : α → α → α) (x : (a82).den) : α := bif (decide (((0 : Int) ≤ (0 : Int)) ∧ ((0 : Int) < ((x.1.n : Nat) : Int)))) then onExit (L82x0 (x.2.1, ((), ((), (x.1, (((x.1.n : Nat) : Int), (((⟨0, fun i => ((0 : Int), ())⟩ : Sl _), ((0 : Int), ())), ())))))) ((0 : Int), ((x.1.g 0), ()))) 0 (fun u0 => l (some (u0.1, ()))) (l none) else l none
theorem q82 (x : (a82).den) : runFn Try.prog E0 G82 Try.f82 l82 a82 r82 x = Q82 .leaf .any x := by kernel_rfl
def M82 (x : (a82).den) : Option (r82).den := Q82 (fun r => r) (fun _ _ => none) x
theorem m82 (x : (a82).den) : (runFn Try.prog E0 G82 Try.f82 l82 a82 r82 x).sure = M82 x := by rw [q82]; unfold M82 Q82; simp only [sure_cond, Tree.sure, sure_cl, sure_onExit, sure_onRet, sure_onPanL, sure_onNext, sure_onBrk, sure_onRetO, sure_onPan, sure_onOk, sure_onGPan]
def p82 (x : (a82).den) : Bool := (M82 x).isSome
def v82 (x : (a82).den) : (r82).den := (M82 x).getD (r82).dflt
def k82 : Con := ⟨a82, r82, p82, v82⟩
theorem h82 : Holds Try.prog 82 k82 := holds_of_M' (E := E0) follows_ok g82 eqTy_sound keyTy_sound at82 bd82 (by kernel_rfl) m82 fun G' hlo hF hE => LsOK_kn (by rw [lo82]; exact .cons (loopV_ok hE hF hlo (LsOK_kn (by rw [lo82x0]; exact .nil)) (by kernel_rfl) (by kernel_rfl) sp82x0 (fun _ => rfl) (fun _ _ => rfl) (s82x0) big) (.nil))
/-- isobar/watch.Best -/
noncomputable def c40 : Code := Try.f40.body.getD .skip
theorem at40 : Try.prog.funcs[40]? = some Try.f40 := by kernel_rfl
theorem bd40 : Try.f40.body = some c40 := by kernel_rfl
theorem cl40 : Callable Try.prog 40 := callable_of at40 (by kernel_rfl) (by kernel_rfl)
abbrev T66 : Ty := (.cons (.sl T0) T1)
abbrev a40 : Ty := T49
abbrev r40 : Ty := T66
noncomputable def G40 : Ctx := Ctx.of [(77, .pure k77), (78, .gen (gappD Try.f78.ntmps r78 ps78 pans78 (F78 9))), (82, .pure k82), (83, .pure k83)]
theorem g40 : Sound Try.prog (G40) := sound_of (List.forall_mem_cons.2 ⟨⟨cl77, h77⟩, List.forall_mem_cons.2 ⟨⟨cl78, h78 9⟩, List.forall_mem_cons.2 ⟨⟨cl82, h82⟩, List.forall_mem_cons.2 ⟨⟨cl83, h83⟩, fun _ h => by cases h⟩⟩⟩⟩)
theorem lo40 : loopsOf (c40) = [] := by kernel_rfl
noncomputable def l40 : List Loop := []
def Q40 {α : Type} (l : Option (r40).den → α) (an : α → α → α) (x : (a40).den) : α := cl (r77).dflt (M77 (x.1, ())) (fun u0 => bif (!u0.1) then l (some ((⟨0, fun i => ((0 : Int), ())⟩ : Sl _), ((0 : Int), ((2 : Int), ())))) else onOk (F78 9 ((⟨0, fun i => ((0 : Int), ())⟩ : Sl _), ((), ((), ((), (x.1, (((⟨0, fun i => ((⟨0, fun i => ((0 : Int), ())⟩ : Sl _), ((0 : Int), ()))⟩ : Sl _), ()), (((), ()), ())))))))) (fun u1 => cl (r82).dflt (M82 (u1.2.2.1.1, ((fun y1 => ((p83 y1), (v83 y1))), ()))) (fun u2 => l (some (u2.1.1, (u2.1.2.1, ((0 : Int), ()))))) (l none)) (l none)) (l none)
theorem q40 (x : (a40).den) : runFn Try.prog E0 G40 Try.f40 l40 a40 r40 x = Q40 .leaf .any x := by kernel_rfl
def M40 (x : (a40).den) : Option (r40).den := Q40 (fun r => r) (fun _ _ => none) x
theorem m40 (x : (a40).den) : (runFn Try.prog E0 G40 Try.f40 l40 a40 r40 x).sure = M40 x := by rw [q40]; unfold M40 Q40; simp only [sure_cond, Tree.sure, sure_cl, sure_onExit, sure_onRet, sure_onPanL, sure_onNext, sure_onBrk, sure_onRetO, sure_onPan, sure_onOk, sure_onGPan]
def p40 (x : (a40).den) : Bool := (M40 x).isSome
def v40 (x : (a40).den) : (r40).den := (M40 x).getD (r40).dflt
def k40 : Con := ⟨a40, r40, p40, v40⟩
theorem h40 : Holds Try.prog 40 k40 := holds_of_M' (E := E0) follows_ok g40 eqTy_sound keyTy_sound at40 bd40 (by kernel_rfl) m40 fun G' hlo hF hE => LsOK_kn (by rw [lo40]; exact .nil)
/-- isobar/isobarlaw09.known -/
noncomputable def c22 : Code := Try.f22.body.getD .skip
theorem at22 : Try.prog.funcs[22]? = some Try.f22 := by kernel_rfl
theorem bd22 : Try.f22.body = some c22 := by kernel_rfl
theorem cl22 : Callable Try.prog 22 := callable_of at22 (by kernel_rfl) (by kernel_rfl)
abbrev a22 : Ty := .nil
abbrev r22 : Ty := T3
noncomputable def G22 : Ctx := Ctx.of [(17, .pure k17), (18, .pure k18), (30, .pure k30), (34, .pure k34), (37, .pure k37), (40, .pure k40), (42, .pure k42), (49, .pure k49), (51, .pure k51), (64, .pure k64), (65, .pure k65), (66, .pure k66), (67, .pure k67)]
theorem g22 : Sound Try.prog (G22) := sound_of (List.forall_mem_cons.2 ⟨⟨cl17, h17⟩, List.forall_mem_cons.2 ⟨⟨cl18, h18⟩, List.forall_mem_cons.2 ⟨⟨cl30, h30⟩, List.forall_mem_cons.2 ⟨⟨cl34, h34⟩, List.forall_mem_cons.2 ⟨⟨cl37, h37⟩, List.forall_mem_cons.2 ⟨⟨cl40, h40⟩, List.forall_mem_cons.2 ⟨⟨cl42, h42⟩, List.forall_mem_cons.2 ⟨⟨cl49, h49⟩, List.forall_mem_cons.2 ⟨⟨cl51, h51⟩, List.forall_mem_cons.2 ⟨⟨cl64, h64⟩, List.forall_mem_cons.2 ⟨⟨cl65, h65⟩, List.forall_mem_cons.2 ⟨⟨cl66, h66⟩, List.forall_mem_cons.2 ⟨⟨cl67, h67⟩, fun _ h => by cases h⟩⟩⟩⟩⟩⟩⟩⟩⟩⟩⟩⟩⟩)
theorem lo22 : loopsOf (c22) = [] := by kernel_rfl
noncomputable def l22 : List Loop := []
def Q22 {α : Type} (l : Option (r22).den → α) (an : α → α → α) (x : (a22).den) : α := cl (r64).dflt (M64 ()) (fun u0 => cl (r37).dflt (M37 (u0.1, ())) (fun u1 => cl (r17).dflt (M17 ((10 : Int), ((6 : Int), ((5 : Int), ())))) (fun u2 => cl (r18).dflt (M18 ((10 : Int), ((6 : Int), ((3 : Int), ())))) (fun u3 => cl (r30).dflt (M30 ((10 : Int), ((6 : Int), ((900 : Int), ())))) (fun u4 => cl (r64).dflt (M64 ()) (fun u5 => cl (r34).dflt (M34 (u0.1, ())) (fun u6 => cl (r65).dflt (M65 ()) (fun u7 => cl (r34).dflt (M34 (u7.1, ())) (fun u8 => cl (r66).dflt (M66 ()) (fun u9 => cl (r49).dflt (M49 (u9.1, ((⟨3, fun i => List.getD [((0 : Int), ()), ((1 : Int), ()), ((2 : Int), ())] i ((0 : Int), ())⟩ : Sl _), ()))) (fun u10 => cl (r66).dflt (M66 ()) (fun u11 => cl (r40).dflt (M40 (u9.1, ())) (fun u12 => bif (!(decide (u1.2.2.2.1 = (0 : Int)))) then l (some (false, ())) else bif (!(decide (u2.2.1 = (0 : Int)))) then l (some (false, ())) else bif (!(decide (u3.2.1 = (0 : Int)))) then l (some (false, ())) else bif (!(decide (u4.2.2.1 = (0 : Int)))) then l (some (false, ())) else bif (!(decide (u6.2.1 = (0 : Int)))) then l (some (false, ())) else bif (!(decide (u8.2.1 = (0 : Int)))) then l (some (false, ())) else bif (!(decide (u10.2.2.1 = (0 : Int)))) then l (some (false, ())) else bif (!(decide (u12.2.2.1 = (0 : Int)))) then l (some (false, ())) else bif (!(decide (u1.1 = (6 : Int)))) then l (some (false, ())) else bif (!(decide (u1.2.1 = (5 : Int)))) then l (some (false, ())) else bif (!(decide (u1.2.2.1 = (2 : Int)))) then l (some (false, ())) else bif (!(decide (u2.1 = (55 : Int)))) then l (some (false, ())) else bif (!(decide (u3.1 = (157600 : Int)))) then l (some (false, ())) else bif (!(decide (u4.1 = (5 : Int)))) then l (some (false, ())) else bif (!(decide (u4.2.1 = (5 : Int)))) then l (some (false, ())) else bif (!(decide (u6.1 = (3 : Int)))) then l (some (false, ())) else bif (!(decide (u8.1 = (2 : Int)))) then l (some (false, ())) else cl (r67).dflt (M67 ((⟨6, fun i => List.getD [((2 : Int), ()), ((3 : Int), ()), ((5 : Int), ()), ((6 : Int), ()), ((8 : Int), ()), ((10 : Int), ())] i ((2 : Int), ())⟩ : Sl _), ())) (fun u13 => cl (r51).dflt (M51 (u10.1, u13)) (fun u14 => bif u14.1 then bif ((decide (u10.2.1.1 = (9 : Int))) && ((decide (u10.2.1.2.1 = (11 : Int))) && true)) then cl (r42).dflt (M42 (u12.1, ((⟨3, fun i => List.getD [((0 : Int), ()), ((1 : Int), ()), ((2 : Int), ())] i ((0 : Int), ())⟩ : Sl _), ()))) (fun u15 => bif u15.1 then l (some ((decide (u12.2.1 = (11 : Int))), ())) else l (some (false, ()))) (l none) else l (some (false, ())) else l (some (false, ()))) (l none)) (l none)) (l none)) (l none)) (l none)) (l none)) (l none)) (l none)) (l none)) (l none)) (l none)) (l none)) (l none)) (l none)) (l none)
theorem q22 (x : (a22).den) : runFn Try.prog E0 G22 Try.f22 l22 a22 r22 x = Q22 .leaf .any x := by kernel_rfl
def M22 (x : (a22).den) : Option (r22).den := Q22 (fun r => r) (fun _ _ => none) x
theorem m22 (x : (a22).den) : (runFn Try.prog E0 G22 Try.f22 l22 a22 r22 x).sure = M22 x := by rw [q22]; unfold M22 Q22; simp only [sure_cond, Tree.sure, sure_cl, sure_onExit, sure_onRet, sure_onPanL, sure_onNext, sure_onBrk, sure_onRetO, sure_onPan, sure_onOk, sure_onGPan]
def p22 (x : (a22).den) : Bool := (M22 x).isSome
def v22 (x : (a22).den) : (r22).den := (M22 x).getD (r22).dflt
def k22 : Con := ⟨a22, r22, p22, v22⟩
theorem h22 : Holds Try.prog 22 k22 := holds_of_M' (E := E0) follows_ok g22 eqTy_sound keyTy_sound at22 bd22 (by kernel_rfl) m22 fun G' hlo hF hE => LsOK_kn (by rw [lo22]; exact .nil)
/-- isobar/isobarlaw09.brief -/
noncomputable def c38 : Code := Try.f38.body.getD .skip
theorem at38 : Try.prog.funcs[38]? = some Try.f38 := by kernel_rfl
theorem bd38 : Try.f38.body = some c38 := by kernel_rfl
theorem cl38 : Callable Try.prog 38 := callable_of at38 (by kernel_rfl) (by kernel_rfl)
abbrev a38 : Ty := T49
abbrev r38 : Ty := T3
noncomputable def G38 : Ctx := Ctx.of []
theorem g38 : Sound Try.prog (G38) := sound_of (fun _ h => by cases h)
noncomputable def b38x0 : Code := loopBody ((loopsOf (c38))[0]?)
theorem lo38x0 : loopsOf (b38x0) = [] := by kernel_rfl
abbrev cs38x0 : List Pat := [.slot 1 (.ptr 1), .box 1 [.pc tI, .pc (.sl T1), .pc T44]]
abbrev vs38x0 : List Pat := [.slot 3 (.pc tI)]
abbrev ps38x0 : List Pat := [.slot 1 (.ptr 1), .box 1 [.pc tI, .pc (.sl T1), .pc T44], .slot 3 (.pc tI)]
def j38x0 : (patsTy cs38x0).den → (patsTy vs38x0).den → (patsTy ps38x0).den := fun c v => (c.1, (c.2.1, v))
def sp38x0 : (patsTy ps38x0).den → (patsTy cs38x0).den × (patsTy vs38x0).den := fun x => ((x.1, (x.2.1, ())), x.2.2)
abbrev wy38x0 : Ways := ⟨[(0, [.slot 1 (.ptr 1), .box 1 [.pc tI, .pc (.sl T1), .pc T44]])], [.slot 2 (.pc .bool)], []⟩
abbrev wv38x0 : Ways := ⟨[(0, [])], [.slot 2 (.pc .bool)], []⟩
def je38x0 : (id : Nat) → (patsTy cs38x0).den → (patsTy (wayP wv38x0 id)).den → (patsTy (wayP wy38x0 id)).den := fun id => match id with | 0 => fun c y => (c.1, (c.2.1, y)) | id => fun _ _ => (patsTy (wayP wy38x0 id)).dflt
def jr38x0 : (patsTy cs38x0).den → (patsTy (wv38x0).ret).den → (patsTy (wy38x0).ret).den := fun c y => y
def jp38x0 : (patsTy cs38x0).den → (patsTy (wv38x0).pan).den → (patsTy (wy38x0).pan).den := fun c y => y
def Z38x0 {α : Type} (l : RQ vs38x0 wv38x0 → α) (an : α → α → α) (c : (patsTy cs38x0).den) (v : (patsTy vs38x0).den) : α := bif (decide (v.1 < ((c.2.1.2.2.1.n : Nat) : Int))) then bif (decide (v.1 < (10 : Int))) then bif (decide (((0 : Int) ≤ v.1) ∧ (v.1 < ((c.2.1.2.2.1.n : Nat) : Int)))) then bif (decide ((10 : Int) < (((c.2.1.2.2.1.g (Int.toNat v.1)).1.n : Nat) : Int))) then l (.out (.ret (false, ()))) else l (.next ((W (v.1 + (1 : Int))), ())) else l .bad else l (.out (.exit 0 ())) else l (.out (.exit 0 ()))
theorem z38x0 (c : (patsTy cs38x0).den) (v : (patsTy vs38x0).den) : roundQ Try.prog E0 G38 0 32 [] ps38x0 wy38x0 b38x0 [] (j38x0 c v) = Z38x0 (fun r => .leaf (r.lift j38x0 je38x0 jr38x0 jp38x0 c)) .any c v := by kernel_rfl
def S38x0 (c : (patsTy cs38x0).den) (v : (patsTy vs38x0).den) : RQ vs38x0 wv38x0 := Z38x0 (fun r => r) (fun _ _ => .bad) c v
theorem s38x0 (c : (patsTy cs38x0).den) (v : (patsTy vs38x0).den) : detQ (roundQ Try.prog E0 G38 0 32 [] ps38x0 wy38x0 b38x0 [] (j38x0 c v)) = (S38x0 c v).lift j38x0 je38x0 jr38x0 jp38x0 c := by rw [z38x0]; unfold S38x0 Z38x0; simp only [detQ_cond, lift_cond, lift_bad, detQ, detQ_cl, detQ_onExit, detQ_onRet, detQ_onPanL, detQ_onNext, detQ_onBrk, detQ_onRetO, detQ_onPan, detQ_onOk, detQ_onGPan, lift_cl, lift_onExit, lift_onRet, lift_onPanL, lift_onNext, lift_onBrk, lift_onRetO, lift_onPan, lift_onOk, lift_onGPan]
def L38x0 (c : (patsTy cs38x0).den) (v : (patsTy vs38x0).den) : LQ wv38x0 := iterQ (S38x0 c) big v
theorem lo38 : loopsOf (c38) = [.loop b38x0] := by kernel_rfl
noncomputable def l38 : List Loop := [.known (loopZ 0 [] ps38x0 fun x => spreadV wy38x0 je38x0 jr38x0 jp38x0 [] true (sp38x0 x).1 (L38x0 (sp38x0 x).1 (sp38x0 x).2) wy38x0.exits)]
def Q38 {α : Type} (l : Option (r38).den → α) (an : α → α → α) (x : (a38).den) : α := onExit (L38x0 ((), (x.1, ())) ((0 : Int), ())) 0 (fun u0 => bif (decide (((x.1.2.1.n : Nat) : Int) ≤ (9 : Int))) then l (some ((decide (((x.1.2.2.1.n : Nat) : Int) ≤ (10 : Int))), ())) else l (some (false, ()))) (onRet (L38x0 ((), (x.1, ())) ((0 : Int), ())) (fun u1 => l (some u1)) (l none))
theorem q38 (x : (a38).den) : runFn Try.prog E0 G38 Try.f38 l38 a38 r38 x = Q38 .leaf .any x := by kernel_rfl
def M38 (x : (a38).den) : Option (r38).den := Q38 (fun r => r) (fun _ _ => none) x
theorem m38 (x : (a38).den) : (runFn Try.prog E0 G38 Try.f38 l38 a38 r38 x).sure = M38 x := by rw [q38]; unfold M38 Q38; simp only [sure_cond, Tree.sure, sure_cl, sure_onExit, sure_onRet, sure_onPanL, sure_onNext, sure_onBrk, sure_onRetO, sure_onPan, sure_onOk, sure_onGPan]
def p38 (x : (a38).den) : Bool := (M38 x).isSome
def v38 (x : (a38).den) : (r38).den := (M38 x).getD (r38).dflt
def k38 : Con := ⟨a38, r38, p38, v38⟩
theorem h38 : Holds Try.prog 38 k38 := holds_of_M' (E := E0) follows_ok g38 eqTy_sound keyTy_sound at38 bd38 (by kernel_rfl) m38 fun G' hlo hF hE => LsOK_kn (by rw [lo38]; exact .cons (loopV_ok hE hF hlo (LsOK_kn (by rw [lo38x0]; exact .nil)) (by kernel_rfl) (by kernel_rfl) sp38x0 (fun _ => rfl) (fun _ _ => rfl) (s38x0) big) (.nil))
/-- isobar/isobarref09.in -/
noncomputable def c63 : Code := Try.f63.body.getD .skip
theorem at63 : Try.prog.funcs[63]? = some Try.f63 := by kernel_rfl
theorem bd63 : Try.f63.body = some c63 := by kernel_rfl
theorem cl63 : Callable Try.prog 63 := callable_of at63 (by kernel_rfl) (by kernel_rfl)
abbrev a63 : Ty := T2
abbrev r63 : Ty := T3
noncomputable def G63 : Ctx := Ctx.of []
theorem g63 : Sound Try.prog (G63) := sound_of (fun _ h => by cases h)
theorem lo63 : loopsOf (c63) = [] := by kernel_rfl
noncomputable def l63 : List Loop := []
def Q63 {α : Type} (l : Option (r63).den → α) (an : α → α → α) (x : (a63).den) : α := bif (decide (x.2.1 ≤ x.1)) then l (some ((decide (x.1 ≤ x.2.2.1)), ())) else l (some (false, ()))
theorem q63 (x : (a63).den) : runFn Try.prog E0 G63 Try.f63 l63 a63 r63 x = Q63 .leaf .any x := by kernel_rfl
def M63 (x : (a63).den) : Option (r63).den := Q63 (fun r => r) (fun _ _ => none) x
theorem m63 (x : (a63).den) : (runFn Try.prog E0 G63 Try.f63 l63 a63 r63 x).sure = M63 x := by rw [q63]; unfold M63 Q63; simp only [sure_cond, Tree.sure, sure_cl, sure_onExit, sure_onRet, sure_onPanL, sure_onNext, sure_onBrk, sure_onRetO, sure_onPan, sure_onOk, sure_onGPan]
def p63 (x : (a63).den) : Bool := (M63 x).isSome
def v63 (x : (a63).den) : (r63).den := (M63 x).getD (r63).dflt
def k63 : Con := ⟨a63, r63, p63, v63⟩
theorem h63 : Holds Try.prog 63 k63 := holds_of_M' (E := E0) follows_ok g63 eqTy_sound keyTy_sound at63 bd63 (by kernel_rfl) m63 fun G' hlo hF hE => LsOK_kn (by rw [lo63]; exact .nil)
/-- isobar/isobarref09.span -/
noncomputable def c76 : Code := Try.f76.body.getD .skip
theorem at76 : Try.prog.funcs[76]? = some Try.f76 := by kernel_rfl
theorem bd76 : Try.f76.body = some c76 := by kernel_rfl
theorem cl76 : Callable Try.prog 76 := callable_of at76 (by kernel_rfl) (by kernel_rfl)
abbrev a76 : Ty := T6
abbrev r76 : Ty := T3
noncomputable def G76 : Ctx := Ctx.of []
theorem g76 : Sound Try.prog (G76) := sound_of (fun _ h => by cases h)
theorem lo76 : loopsOf (c76) = [] := by kernel_rfl
noncomputable def l76 : List Loop := []
def Q76 {α : Type} (l : Option (r76).den → α) (an : α → α → α) (x : (a76).den) : α := bif (decide ((0 : Int) ≤ x.1.1)) then bif (decide (x.1.1 ≤ x.1.2.1)) then l (some ((decide (x.1.2.1 ≤ x.2.1)), ())) else l (some (false, ())) else l (some (false, ()))
theorem q76 (x : (a76).den) : runFn Try.prog E0 G76 Try.f76 l76 a76 r76 x = Q76 .leaf .any x := by kernel_rfl
def M76 (x : (a76).den) : Option (r76).den := Q76 (fun r => r) (fun _ _ => none) x
theorem m76 (x : (a76).den) : (runFn Try.prog E0 G76 Try.f76 l76 a76 r76 x).sure = M76 x := by rw [q76]; unfold M76 Q76; simp only [sure_cond, Tree.sure, sure_cl, sure_onExit, sure_onRet, sure_onPanL, sure_onNext, sure_onBrk, sure_onRetO, sure_onPan, sure_onOk, sure_onGPan]
def p76 (x : (a76).den) : Bool := (M76 x).isSome
def v76 (x : (a76).den) : (r76).den := (M76 x).getD (r76).dflt
def k76 : Con := ⟨a76, r76, p76, v76⟩
theorem h76 : Holds Try.prog 76 k76 := holds_of_M' (E := E0) follows_ok g76 eqTy_sound keyTy_sound at76 bd76 (by kernel_rfl) m76 fun G' hlo hF hE => LsOK_kn (by rw [lo76]; exact .nil)
/-- isobar/isobarref09.Round -/
noncomputable def c39 : Code := Try.f39.body.getD .skip
theorem at39 : Try.prog.funcs[39]? = some Try.f39 := by kernel_rfl
theorem bd39 : Try.f39.body = some c39 := by kernel_rfl
theorem cl39 : Callable Try.prog 39 := callable_of at39 (by kernel_rfl) (by kernel_rfl)
abbrev a39 : Ty := T49
abbrev r39 : Ty := T3
noncomputable def G39 : Ctx := Ctx.of [(63, .pure k63), (76, .pure k76)]
theorem g39 : Sound Try.prog (G39) := sound_of (List.forall_mem_cons.2 ⟨⟨cl63, h63⟩, List.forall_mem_cons.2 ⟨⟨cl76, h76⟩, fun _ h => by cases h⟩⟩)
noncomputable def b39x0 : Code := loopBody ((loopsOf (c39))[0]?)
theorem lo39x0 : loopsOf (b39x0) = [] := by kernel_rfl
abbrev cs39x0 : List Pat := [.slot 1 (.ptr 1), .box 1 [.pc tI, .pc (.sl T1), .pc T44]]
abbrev vs39x0 : List Pat := [.slot 3 (.pc tI)]
abbrev ps39x0 : List Pat := [.slot 1 (.ptr 1), .box 1 [.pc tI, .pc (.sl T1), .pc T44], .slot 3 (.pc tI)]
def j39x0 : (patsTy cs39x0).den → (patsTy vs39x0).den → (patsTy ps39x0).den := fun c v => (c.1, (c.2.1, v))
def sp39x0 : (patsTy ps39x0).den → (patsTy cs39x0).den × (patsTy vs39x0).den := fun x => ((x.1, (x.2.1, ())), x.2.2)
abbrev wy39x0 : Ways := ⟨[(0, [.slot 1 (.ptr 1), .box 1 [.pc tI, .pc (.sl T1), .pc T44]])], [.slot 2 (.pc .bool)], []⟩
abbrev wv39x0 : Ways := ⟨[(0, [])], [.slot 2 (.pc .bool)], []⟩
def je39x0 : (id : Nat) → (patsTy cs39x0).den → (patsTy (wayP wv39x0 id)).den → (patsTy (wayP wy39x0 id)).den := fun id => match id with | 0 => fun c y => (c.1, (c.2.1, y)) | id => fun _ _ => (patsTy (wayP wy39x0 id)).dflt
def jr39x0 : (patsTy cs39x0).den → (patsTy (wv39x0).ret).den → (patsTy (wy39x0).ret).den := fun c y => y
def jp39x0 : (patsTy cs39x0).den → (patsTy (wv39x0).pan).den → (patsTy (wy39x0).pan).den := fun c y => y
def Z39x0 {α : Type} (l : RQ vs39x0 wv39x0 → α) (an : α → α → α) (c : (patsTy cs39x0).den) (v : (patsTy vs39x0).den) : α := bif (decide (v.1 < ((c.2.1.2.1.n : Nat) : Int))) then bif (decide (((0 : Int) ≤ v.1) ∧ (v.1 < ((c.2.1.2.1.n : Nat) : Int)))) then cl (r63).dflt (M63 ((c.2.1.2.1.g (Int.toNat v.1)).1, ((0 : Int), ((10 : Int), ())))) (fun u0 => bif (!u0.1) then l (.out (.ret (false, ()))) else bif (decide (((0 : Int) ≤ v.1) ∧ (v.1 < ((c.2.1.2.1.n : Nat) : Int)))) then cl (r63).dflt (M63 ((c.2.1.2.1.g (Int.toNat v.1)).2.1, ((0 : Int), ((400 : Int), ())))) (fun u1 => bif (!u1.1) then l (.out (.ret (false, ()))) else l (.next ((W (v.1 + (1 : Int))), ()))) (l .bad) else l .bad) (l .bad) else l .bad else l (.out (.exit 0 ()))
theorem z39x0 (c : (patsTy cs39x0).den) (v : (patsTy vs39x0).den) : roundQ Try.prog E0 G39 0 89 [] ps39x0 wy39x0 b39x0 [] (j39x0 c v) = Z39x0 (fun r => .leaf (r.lift j39x0 je39x0 jr39x0 jp39x0 c)) .any c v := by kernel_rfl
def S39x0 (c : (patsTy cs39x0).den) (v : (patsTy vs39x0).den) : RQ vs39x0 wv39x0 := Z39x0 (fun r => r) (fun _ _ => .bad) c v
theorem s39x0 (c : (patsTy cs39x0).den) (v : (patsTy vs39x0).den) : detQ (roundQ Try.prog E0 G39 0 89 [] ps39x0 wy39x0 b39x0 [] (j39x0 c v)) = (S39x0 c v).lift j39x0 je39x0 jr39x0 jp39x0 c := by rw [z39x0]; unfold S39x0 Z39x0; simp only [detQ_cond, lift_cond, lift_bad, detQ, detQ_cl, detQ_onExit, detQ_onRet, detQ_onPanL, detQ_onNext, detQ_onBrk, detQ_onRetO, detQ_onPan, detQ_onOk, detQ_onGPan, lift_cl, lift_onExit, lift_onRet, lift_onPanL, lift_onNext, lift_onBrk, lift_onRetO, lift_onPan, lift_onOk, lift_onGPan]
def L39x0 (c : (patsTy cs39x0).den) (v : (patsTy vs39x0).den) : LQ wv39x0 := iterQ (S39x0 c) big v
noncomputable def b39x1 : Code := loopBody ((loopsOf (c39))[1]?)
noncomputable def b39x1x0 : Code := loopBody ((loopsOf (b39x1))[0]?)
theorem lo39x1x0 : loopsOf (b39x1x0) = [] := by kernel_rfl
abbrev cs39x1x0 : List Pat := [.slot 1 (.ptr 1), .slot 4 (.pc tI), .box 1 [.pc tI, .pc (.sl T1), .pc T44]]
abbrev vs39x1x0 : List Pat := [.slot 5 (.pc tI)]
abbrev ps39x1x0 : List Pat := [.slot 1 (.ptr 1), .slot 4 (.pc tI), .box 1 [.pc tI, .pc (.sl T1), .pc T44], .slot 5 (.pc tI)]
def j39x1x0 : (patsTy cs39x1x0).den → (patsTy vs39x1x0).den → (patsTy ps39x1x0).den := fun c v => (c.1, (c.2.1, (c.2.2.1, v)))
def sp39x1x0 : (patsTy ps39x1x0).den → (patsTy cs39x1x0).den × (patsTy vs39x1x0).den := fun x => ((x.1, (x.2.1, (x.2.2.1, ()))), x.2.2.2)
abbrev wy39x1x0 : Ways := ⟨[(4, [.slot 1 (.ptr 1), .slot 4 (.pc tI), .box 1 [.pc tI, .pc (.sl T1), .pc T44]])], [.slot 2 (.pc .bool)], []⟩
abbrev wv39x1x0 : Ways := ⟨[(4, [])], [.slot 2 (.pc .bool)], []⟩
def je39x1x0 : (id : Nat) → (patsTy cs39x1x0).den → (patsTy (wayP wv39x1x0 id)).den → (patsTy (wayP wy39x1x0 id)).den := fun id => match id with | 4 => fun c y => (c.1, (c.2.1, (c.2.2.1, y))) | id => fun _ _ => (patsTy (wayP wy39x1x0 id)).dflt
def jr39x1x0 : (patsTy cs39x1x0).den → (patsTy (wv39x1x0).ret).den → (patsTy (wy39x1x0).ret).den := fun c y => y
def jp39x1x0 : (patsTy cs39x1x0).den → (patsTy (wv39x1x0).pan).den → (patsTy (wy39x1x0).pan).den := fun c y => y
def Z39x1x0 {α : Type} (l : RQ vs39x1x0 wv39x1x0 → α) (an : α → α → α) (c : (patsTy cs39x1x0).den) (v : (patsTy vs39x1x0).den) : α := bif (decide (((0 : Int) ≤ c.2.1) ∧ (c.2.1 < ((c.2.2.1.2.2.1.n : Nat) : Int)))) then bif (decide (v.1 < (((c.2.2.1.2.2.1.g (Int.toNat c.2.1)).1.n : Nat) : Int))) then bif (decide (((0 : Int) ≤ c.2.1) ∧ (c.2.1 < ((c.2.2.1.2.2.1.n : Nat) : Int)))) then bif (decide (((0 : Int) ≤ v.1) ∧ (v.1 < (((c.2.2.1.2.2.1.g (Int.toNat c.2.1)).1.n : Nat) : Int)))) then cl (r76).dflt (M76 (((c.2.2.1.2.2.1.g (Int.toNat c.2.1)).1.g (Int.toNat v.1)), ((60 : Int), ()))) (fun u2 => bif (!u2.1) then l (.out (.ret (false, ()))) else l (.next ((W (v.1 + (1 : Int))), ()))) (l .bad) else l .bad else l .bad else l (.out (.exit 4 ())) else l .bad
theorem z39x1x0 (c : (patsTy cs39x1x0).den) (v : (patsTy vs39x1x0).den) : roundQ Try.prog E0 G39 0 89 [] ps39x1x0 wy39x1x0 b39x1x0 [] (j39x1x0 c v) = Z39x1x0 (fun r => .leaf (r.lift j39x1x0 je39x1x0 jr39x1x0 jp39x1x0 c)) .any c v := by kernel_rfl
def S39x1x0 (c : (patsTy cs39x1x0).den) (v : (patsTy vs39x1x0).den) : RQ vs39x1x0 wv39x1x0 := Z39x1x0 (fun r => r) (fun _ _ => .bad) c v
theorem s39x1x0 (c : (patsTy cs39x1x0).den) (v : (patsTy vs39x1x0).den) : detQ (roundQ Try.prog E0 G39 0 89 [] ps39x1x0 wy39x1x0 b39x1x0 [] (j39x1x0 c v)) = (S39x1x0 c v).lift j39x1x0 je39x1x0 jr39x1x0 jp39x1x0 c := by rw [z39x1x0]; unfold S39x1x0 Z39x1x0; simp only [detQ_cond, lift_cond, lift_bad, detQ, detQ_cl, detQ_onExit, detQ_onRet, detQ_onPanL, detQ_onNext, detQ_onBrk, detQ_onRetO, detQ_onPan, detQ_onOk, detQ_onGPan, lift_cl, lift_onExit, lift_onRet, lift_onPanL, lift_onNext, lift_onBrk, lift_onRetO, lift_onPan, lift_onOk, lift_onGPan]
def L39x1x0 (c : (patsTy cs39x1x0).den) (v : (patsTy vs39x1x0).den) : LQ wv39x1x0 := iterQ (S39x1x0 c) big v
theorem lo39x1 : loopsOf (b39x1) = [.loop b39x1x0] := by kernel_rfl
abbrev cs39x1 : List Pat := [.slot 1 (.ptr 1), .box 1 [.pc tI, .pc (.sl T1), .pc T44]]
abbrev vs39x1 : List Pat := [.slot 4 (.pc tI)]
abbrev ps39x1 : List Pat := [.slot 1 (.ptr 1), .box 1 [.pc tI, .pc (.sl T1), .pc T44], .slot 4 (.pc tI)]
def j39x1 : (patsTy cs39x1).den → (patsTy vs39x1).den → (patsTy ps39x1).den := fun c v => (c.1, (c.2.1, v))
def sp39x1 : (patsTy ps39x1).den → (patsTy cs39x1).den × (patsTy vs39x1).den := fun x => ((x.1, (x.2.1, ())), x.2.2)
abbrev wy39x1 : Ways := ⟨[(2, [])], [.slot 2 (.pc .bool)], []⟩
abbrev wv39x1 : Ways := ⟨[(2, [])], [.slot 2 (.pc .bool)], []⟩
def je39x1 : (id : Nat) → (patsTy cs39x1).den → (patsTy (wayP wv39x1 id)).den → (patsTy (wayP wy39x1 id)).den := fun id => match id with | 2 => fun c y => y | id => fun _ _ => (patsTy (wayP wy39x1 id)).dflt
def jr39x1 : (patsTy cs39x1).den → (patsTy (wv39x1).ret).den → (patsTy (wy39x1).ret).den := fun c y => y
def jp39x1 : (patsTy cs39x1).den → (patsTy (wv39x1).pan).den → (patsTy (wy39x1).pan).den := fun c y => y
def Z39x1 {α : Type} (l : RQ vs39x1 wv39x1 → α) (an : α → α → α) (c : (patsTy cs39x1).den) (v : (patsTy vs39x1).den) : α := bif (decide (v.1 < ((c.2.1.2.2.1.n : Nat) : Int))) then bif (decide (((0 : Int) ≤ v.1) ∧ (v.1 < ((c.2.1.2.2.1.n : Nat) : Int)))) then bif (!(decide ((((c.2.1.2.2.1.g (Int.toNat v.1)).1.n : Nat) : Int) = ((c.2.1.2.2.1.n : Nat) : Int)))) then l (.out (.ret (false, ()))) else onExit (L39x1x0 ((), (v.1, (c.2.1, ()))) ((0 : Int), ())) 4 (fun u3 => l (.next ((W (v.1 + (1 : Int))), ()))) (onRet (L39x1x0 ((), (v.1, (c.2.1, ()))) ((0 : Int), ())) (fun u4 => l (.out (.ret u4))) (l .bad)) else l .bad else l (.out (.exit 2 ()))
theorem z39x1 (c : (patsTy cs39x1).den) (v : (patsTy vs39x1).den) : roundQ Try.prog E0 G39 0 89 [] ps39x1 wy39x1 b39x1 [.known (loopZ 0 [] ps39x1x0 fun x => spreadV wy39x1x0 je39x1x0 jr39x1x0 jp39x1x0 [] true (sp39x1x0 x).1 (L39x1x0 (sp39x1x0 x).1 (sp39x1x0 x).2) wy39x1x0.exits)] (j39x1 c v) = Z39x1 (fun r => .leaf (r.lift j39x1 je39x1 jr39x1 jp39x1 c)) .any c v := by kernel_rfl
def S39x1 (c : (patsTy cs39x1).den) (v : (patsTy vs39x1).den) : RQ vs39x1 wv39x1 := Z39x1 (fun r => r) (fun _ _ => .bad) c v
theorem s39x1 (c : (patsTy cs39x1).den) (v : (patsTy vs39x1).den) : detQ (roundQ Try.prog E0 G39 0 89 [] ps39x1 wy39x1 b39x1 [.known (loopZ 0 [] ps39x1x0 fun x => spreadV wy39x1x0 je39x1x0 jr39x1x0 jp39x1x0 [] true (sp39x1x0 x).1 (L39x1x0 (sp39x1x0 x).1 (sp39x1x0 x).2) wy39x1x0.exits)] (j39x1 c v)) = (S39x1 c v).lift j39x1 je39x1 jr39x1 jp39x1 c := by rw [z39x1]; unfold S39x1 Z39x1; simp only [detQ_cond, lift_cond, lift_bad, detQ, detQ_cl, detQ_onExit, detQ_onRet, detQ_onPanL, detQ_onNext, detQ_onBrk, detQ_onRetO, detQ_onPan, detQ_onOk, detQ_onGPan, lift_cl, lift_onExit, lift_onRet, lift_onPanL, lift_onNext, lift_onBrk, lift_onRetO, lift_onPan, lift_onOk, lift_onGPan]
def L39x1 (c : (patsTy cs39x1).den) (v : (patsTy vs39x1).den) : LQ wv39x1 := iterQ (S39x1 c) big v
theorem lo39 : loopsOf (c39) = [.loop b39x0, .loop b39x1] := by kernel_rfl
noncomputable def l39 : List Loop := [.known (loopZ 0 [] ps39x0 fun x => spreadV wy39x0 je39x0 jr39x0 jp39x0 [] true (sp39x0 x).1 (L39x0 (sp39x0 x).1 (sp39x0 x).2) wy39x0.exits), .known (loopZ 0 [] ps39x1 fun x => spreadV wy39x1 je39x1 jr39x1 jp39x1 [] true (sp39x1 x).1 (L39x1 (sp39x1 x).1 (sp39x1 x).2) wy39x1.exits)]
def Q39 {α : Type} (l : Option (r39).den → α) (an : α → α → α) (x : (a39).den) : α := cl (r63).dflt (M63 (x.1.1, ((0 : Int), ((400 : Int), ())))) (fun u5 => bif (!u5.1) then l (some (false, ())) else cl (r63).dflt (M63 (((x.1.2.1.n : Nat) : Int), ((1 : Int), ((6 : Int), ())))) (fun u6 => bif (!u6.1) then l (some (false, ())) else bif (!(decide (((x.1.2.2.1.n : Nat) : Int) = (W (((x.1.2.1.n : Nat) : Int) + (1 : Int)))))) then l (some (false, ())) else onExit (L39x0 ((), (x.1, ())) ((0 : Int), ())) 0 (fun u7 => onExit (L39x1 ((), (x.1, ())) ((0 : Int), ())) 2 (fun u8 => l (some (true, ()))) (onRet (L39x1 ((), (x.1, ())) ((0 : Int), ())) (fun u9 => l (some u9)) (l none))) (onRet (L39x0 ((), (x.1, ())) ((0 : Int), ())) (fun u10 => l (some u10)) (l none))) (l none)) (l none)
theorem q39 (x : (a39).den) : runFn Try.prog E0 G39 Try.f39 l39 a39 r39 x = Q39 .leaf .any x := by kernel_rfl
def M39 (x : (a39).den) : Option (r39).den := Q39 (fun r => r) (fun _ _ => none) x
theorem m39 (x : (a39).den) : (runFn Try.prog E0 G39 Try.f39 l39 a39 r39 x).sure = M39 x := by rw [q39]; unfold M39 Q39; simp only [sure_cond, Tree.sure, sure_cl, sure_onExit, sure_onRet, sure_onPanL, sure_onNext, sure_onBrk, sure_onRetO, sure_onPan, sure_onOk, sure_onGPan]
def p39 (x : (a39).den) : Bool := (M39 x).isSome
def v39 (x : (a39).den) : (r39).den := (M39 x).getD (r39).dflt
def k39 : Con := ⟨a39, r39, p39, v39⟩
theorem h39 : Holds Try.prog 39 k39 := holds_of_M' (E := E0) follows_ok g39 eqTy_sound keyTy_sound at39 bd39 (by kernel_rfl) m39 fun G' hlo hF hE => LsOK_kn (by rw [lo39]; exact .cons (loopV_ok hE hF hlo (LsOK_kn (by rw [lo39x0]; exact .nil)) (by kernel_rfl) (by kernel_rfl) sp39x0 (fun _ => rfl) (fun _ _ => rfl) (s39x0) big) (.cons (loopV_ok hE hF hlo (LsOK_kn (by rw [lo39x1]; exact .cons (loopV_ok hE hF hlo (LsOK_kn (by rw [lo39x1x0]; exact .nil)) (by kernel_rfl) (by kernel_rfl) sp39x1x0 (fun _ => rfl) (fun _ _ => rfl) (s39x1x0) big) (.nil))) (by kernel_rfl) (by kernel_rfl) sp39x1 (fun _ => rfl) (fun _ _ => rfl) (s39x1) big) (.nil)))
/-- isobar/isobarref09.Order -/
noncomputable def c46 : Code := Try.f46.body.getD .skip
theorem at46 : Try.prog.funcs[46]? = some Try.f46 := by kernel_rfl
theorem bd46 : Try.f46.body = some c46 := by kernel_rfl
theorem cl46 : Callable Try.prog 46 := callable_of at46 (by kernel_rfl) (by kernel_rfl)
abbrev a46 : Ty := T50
abbrev r46 : Ty := T3
noncomputable def G46 : Ctx := Ctx.of [(63, .pure k63)]
theorem g46 : Sound Try.prog (G46) := sound_of (List.forall_mem_cons.2 ⟨⟨cl63, h63⟩, fun _ h => by cases h⟩)
noncomputable def b46x0 : Code := loopBody ((loopsOf (c46))[0]?)
noncomputable def b46x0x0 : Code := loopBody ((loopsOf (b46x0))[0]?)
theorem lo46x0x0 : loopsOf (b46x0x0) = [] := by kernel_rfl
abbrev cs46x0x0 : List Pat := [.slot 1 (.pc (.sl T0)), .slot 2 (.ptr 2), .slot 5 (.pc tI), .box 2 [.pc tI, .pc (.sl T1), .pc T44]]
abbrev vs46x0x0 : List Pat := [.slot 6 (.pc tI)]
abbrev ps46x0x0 : List Pat := [.slot 1 (.pc (.sl T0)), .slot 2 (.ptr 2), .slot 5 (.pc tI), .box 2 [.pc tI, .pc (.sl T1), .pc T44], .slot 6 (.pc tI)]
def j46x0x0 : (patsTy cs46x0x0).den → (patsTy vs46x0x0).den → (patsTy ps46x0x0).den := fun c v => (c.1, (c.2.1, (c.2.2.1, (c.2.2.2.1, v))))
def sp46x0x0 : (patsTy ps46x0x0).den → (patsTy cs46x0x0).den × (patsTy vs46x0x0).den := fun x => ((x.1, (x.2.1, (x.2.2.1, (x.2.2.2.1, ())))), x.2.2.2.2)
abbrev wy46x0x0 : Ways := ⟨[(2, [.slot 1 (.pc (.sl T0)), .slot 2 (.ptr 2), .slot 5 (.pc tI), .box 2 [.pc tI, .pc (.sl T1), .pc T44]])], [.slot 4 (.pc .bool)], []⟩
abbrev wv46x0x0 : Ways := ⟨[(2, [])], [.slot 4 (.pc .bool)], []⟩
def je46x0x0 : (id : Nat) → (patsTy cs46x0x0).den → (patsTy (wayP wv46x0x0 id)).den → (patsTy (wayP wy46x0x0 id)).den := fun id => match id with | 2 => fun c y => (c.1, (c.2.1, (c.2.2.1, (c.2.2.2.1, y)))) | id => fun _ _ => (patsTy (wayP wy46x0x0 id)).dflt
def jr46x0x0 : (patsTy cs46x0x0).den → (patsTy (wv46x0x0).ret).den → (patsTy (wy46x0x0).ret).den := fun c y => y
def jp46x0x0 : (patsTy cs46x0x0).den → (patsTy (wv46x0x0).pan).den → (patsTy (wy46x0x0).pan).den := fun c y => y
def Z46x0x0 {α : Type} (l : RQ vs46x0x0 wv46x0x0 → α) (an : α → α → α) (c : (patsTy cs46x0x0).den) (v : (patsTy vs46x0x0).den) : α := bif (decide (v.1 < c.2.2.1)) then bif (decide (((0 : Int) ≤ v.1) ∧ (v.1 < ((c.1.n : Nat) : Int)))) then bif (decide (((0 : Int) ≤ c.2.2.1) ∧ (c.2.2.1 < ((c.1.n : Nat) : Int)))) then bif (decide ((c.1.g (Int.toNat v.1)).1 = (c.1.g (Int.toNat c.2.2.1)).1)) then l (.out (.ret (false, ()))) else l (.next ((W (v.1 + (1 : Int))), ())) else l .bad else l .bad else l (.out (.exit 2 ()))
theorem z46x0x0 (c : (patsTy cs46x0x0).den) (v : (patsTy vs46x0x0).den) : roundQ Try.prog E0 G46 0 37 [] ps46x0x0 wy46x0x0 b46x0x0 [] (j46x0x0 c v) = Z46x0x0 (fun r => .leaf (r.lift j46x0x0 je46x0x0 jr46x0x0 jp46x0x0 c)) .any c v := by kernel_rfl
def S46x0x0 (c : (patsTy cs46x0x0).den) (v : (patsTy vs46x0x0).den) : RQ vs46x0x0 wv46x0x0 := Z46x0x0 (fun r => r) (fun _ _ => .bad) c v
theorem s46x0x0 (c : (patsTy cs46x0x0).den) (v : (patsTy vs46x0x0).den) : detQ (roundQ Try.prog E0 G46 0 37 [] ps46x0x0 wy46x0x0 b46x0x0 [] (j46x0x0 c v)) = (S46x0x0 c v).lift j46x0x0 je46x0x0 jr46x0x0 jp46x0x0 c := by rw [z46x0x0]; unfold S46x0x0 Z46x0x0; simp only [detQ_cond, lift_cond, lift_bad, detQ, detQ_cl, detQ_onExit, detQ_onRet, detQ_onPanL, detQ_onNext, detQ_onBrk, detQ_onRetO, detQ_onPan, detQ_onOk, detQ_onGPan, lift_cl, lift_onExit, lift_onRet, lift_onPanL, lift_onNext, lift_onBrk, lift_onRetO, lift_onPan, lift_onOk, lift_onGPan]
def L46x0x0 (c : (patsTy cs46x0x0).den) (v : (patsTy vs46x0x0).den) : LQ wv46x0x0 := iterQ (S46x0x0 c) big v
theorem lo46x0 : loopsOf (b46x0) = [.loop b46x0x0] := by kernel_rfl
abbrev cs46x0 : List Pat := [.slot 1 (.pc (.sl T0)), .slot 2 (.ptr 2), .box 2 [.pc tI, .pc (.sl T1), .pc T44]]
abbrev vs46x0 : List Pat := [.slot 5 (.pc tI)]
abbrev ps46x0 : List Pat := [.slot 1 (.pc (.sl T0)), .slot 2 (.ptr 2), .box 2 [.pc tI, .pc (.sl T1), .pc T44], .slot 5 (.pc tI)]
def j46x0 : (patsTy cs46x0).den → (patsTy vs46x0).den → (patsTy ps46x0).den := fun c v => (c.1, (c.2.1, (c.2.2.1, v)))
def sp46x0 : (patsTy ps46x0).den → (patsTy cs46x0).den × (patsTy vs46x0).den := fun x => ((x.1, (x.2.1, (x.2.2.1, ()))), x.2.2.2)
abbrev wy46x0 : Ways := ⟨[(0, [])], [.slot 4 (.pc .bool)], []⟩
abbrev wv46x0 : Ways := ⟨[(0, [])], [.slot 4 (.pc .bool)], []⟩
def je46x0 : (id : Nat) → (patsTy cs46x0).den → (patsTy (wayP wv46x0 id)).den → (patsTy (wayP wy46x0 id)).den := fun id => match id with | 0 => fun c y => y | id => fun _ _ => (patsTy (wayP wy46x0 id)).dflt
def jr46x0 : (patsTy cs46x0).den → (patsTy (wv46x0).ret).den → (patsTy (wy46x0).ret).den := fun c y => y
def jp46x0 : (patsTy cs46x0).den → (patsTy (wv46x0).pan).den → (patsTy (wy46x0).pan).den := fun c y => y
def Z46x0 {α : Type} (l : RQ vs46x0 wv46x0 → α) (an : α → α → α) (c : (patsTy cs46x0).den) (v : (patsTy vs46x0).den) : α := bif (decide (v.1 < ((c.1.n : Nat) : Int))) then bif (decide (((0 : Int) ≤ v.1) ∧ (v.1 < ((c.1.n : Nat) : Int)))) then cl (r63).dflt (M63 ((c.1.g (Int.toNat v.1)).1, ((0 : Int), ((W (((c.2.2.1.2.1.n : Nat) : Int) - (1 : Int))), ())))) (fun u0 => bif (!u0.1) then l (.out (.ret (false, ()))) else onExit (L46x0x0 (c.1, ((), (v.1, (c.2.2.1, ())))) ((0 : Int), ())) 2 (fun u1 => l (.next ((W (v.1 + (1 : Int))), ()))) (onRet (L46x0x0 (c.1, ((), (v.1, (c.2.2.1, ())))) ((0 : Int), ())) (fun u2 => l (.out (.ret u2))) (l .bad))) (l .bad) else l .bad else l (.out (.exit 0 ()))
theorem z46x0 (c : (patsTy cs46x0).den) (v : (patsTy vs46x0).den) : roundQ Try.prog E0 G46 0 37 [] ps46x0 wy46x0 b46x0 [.known (loopZ 0 [] ps46x0x0 fun x => spreadV wy46x0x0 je46x0x0 jr46x0x0 jp46x0x0 [] true (sp46x0x0 x).1 (L46x0x0 (sp46x0x0 x).1 (sp46x0x0 x).2) wy46x0x0.exits)] (j46x0 c v) = Z46x0 (fun r => .leaf (r.lift j46x0 je46x0 jr46x0 jp46x0 c)) .any c v := by kernel_rfl
def S46x0 (c : (patsTy cs46x0).den) (v : (patsTy vs46x0).den) : RQ vs46x0 wv46x0 := Z46x0 (fun r => r) (fun _ _ => .bad) c v
theorem s46x0 (c : (patsTy cs46x0).den) (v : (patsTy vs46x0).den) : detQ (roundQ Try.prog E0 G46 0 37 [] ps46x0 wy46x0 b46x0 [.known (loopZ 0 [] ps46x0x0 fun x => spreadV wy46x0x0 je46x0x0 jr46x0x0 jp46x0x0 [] true (sp46x0x0 x).1 (L46x0x0 (sp46x0x0 x).1 (sp46x0x0 x).2) wy46x0x0.exits)] (j46x0 c v)) = (S46x0 c v).lift j46x0 je46x0 jr46x0 jp46x0 c := by rw [z46x0]; unfold S46x0 Z46x0; simp only [detQ_cond, lift_cond, lift_bad, detQ, detQ_cl, detQ_onExit, detQ_onRet, detQ_onPanL, detQ_onNext, detQ_onBrk, detQ_onRetO, detQ_onPan, detQ_onOk, detQ_onGPan, lift_cl, lift_onExit, lift_onRet, lift_onPanL, lift_onNext, lift_onBrk, lift_onRetO, lift_onPan, lift_onOk, lift_onGPan]
def L46x0 (c : (patsTy cs46x0).den) (v : (patsTy vs46x0).den) : LQ wv46x0 := iterQ (S46x0 c) big v
theorem lo46 : loopsOf (c46) = [.loop b46x0] := by kernel_rfl
noncomputable def l46 : List Loop := [.known (loopZ 0 [] ps46x0 fun x => spreadV wy46x0 je46x0 jr46x0 jp46x0 [] true (sp46x0 x).1 (L46x0 (sp46x0 x).1 (sp46x0 x).2) wy46x0.exits)]
def Q46 {α : Type} (l : Option (r46).den → α) (an : α → α → α) (x : (a46).den) : α := onExit (L46x0 (x.2.1, ((), (x.1, ()))) ((0 : Int), ())) 0 (fun u3 => l (some (true, ()))) (onRet (L46x0 (x.2.1, ((), (x.1, ()))) ((0 : Int), ())) (fun u4 => l (some u4)) (l none))
theorem q46 (x : (a46).den) : runFn Try.prog E0 G46 Try.f46 l46 a46 r46 x = Q46 .leaf .any x := by kernel_rfl
def M46 (x : (a46).den) : Option (r46).den := Q46 (fun r => r) (fun _ _ => none) x
theorem m46 (x : (a46).den) : (runFn Try.prog E0 G46 Try.f46 l46 a46 r46 x).sure = M46 x := by rw [q46]; unfold M46 Q46; simp only [sure_cond, Tree.sure, sure_cl, sure_onExit, sure_onRet, sure_onPanL, sure_onNext, sure_onBrk, sure_onRetO, sure_onPan, sure_onOk, sure_onGPan]
def p46 (x : (a46).den) : Bool := (M46 x).isSome
def v46 (x : (a46).den) : (r46).den := (M46 x).getD (r46).dflt
def k46 : Con := ⟨a46, r46, p46, v46⟩
theorem h46 : Holds Try.prog 46 k46 := holds_of_M' (E := E0) follows_ok g46 eqTy_sound keyTy_sound at46 bd46 (by kernel_rfl) m46 fun G' hlo hF hE => LsOK_kn (by rw [lo46]; exact .cons (loopV_ok hE hF hlo (LsOK_kn (by rw [lo46x0]; exact .cons (loopV_ok hE hF hlo (LsOK_kn (by rw [lo46x0x0]; exact .nil)) (by kernel_rfl) (by kernel_rfl) sp46x0x0 (fun _ => rfl) (fun _ _ => rfl) (s46x0x0) big) (.nil))) (by kernel_rfl) (by kernel_rfl) sp46x0 (fun _ => rfl) (fun _ _ => rfl) (s46x0) big) (.nil))
/-- slices.EqualFunc[[]int,[]isobar/api.Span,int,isobar/api.Span] -/
noncomputable def c88 : Code := Try.f88.body.getD .skip
theorem at88 : Try.prog.funcs[88]? = some Try.f88 := by kernel_rfl
theorem bd88 : Try.f88.body = some c88 := by kernel_rfl
theorem cl88 : Callable Try.prog 88 := callable_of at88 (by kernel_rfl) (by kernel_rfl)
abbrev T67 : Ty := (.cons tI T7)
abbrev T68 : Ty := (.fn T67 T3)
abbrev T69 : Ty := (.cons T68 .nil)
abbrev T70 : Ty := (.cons (.sl T1) T69)
abbrev T71 : Ty := (.cons (.sl T0) T70)
abbrev a88 : Ty := T71
abbrev r88 : Ty := T3
noncomputable def G88 : Ctx := Ctx.of []
theorem g88 : Sound Try.prog (G88) := sound_of (fun _ h => by cases h)
noncomputable def b88x0 : Code := loopBody ((loopsOf (c88))[0]?)
theorem lo88x0 : loopsOf (b88x0) = [] := by kernel_rfl
abbrev cs88x0 : List Pat := [.slot 1 (.pc (.sl T1)), .slot 2 (.pc T68), .slot 15 (.pc (.sl T0)), .slot 16 (.pc tI)]
abbrev vs88x0 : List Pat := [.slot 17 (.pc tI)]
abbrev ps88x0 : List Pat := [.slot 1 (.pc (.sl T1)), .slot 2 (.pc T68), .slot 15 (.pc (.sl T0)), .slot 16 (.pc tI), .slot 17 (.pc tI)]
def j88x0 : (patsTy cs88x0).den → (patsTy vs88x0).den → (patsTy ps88x0).den := fun c v => (c.1, (c.2.1, (c.2.2.1, (c.2.2.2.1, v))))
def sp88x0 : (patsTy ps88x0).den → (patsTy cs88x0).den × (patsTy vs88x0).den := fun x => ((x.1, (x.2.1, (x.2.2.1, (x.2.2.2.1, ())))), x.2.2.2.2)
abbrev wy88x0 : Ways := ⟨[(0, [])], [.slot 6 (.pc .bool)], []⟩
abbrev wv88x0 : Ways := ⟨[(0, [])], [.slot 6 (.pc .bool)], []⟩
def je88x0 : (id : Nat) → (patsTy cs88x0).den → (patsTy (wayP wv88x0 id)).den → (patsTy (wayP wy88x0 id)).den := fun id => match id with | 0 => fun c y => y | id => fun _ _ => (patsTy (wayP wy88x0 id)).dflt
def jr88x0 : (patsTy cs88x0).den → (patsTy (wv88x0).ret).den → (patsTy (wy88x0).ret).den := fun c y => y
def jp88x0 : (patsTy cs88x0).den → (patsTy (wv88x0).pan).den → (patsTy (wy88x0).pan).den := fun c y => y
def Z88x0 {α : Type} (l : RQ vs88x0 wv88x0 → α) (an : α → α → α) (c : (patsTy cs88x0).den) (v : (patsTy vs88x0).den) : α := bif (decide (v.1 < c.2.2.2.1)) then bif (decide (((0 : Int) ≤ v.1) ∧ (v.1 < ((c.2.2.1.n : Nat) : Int)))) then bif (decide (((0 : Int) ≤ v.1) ∧ (v.1 < ((c.1.n : Nat) : Int)))) then bif (c.2.1 ((c.2.2.1.g (Int.toNat v.1)).1, ((c.1.g (Int.toNat v.1)), ()))).1 then bif (!(c.2.1 ((c.2.2.1.g (Int.toNat v.1)).1, ((c.1.g (Int.toNat v.1)), ()))).2.1) then l (.out (.ret (false, ()))) else l (.next ((W (v.1 + (1 : Int))), ())) else l .bad else l .bad else l .bad else l (.out (.exit 0 ()))
theorem z88x0 (c : (patsTy cs88x0).den) (v : (patsTy vs88x0).den) : roundQ Try.prog E0 G88 0 32 [] ps88x0 wy88x0 b88x0 [] (j88x0 c v) = Z88x0 (fun r => .leaf (r.lift j88x0 je88x0 jr88x0 jp88x0 c)) .any c v := by kernel_rfl
def S88x0 (c : (patsTy cs88x0).den) (v : (patsTy vs88x0).den) : RQ vs88x0 wv88x0 := Z88x0 (fun r => r) (fun _ _ => .bad) c v
theorem s88x0 (c : (patsTy cs88x0).den) (v : (patsTy vs88x0).den) : detQ (roundQ Try.prog E0 G88 0 32 [] ps88x0 wy88x0 b88x0 [] (j88x0 c v)) = (S88x0 c v).lift j88x0 je88x0 jr88x0 jp88x0 c := by rw [z88x0]; unfold S88x0 Z88x0; simp only [detQ_cond, lift_cond, lift_bad, detQ, detQ_cl, detQ_onExit, detQ_onRet, detQ_onPanL, detQ_onNext, detQ_onBrk, detQ_onRetO, detQ_onPan, detQ_onOk, detQ_onGPan, lift_cl, lift_onExit, lift_onRet, lift_onPanL, lift_onNext, lift_onBrk, lift_onRetO, lift_onPan, lift_onOk, lift_onGPan]
def L88x0 (c : (patsTy cs88x0).den) (v : (patsTy vs88x0).den) : LQ wv88x0 := iterQ (S88x0 c) big v
theorem lo88 : loopsOf (c88) = [.loop b88x0] := by kernel_rfl
noncomputable def l88 : List Loop := [.known (loopZ 0 [] ps88x0 fun x => spreadV wy88x0 je88x0 jr88x0 jp88x0 [] true (sp88x0 x).1 (L88x0 (sp88x0 x).1 (sp88x0 x).2) wy88x0.exits)]
def Q88 {α : Type} (l : Option (r88).den → α) (an : α → α → α) (x : (a88).den) : α := bif (!(decide (((x.1.n : Nat) : Int) = ((x.2.1.n : Nat) : Int)))) then l (some (false, ())) else onExit (L88x0 (x.2.1, (x.2.2.1, (x.1, (((x.1.n : Nat) : Int), ())))) ((0 : Int), ())) 0 (fun u0 => l (some (true, ()))) (onRet (L88x0 (x.2.1, (x.2.2.1, (x.1, (((x.1.n : Nat) : Int), ())))) ((0 : Int), ())) (fun u1 => l (some u1)) (l none))
theorem q88 (x : (a88).den) : runFn Try.prog E0 G88 Try.f88 l88 a88 r88 x = Q88 .leaf .any x := by kernel_rfl
def M88 (x : (a88).den) : Option (r88).den := Q88 (fun r => r) (fun _ _ => none) x
theorem m88 (x : (a88).den) : (runFn Try.prog E0 G88 Try.f88 l88 a88 r88 x).sure = M88 x := by rw [q88]; unfold M88 Q88; simp only [sure_cond, Tree.sure, sure_cl, sure_onExit, sure_onRet, sure_onPanL, sure_onNext, sure_onBrk, sure_onRetO, sure_onPan, sure_onOk, sure_onGPan]
def p88 (x : (a88).den) : Bool := (M88 x).isSome
def v88 (x : (a88).den) : (r88).den := (M88 x).getD (r88).dflt
def k88 : Con := ⟨a88, r88, p88, v88⟩
theorem h88 : Holds Try.prog 88 k88 := holds_of_M' (E := E0) follows_ok g88 eqTy_sound keyTy_sound at88 bd88 (by kernel_rfl) m88 fun G' hlo hF hE => LsOK_kn (by rw [lo88]; exact .cons (loopV_ok hE hF hlo (LsOK_kn (by rw [lo88x0]; exact .nil)) (by kernel_rfl) (by kernel_rfl) sp88x0 (fun _ => rfl) (fun _ _ => rfl) (s88x0) big) (.nil))
/-- isobar/watch.Visit$1 -/
noncomputable def c90 : Code := Try.f90.body.getD .skip
theorem at90 : Try.prog.funcs[90]? = some Try.f90 := by kernel_rfl
theorem bd90 : Try.f90.body = some c90 := by kernel_rfl
theorem cl90 : Callable Try.prog 90 := callable_of at90 (by kernel_rfl) (by kernel_rfl)
abbrev a90 : Ty := T67
abbrev r90 : Ty := T3
noncomputable def G90 : Ctx := Ctx.of [(60, .pure k60)]
theorem g90 : Sound Try.prog (G90) := sound_of (List.forall_mem_cons.2 ⟨⟨cl60, h60⟩, fun _ h => by cases h⟩)
theorem lo90 : loopsOf (c90) = [] := by kernel_rfl
noncomputable def l90 : List Loop := []
def Q90 {α : Type} (l : Option (r90).den → α) (an : α → α → α) (x : (a90).den) : α := cl (r60).dflt (M60 (x.1, x.2.1)) (fun u0 => l (some u0)) (l none)
theorem q90 (x : (a90).den) : runFn Try.prog E0 G90 Try.f90 l90 a90 r90 x = Q90 .leaf .any x := by kernel_rfl
def M90 (x : (a90).den) : Option (r90).den := Q90 (fun r => r) (fun _ _ => none) x
theorem m90 (x : (a90).den) : (runFn Try.prog E0 G90 Try.f90 l90 a90 r90 x).sure = M90 x := by rw [q90]; unfold M90 Q90; simp only [sure_cond, Tree.sure, sure_cl, sure_onExit, sure_onRet, sure_onPanL, sure_onNext, sure_onBrk, sure_onRetO, sure_onPan, sure_onOk, sure_onGPan]
def p90 (x : (a90).den) : Bool := (M90 x).isSome
def v90 (x : (a90).den) : (r90).den := (M90 x).getD (r90).dflt
def k90 : Con := ⟨a90, r90, p90, v90⟩
theorem h90 : Holds Try.prog 90 k90 := holds_of_M' (E := E0) follows_ok g90 eqTy_sound keyTy_sound at90 bd90 (by kernel_rfl) m90 fun G' hlo hF hE => LsOK_kn (by rw [lo90]; exact .nil)
/-- isobar/watch.Visit -/
noncomputable def c53 : Code := Try.f53.body.getD .skip
theorem at53 : Try.prog.funcs[53]? = some Try.f53 := by kernel_rfl
theorem bd53 : Try.f53.body = some c53 := by kernel_rfl
theorem cl53 : Callable Try.prog 53 := callable_of at53 (by kernel_rfl) (by kernel_rfl)
abbrev a53 : Ty := T53
abbrev r53 : Ty := T66
noncomputable def G53 : Ctx := Ctx.of [(77, .pure k77), (85, .pure k85), (87, .pure k87), (88, .pure k88), (89, .pure k89), (90, .pure k90)]
theorem g53 : Sound Try.prog (G53) := sound_of (List.forall_mem_cons.2 ⟨⟨cl77, h77⟩, List.forall_mem_cons.2 ⟨⟨cl85, h85⟩, List.forall_mem_cons.2 ⟨⟨cl87, h87⟩, List.forall_mem_cons.2 ⟨⟨cl88, h88⟩, List.forall_mem_cons.2 ⟨⟨cl89, h89⟩, List.forall_mem_cons.2 ⟨⟨cl90, h90⟩, fun _ h => by cases h⟩⟩⟩⟩⟩⟩)
theorem lo53 : loopsOf (c53) = [] := by kernel_rfl
noncomputable def l53 : List Loop := []
def Q53 {α : Type} (l : Option (r53).den → α) (an : α → α → α) (x : (a53).den) : α := cl (r77).dflt (M77 (x.1, ())) (fun u0 => bif (!u0.1) then l (some ((⟨0, fun i => ((0 : Int), ())⟩ : Sl _), ((0 : Int), ((2 : Int), ())))) else cl (r85).dflt (M85 (x.1, (x.2.1, ()))) (fun u1 => bif (!u1.1) then l (some ((⟨0, fun i => ((0 : Int), ())⟩ : Sl _), ((0 : Int), ((2 : Int), ())))) else cl (r89).dflt (M89 (x.1, (x.2.1, ()))) (fun u2 => cl (r88).dflt (M88 (x.2.2.1, (u2.1, ((fun y1 => ((p90 y1), (v90 y1))), ())))) (fun u3 => bif (!u3.1) then l (some ((⟨0, fun i => ((0 : Int), ())⟩ : Sl _), ((0 : Int), ((2 : Int), ())))) else cl (r87).dflt (M87 (x.1, x.2)) (fun u4 => l (some (u4.1, (u4.2.1, ((0 : Int), ()))))) (l none)) (l none)) (l none)) (l none)) (l none)
theorem q53 (x : (a53).den) : runFn Try.prog E0 G53 Try.f53 l53 a53 r53 x = Q53 .leaf .any x := by kernel_rfl
def M53 (x : (a53).den) : Option (r53).den := Q53 (fun r => r) (fun _ _ => none) x
theorem m53 (x : (a53).den) : (runFn Try.prog E0 G53 Try.f53 l53 a53 r53 x).sure = M53 x := by rw [q53]; unfold M53 Q53; simp only [sure_cond, Tree.sure, sure_cl, sure_onExit, sure_onRet, sure_onPanL, sure_onNext, sure_onBrk, sure_onRetO, sure_onPan, sure_onOk, sure_onGPan]
def p53 (x : (a53).den) : Bool := (M53 x).isSome
def v53 (x : (a53).den) : (r53).den := (M53 x).getD (r53).dflt
def k53 : Con := ⟨a53, r53, p53, v53⟩
theorem h53 : Holds Try.prog 53 k53 := holds_of_M' (E := E0) follows_ok g53 eqTy_sound keyTy_sound at53 bd53 (by kernel_rfl) m53 fun G' hlo hF hE => LsOK_kn (by rw [lo53]; exact .nil)
/-- isobar/isobarref09.Road -/
noncomputable def c57 : Code := Try.f57.body.getD .skip
theorem at57 : Try.prog.funcs[57]? = some Try.f57 := by kernel_rfl
theorem bd57 : Try.f57.body = some c57 := by kernel_rfl
theorem cl57 : Callable Try.prog 57 := callable_of at57 (by kernel_rfl) (by kernel_rfl)
abbrev T72 : Ty := (.cons T48 T54)
abbrev a57 : Ty := T72
abbrev r57 : Ty := T7
noncomputable def G57 : Ctx := Ctx.of []
theorem g57 : Sound Try.prog (G57) := sound_of (fun _ h => by cases h)
theorem lo57 : loopsOf (c57) = [] := by kernel_rfl
noncomputable def l57 : List Loop := []
def Q57 {α : Type} (l : Option (r57).den → α) (an : α → α → α) (x : (a57).den) : α := bif (decide ((0 : Int) < x.2.2.1)) then bif (decide (((0 : Int) ≤ (W (x.2.2.1 - (1 : Int)))) ∧ ((W (x.2.2.1 - (1 : Int))) < ((x.2.1.n : Nat) : Int)))) then bif (decide (((0 : Int) ≤ (W ((x.2.1.g (Int.toNat (W (x.2.2.1 - (1 : Int))))).1 + (1 : Int)))) ∧ ((W ((x.2.1.g (Int.toNat (W (x.2.2.1 - (1 : Int))))).1 + (1 : Int))) < ((x.1.2.2.1.n : Nat) : Int)))) then bif (decide (((0 : Int) ≤ x.2.2.1) ∧ (x.2.2.1 < ((x.2.1.n : Nat) : Int)))) then bif (decide (((0 : Int) ≤ (W ((x.2.1.g (Int.toNat x.2.2.1)).1 + (1 : Int)))) ∧ ((W ((x.2.1.g (Int.toNat x.2.2.1)).1 + (1 : Int))) < (((x.1.2.2.1.g (Int.toNat (W ((x.2.1.g (Int.toNat (W (x.2.2.1 - (1 : Int))))).1 + (1 : Int))))).1.n : Nat) : Int)))) then l (some (((x.1.2.2.1.g (Int.toNat (W ((x.2.1.g (Int.toNat (W (x.2.2.1 - (1 : Int))))).1 + (1 : Int))))).1.g (Int.toNat (W ((x.2.1.g (Int.toNat x.2.2.1)).1 + (1 : Int))))), ())) else l none else l none else l none else l none else bif (decide (((0 : Int) ≤ (0 : Int)) ∧ ((0 : Int) < ((x.1.2.2.1.n : Nat) : Int)))) then bif (decide (((0 : Int) ≤ x.2.2.1) ∧ (x.2.2.1 < ((x.2.1.n : Nat) : Int)))) then bif (decide (((0 : Int) ≤ (W ((x.2.1.g (Int.toNat x.2.2.1)).1 + (1 : Int)))) ∧ ((W ((x.2.1.g (Int.toNat x.2.2.1)).1 + (1 : Int))) < (((x.1.2.2.1.g 0).1.n : Nat) : Int)))) then l (some (((x.1.2.2.1.g 0).1.g (Int.toNat (W ((x.2.1.g (Int.toNat x.2.2.1)).1 + (1 : Int))))), ())) else l none else l none else l none
theorem q57 (x : (a57).den) : runFn Try.prog E0 G57 Try.f57 l57 a57 r57 x = Q57 .leaf .any x := by kernel_rfl
def M57 (x : (a57).den) : Option (r57).den := Q57 (fun r => r) (fun _ _ => none) x
theorem m57 (x : (a57).den) : (runFn Try.prog E0 G57 Try.f57 l57 a57 r57 x).sure = M57 x := by rw [q57]; unfold M57 Q57; simp only [sure_cond, Tree.sure, sure_cl, sure_onExit, sure_onRet, sure_onPanL, sure_onNext, sure_onBrk, sure_onRetO, sure_onPan, sure_onOk, sure_onGPan]
def p57 (x : (a57).den) : Bool := (M57 x).isSome
def v57 (x : (a57).den) : (r57).den := (M57 x).getD (r57).dflt
def k57 : Con := ⟨a57, r57, p57, v57⟩
theorem h57 : Holds Try.prog 57 k57 := holds_of_M' (E := E0) follows_ok g57 eqTy_sound keyTy_sound at57 bd57 (by kernel_rfl) m57 fun G' hlo hF hE => LsOK_kn (by rw [lo57]; exact .nil)
/-- isobar/isobarref09.Legs -/
noncomputable def c54 : Code := Try.f54.body.getD .skip
theorem at54 : Try.prog.funcs[54]? = some Try.f54 := by kernel_rfl
theorem bd54 : Try.f54.body = some c54 := by kernel_rfl
theorem cl54 : Callable Try.prog 54 := callable_of at54 (by kernel_rfl) (by kernel_rfl)
abbrev a54 : Ty := T53
abbrev r54 : Ty := T3
noncomputable def G54 : Ctx := Ctx.of [(57, .pure k57), (63, .pure k63)]
theorem g54 : Sound Try.prog (G54) := sound_of (List.forall_mem_cons.2 ⟨⟨cl57, h57⟩, List.forall_mem_cons.2 ⟨⟨cl63, h63⟩, fun _ h => by cases h⟩⟩)
noncomputable def b54x0 : Code := loopBody ((loopsOf (c54))[0]?)
theorem lo54x0 : loopsOf (b54x0) = [] := by kernel_rfl
abbrev cs54x0 : List Pat := [.slot 1 (.pc (.sl T0)), .slot 2 (.pc (.sl T0)), .slot 3 (.ptr 3), .box 3 [.pc tI, .pc (.sl T1), .pc T44]]
abbrev vs54x0 : List Pat := [.slot 7 (.pc tI)]
abbrev ps54x0 : List Pat := [.slot 1 (.pc (.sl T0)), .slot 2 (.pc (.sl T0)), .slot 3 (.ptr 3), .box 3 [.pc tI, .pc (.sl T1), .pc T44], .slot 7 (.pc tI)]
def j54x0 : (patsTy cs54x0).den → (patsTy vs54x0).den → (patsTy ps54x0).den := fun c v => (c.1, (c.2.1, (c.2.2.1, (c.2.2.2.1, v))))
def sp54x0 : (patsTy ps54x0).den → (patsTy cs54x0).den × (patsTy vs54x0).den := fun x => ((x.1, (x.2.1, (x.2.2.1, (x.2.2.2.1, ())))), x.2.2.2.2)
abbrev wy54x0 : Ways := ⟨[(0, [])], [.slot 6 (.pc .bool)], []⟩
abbrev wv54x0 : Ways := ⟨[(0, [])], [.slot 6 (.pc .bool)], []⟩
def je54x0 : (id : Nat) → (patsTy cs54x0).den → (patsTy (wayP wv54x0 id)).den → (patsTy (wayP wy54x0 id)).den := fun id => match id with | 0 => fun c y => y | id => fun _ _ => (patsTy (wayP wy54x0 id)).dflt
def jr54x0 : (patsTy cs54x0).den → (patsTy (wv54x0).ret).den → (patsTy (wy54x0).ret).den := fun c y => y
def jp54x0 : (patsTy cs54x0).den → (patsTy (wv54x0).pan).den → (patsTy (wy54x0).pan).den := fun c y => y
def Z54x0 {α : Type} (l : RQ vs54x0 wv54x0 → α) (an : α → α → α) (c : (patsTy cs54x0).den) (v : (patsTy vs54x0).den) : α := bif (decide (v.1 < ((c.2.1.n : Nat) : Int))) then cl (r57).dflt (M57 (c.2.2.2.1, (c.1, v))) (fun u0 => bif (decide (((0 : Int) ≤ v.1) ∧ (v.1 < ((c.2.1.n : Nat) : Int)))) then cl (r63).dflt (M63 ((c.2.1.g (Int.toNat v.1)).1, u0.1)) (fun u1 => bif (!u1.1) then l (.out (.ret (false, ()))) else l (.next ((W (v.1 + (1 : Int))), ()))) (l .bad) else l .bad) (l .bad) else l (.out (.exit 0 ()))
theorem z54x0 (c : (patsTy cs54x0).den) (v : (patsTy vs54x0).den) : roundQ Try.prog E0 G54 0 34 [] ps54x0 wy54x0 b54x0 [] (j54x0 c v) = Z54x0 (fun r => .leaf (r.lift j54x0 je54x0 jr54x0 jp54x0 c)) .any c v := by kernel_rfl
def S54x0 (c : (patsTy cs54x0).den) (v : (patsTy vs54x0).den) : RQ vs54x0 wv54x0 := Z54x0 (fun r => r) (fun _ _ => .bad) c v
theorem s54x0 (c : (patsTy cs54x0).den) (v : (patsTy vs54x0).den) : detQ (roundQ Try.prog E0 G54 0 34 [] ps54x0 wy54x0 b54x0 [] (j54x0 c v)) = (S54x0 c v).lift j54x0 je54x0 jr54x0 jp54x0 c := by rw [z54x0]; unfold S54x0 Z54x0; simp only [detQ_cond, lift_cond, lift_bad, detQ, detQ_cl, detQ_onExit, detQ_onRet, detQ_onPanL, detQ_onNext, detQ_onBrk, detQ_onRetO, detQ_onPan, detQ_onOk, detQ_onGPan, lift_cl, lift_onExit, lift_onRet, lift_onPanL, lift_onNext, lift_onBrk, lift_onRetO, lift_onPan, lift_onOk, lift_onGPan]
def L54x0 (c : (patsTy cs54x0).den) (v : (patsTy vs54x0).den) : LQ wv54x0 := iterQ (S54x0 c) big v
theorem lo54 : loopsOf (c54) = [.loop b54x0] := by kernel_rfl
noncomputable def l54 : List Loop := [.known (loopZ 0 [] ps54x0 fun x => spreadV wy54x0 je54x0 jr54x0 jp54x0 [] true (sp54x0 x).1 (L54x0 (sp54x0 x).1 (sp54x0 x).2) wy54x0.exits)]
def Q54 {α : Type} (l : Option (r54).den → α) (an : α → α → α) (x : (a54).den) : α := bif (!(decide (((x.2.2.1.n : Nat) : Int) = ((x.2.1.n : Nat) : Int)))) then l (some (false, ())) else onExit (L54x0 (x.2.1, (x.2.2.1, ((), (x.1, ())))) ((0 : Int), ())) 0 (fun u2 => l (some (true, ()))) (onRet (L54x0 (x.2.1, (x.2.2.1, ((), (x.1, ())))) ((0 : Int), ())) (fun u3 => l (some u3)) (l none))
theorem q54 (x : (a54).den) : runFn Try.prog E0 G54 Try.f54 l54 a54 r54 x = Q54 .leaf .any x := by kernel_rfl
def M54 (x : (a54).den) : Option (r54).den := Q54 (fun r => r) (fun _ _ => none) x
theorem m54 (x : (a54).den) : (runFn Try.prog E0 G54 Try.f54 l54 a54 r54 x).sure = M54 x := by rw [q54]; unfold M54 Q54; simp only [sure_cond, Tree.sure, sure_cl, sure_onExit, sure_onRet, sure_onPanL, sure_onNext, sure_onBrk, sure_onRetO, sure_onPan, sure_onOk, sure_onGPan]
def p54 (x : (a54).den) : Bool := (M54 x).isSome
def v54 (x : (a54).den) : (r54).den := (M54 x).getD (r54).dflt
def k54 : Con := ⟨a54, r54, p54, v54⟩
theorem h54 : Holds Try.prog 54 k54 := holds_of_M' (E := E0) follows_ok g54 eqTy_sound keyTy_sound at54 bd54 (by kernel_rfl) m54 fun G' hlo hF hE => LsOK_kn (by rw [lo54]; exact .cons (loopV_ok hE hF hlo (LsOK_kn (by rw [lo54x0]; exact .nil)) (by kernel_rfl) (by kernel_rfl) sp54x0 (fun _ => rfl) (fun _ _ => rfl) (s54x0) big) (.nil))
/-- isobar/isobarref09.Visit -/
noncomputable def c55 : Code := Try.f55.body.getD .skip
theorem at55 : Try.prog.funcs[55]? = some Try.f55 := by kernel_rfl
theorem bd55 : Try.f55.body = some c55 := by kernel_rfl
theorem cl55 : Callable Try.prog 55 := callable_of at55 (by kernel_rfl) (by kernel_rfl)
abbrev a55 : Ty := T53
abbrev r55 : Ty := T54
noncomputable def G55 : Ctx := Ctx.of []
theorem g55 : Sound Try.prog (G55) := sound_of (fun _ h => by cases h)
noncomputable def b55x0 : Code := loopBody ((loopsOf (c55))[0]?)
theorem lo55x0 : loopsOf (b55x0) = [] := by kernel_rfl
abbrev cs55x0 : List Pat := [.slot 1 (.pc (.sl T0)), .slot 2 (.pc (.sl T0)), .slot 3 (.ptr 3), .box 3 [.pc tI, .pc (.sl T1), .pc T44]]
abbrev vs55x0 : List Pat := [.slot 8 (.own 1000008 3 T0), .slot 9 (.pc tI), .slot 10 (.pc tI)]
abbrev ps55x0 : List Pat := [.slot 1 (.pc (.sl T0)), .slot 2 (.pc (.sl T0)), .slot 3 (.ptr 3), .box 3 [.pc tI, .pc (.sl T1), .pc T44], .slot 8 (.own 1000008 3 T0), .slot 9 (.pc tI), .slot 10 (.pc tI)]
def j55x0 : (patsTy cs55x0).den → (patsTy vs55x0).den → (patsTy ps55x0).den := fun c v => (c.1, (c.2.1, (c.2.2.1, (c.2.2.2.1, v))))
def sp55x0 : (patsTy ps55x0).den → (patsTy cs55x0).den × (patsTy vs55x0).den := fun x => ((x.1, (x.2.1, (x.2.2.1, (x.2.2.2.1, ())))), x.2.2.2.2)
abbrev wy55x0 : Ways := ⟨[(0, [.slot 8 (.pc (.sl T0)), .slot 9 (.pc tI)])], [], []⟩
abbrev wv55x0 : Ways := ⟨[(0, [.slot 8 (.pc (.sl T0)), .slot 9 (.pc tI)])], [], []⟩
def je55x0 : (id : Nat) → (patsTy cs55x0).den → (patsTy (wayP wv55x0 id)).den → (patsTy (wayP wy55x0 id)).den := fun id => match id with | 0 => fun c y => y | id => fun _ _ => (patsTy (wayP wy55x0 id)).dflt
def jr55x0 : (patsTy cs55x0).den → (patsTy (wv55x0).ret).den → (patsTy (wy55x0).ret).den := fun c y => y
def jp55x0 : (patsTy cs55x0).den → (patsTy (wv55x0).pan).den → (patsTy (wy55x0).pan).den := fun c y => y
def Z55x0 {α : Type} (l : RQ vs55x0 wv55x0 → α) (an : α → α → α) (c : (patsTy cs55x0).den) (v : (patsTy vs55x0).den) : α := bif (decide (v.2.2.1 < ((c.1.n : Nat) : Int))) then bif (decide (((0 : Int) ≤ v.2.2.1) ∧ (v.2.2.1 < ((c.2.1.n : Nat) : Int)))) then bif (decide (((v.1.n + 1) * 8) ≤ 140737488355328)) then bif (decide (((0 : Int) ≤ v.2.2.1) ∧ (v.2.2.1 < ((c.1.n : Nat) : Int)))) then bif (decide (((0 : Int) ≤ (c.1.g (Int.toNat v.2.2.1)).1) ∧ ((c.1.g (Int.toNat v.2.2.1)).1 < ((c.2.2.2.1.2.1.n : Nat) : Int)))) then l (.next ((catSl v.1 (⟨1, fun i => List.getD [((W (v.2.1 + (c.2.1.g (Int.toNat v.2.2.1)).1)), ())] i ((W (v.2.1 + (c.2.1.g (Int.toNat v.2.2.1)).1)), ())⟩ : Sl (Ty.den T0))), ((W ((W (v.2.1 + (c.2.1.g (Int.toNat v.2.2.1)).1)) + (c.2.2.2.1.2.1.g (Int.toNat (c.1.g (Int.toNat v.2.2.1)).1)).1)), ((W (v.2.2.1 + (1 : Int))), ())))) else l .bad else l .bad else l .bad else l .bad else l (.out (.exit 0 (v.1, (v.2.1, ()))))
theorem z55x0 (c : (patsTy cs55x0).den) (v : (patsTy vs55x0).den) : roundQ Try.prog E0 G55 0 42 [] ps55x0 wy55x0 b55x0 [] (j55x0 c v) = Z55x0 (fun r => .leaf (r.lift j55x0 je55x0 jr55x0 jp55x0 c)) .any c v := by kernel_rfl
def S55x0 (c : (patsTy cs55x0).den) (v : (patsTy vs55x0).den) : RQ vs55x0 wv55x0 := Z55x0 (fun r => r) (fun _ _ => .bad) c v
theorem s55x0 (c : (patsTy cs55x0).den) (v : (patsTy vs55x0).den) : detQ (roundQ Try.prog E0 G55 0 42 [] ps55x0 wy55x0 b55x0 [] (j55x0 c v)) = (S55x0 c v).lift j55x0 je55x0 jr55x0 jp55x0 c := by rw [z55x0]; unfold S55x0 Z55x0; simp only [detQ_cond, lift_cond, lift_bad, detQ, detQ_cl, detQ_onExit, detQ_onRet, detQ_onPanL, detQ_onNext, detQ_onBrk, detQ_onRetO, detQ_onPan, detQ_onOk, detQ_onGPan, lift_cl, lift_onExit, lift_onRet, lift_onPanL, lift_onNext, lift_onBrk, lift_onRetO, lift_onPan, lift_onOk, lift_onGPan]
def L55x0 (c : (patsTy cs55x0).den) (v : (patsTy vs55x0).den) : LQ wv55x0 := iterQ (S55x0 c) big v
theorem lo55 : loopsOf (c55) = [.loop b55x0] := by kernel_rfl
noncomputable def l55 : List Loop := [.known (loopZ 0 [] ps55x0 fun x => spreadV wy55x0 je55x0 jr55x0 jp55x0 [] false (sp55x0 x).1 (L55x0 (sp55x0 x).1 (sp55x0 x).2) wy55x0.exits)]
def Q55 {α : Type} (l : Option (r55).den → α) (an : α → α → α) (x : (a55).den) : α := onExit (L55x0 (x.2.1, (x.2.2.1, ((), (x.1, ())))) ((⟨0, fun i => ((0 : Int), ())⟩ : Sl _), (x.1.1, ((0 : Int), ())))) 0 (fun u0 => l (some u0)) (l none)
theorem q55 (x : (a55).den) : runFn Try.prog E0 G55 Try.f55 l55 a55 r55 x = Q55 .leaf .any x := by kernel_rfl
def M55 (x : (a55).den) : Option (r55).den := Q55 (fun r => r) (fun _ _ => none) x
theorem m55 (x : (a55).den) : (runFn Try.prog E0 G55 Try.f55 l55 a55 r55 x).sure = M55 x := by rw [q55]; unfold M55 Q55; simp only [sure_cond, Tree.sure, sure_cl, sure_onExit, sure_onRet, sure_onPanL, sure_onNext, sure_onBrk, sure_onRetO, sure_onPan, sure_onOk, sure_onGPan]
def p55 (x : (a55).den) : Bool := (M55 x).isSome
def v55 (x : (a55).den) : (r55).den := (M55 x).getD (r55).dflt
def k55 : Con := ⟨a55, r55, p55, v55⟩
theorem h55 : Holds Try.prog 55 k55 := holds_of_M' (E := E0) follows_ok g55 eqTy_sound keyTy_sound at55 bd55 (by kernel_rfl) m55 fun G' hlo hF hE => LsOK_kn (by rw [lo55]; exact .cons (loopV_ok hE hF hlo (LsOK_kn (by rw [lo55x0]; exact .nil)) (by kernel_rfl) (by kernel_rfl) sp55x0 (fun _ => rfl) (fun _ _ => rfl) (s55x0) big) (.nil))
/-- isobar/isobarlaw09.WatchVisits -/
noncomputable def c14 : Code := Try.f14.body.getD .skip
theorem at14 : Try.prog.funcs[14]? = some Try.f14 := by kernel_rfl
theorem bd14 : Try.f14.body = some c14 := by kernel_rfl
theorem cl14 : Callable Try.prog 14 := callable_of at14 (by kernel_rfl) (by kernel_rfl)
abbrev a14 : Ty := T53
abbrev r14 : Ty := T3
noncomputable def G14 : Ctx := Ctx.of [(22, .pure k22), (38, .pure k38), (39, .pure k39), (42, .pure k42), (46, .pure k46), (53, .pure k53), (54, .pure k54), (55, .pure k55)]
theorem g14 : Sound Try.prog (G14) := sound_of (List.forall_mem_cons.2 ⟨⟨cl22, h22⟩, List.forall_mem_cons.2 ⟨⟨cl38, h38⟩, List.forall_mem_cons.2 ⟨⟨cl39, h39⟩, List.forall_mem_cons.2 ⟨⟨cl42, h42⟩, List.forall_mem_cons.2 ⟨⟨cl46, h46⟩, List.forall_mem_cons.2 ⟨⟨cl53, h53⟩, List.forall_mem_cons.2 ⟨⟨cl54, h54⟩, List.forall_mem_cons.2 ⟨⟨cl55, h55⟩, fun _ h => by cases h⟩⟩⟩⟩⟩⟩⟩⟩)
theorem lo14 : loopsOf (c14) = [] := by kernel_rfl
noncomputable def l14 : List Loop := []
def Q14 {α : Type} (l : Option (r14).den → α) (an : α → α → α) (x : (a14).den) : α := cl (r38).dflt (M38 (x.1, ())) (fun u0 => bif (!u0.1) then cl (r22).dflt (M22 ()) (fun u1 => l (some u1)) (l none) else bif (decide ((10 : Int) < ((x.2.1.n : Nat) : Int))) then cl (r22).dflt (M22 ()) (fun u2 => l (some u2)) (l none) else bif (decide ((10 : Int) < ((x.2.2.1.n : Nat) : Int))) then cl (r22).dflt (M22 ()) (fun u3 => l (some u3)) (l none) else cl (r53).dflt (M53 (x.1, x.2)) (fun u4 => cl (r39).dflt (M39 (x.1, ())) (fun u5 => bif (!u5.1) then bif (decide (u4.2.2.1 = (2 : Int))) then bif (decide (((u4.1.n : Nat) : Int) = (0 : Int))) then bif (decide (u4.2.1 = (0 : Int))) then cl (r22).dflt (M22 ()) (fun u6 => l (some u6)) (l none) else l (some (false, ())) else l (some (false, ())) else l (some (false, ())) else cl (r46).dflt (M46 (x.1, (x.2.1, ()))) (fun u7 => bif (!u7.1) then bif (decide (u4.2.2.1 = (2 : Int))) then bif (decide (((u4.1.n : Nat) : Int) = (0 : Int))) then bif (decide (u4.2.1 = (0 : Int))) then cl (r22).dflt (M22 ()) (fun u8 => l (some u8)) (l none) else l (some (false, ())) else l (some (false, ())) else l (some (false, ())) else cl (r54).dflt (M54 (x.1, x.2)) (fun u9 => bif (!u9.1) then bif (decide (u4.2.2.1 = (2 : Int))) then bif (decide (((u4.1.n : Nat) : Int) = (0 : Int))) then bif (decide (u4.2.1 = (0 : Int))) then cl (r22).dflt (M22 ()) (fun u10 => l (some u10)) (l none) else l (some (false, ())) else l (some (false, ())) else l (some (false, ())) else cl (r55).dflt (M55 (x.1, x.2)) (fun u11 => bif (decide (u4.2.2.1 = (0 : Int))) then cl (r42).dflt (M42 (u4.1, (u11.1, ()))) (fun u12 => bif u12.1 then bif (decide (u4.2.1 = u11.2.1)) then cl (r22).dflt (M22 ()) (fun u13 => l (some u13)) (l none) else l (some (false, ())) else l (some (false, ()))) (l none) else l (some (false, ()))) (l none)) (l none)) (l none)) (l none)) (l none)) (l none)
theorem q14 (x : (a14).den) : runFn Try.prog E0 G14 Try.f14 l14 a14 r14 x = Q14 .leaf .any x := by kernel_rfl
def M14 (x : (a14).den) : Option (r14).den := Q14 (fun r => r) (fun _ _ => none) x
theorem m14 (x : (a14).den) : (runFn Try.prog E0 G14 Try.f14 l14 a14 r14 x).sure = M14 x := by rw [q14]; unfold M14 Q14; simp only [sure_cond, Tree.sure, sure_cl, sure_onExit, sure_onRet, sure_onPanL, sure_onNext, sure_onBrk, sure_onRetO, sure_onPan, sure_onOk, sure_onGPan]
def p14 (x : (a14).den) : Bool := (M14 x).isSome
def v14 (x : (a14).den) : (r14).den := (M14 x).getD (r14).dflt
def k14 : Con := ⟨a14, r14, p14, v14⟩
theorem h14 : Holds Try.prog 14 k14 := holds_of_M' (E := E0) follows_ok g14 eqTy_sound keyTy_sound at14 bd14 (by kernel_rfl) m14 fun G' hlo hF hE => LsOK_kn (by rw [lo14]; exact .nil)
/-- isobar/watch.Sure -/
noncomputable def c47 : Code := Try.f47.body.getD .skip
theorem at47 : Try.prog.funcs[47]? = some Try.f47 := by kernel_rfl
theorem bd47 : Try.f47.body = some c47 := by kernel_rfl
theorem cl47 : Callable Try.prog 47 := callable_of at47 (by kernel_rfl) (by kernel_rfl)
abbrev T73 : Ty := (.cons .bool T0)
abbrev a47 : Ty := T50
abbrev r47 : Ty := T73
noncomputable def G47 : Ctx := Ctx.of [(77, .pure k77), (79, .pure k79), (85, .pure k85)]
theorem g47 : Sound Try.prog (G47) := sound_of (List.forall_mem_cons.2 ⟨⟨cl77, h77⟩, List.forall_mem_cons.2 ⟨⟨cl79, h79⟩, List.forall_mem_cons.2 ⟨⟨cl85, h85⟩, fun _ h => by cases h⟩⟩⟩)
theorem lo47 : loopsOf (c47) = [] := by kernel_rfl
noncomputable def l47 : List Loop := []
def Q47 {α : Type} (l : Option (r47).den → α) (an : α → α → α) (x : (a47).den) : α := cl (r77).dflt (M77 (x.1, ())) (fun u0 => bif (!u0.1) then l (some (false, ((2 : Int), ()))) else cl (r85).dflt (M85 (x.1, x.2)) (fun u1 => bif (!u1.1) then l (some (false, ((2 : Int), ()))) else cl (r79).dflt (M79 (x.1, x.2)) (fun u2 => l (some (u2.2.1, ((0 : Int), ())))) (l none)) (l none)) (l none)
theorem q47 (x : (a47).den) : runFn Try.prog E0 G47 Try.f47 l47 a47 r47 x = Q47 .leaf .any x := by kernel_rfl
def M47 (x : (a47).den) : Option (r47).den := Q47 (fun r => r) (fun _ _ => none) x
theorem m47 (x : (a47).den) : (runFn Try.prog E0 G47 Try.f47 l47 a47 r47 x).sure = M47 x := by rw [q47]; unfold M47 Q47; simp only [sure_cond, Tree.sure, sure_cl, sure_onExit, sure_onRet, sure_onPanL, sure_onNext, sure_onBrk, sure_onRetO, sure_onPan, sure_onOk, sure_onGPan]
def p47 (x : (a47).den) : Bool := (M47 x).isSome
def v47 (x : (a47).den) : (r47).den := (M47 x).getD (r47).dflt
def k47 : Con := ⟨a47, r47, p47, v47⟩
theorem h47 : Holds Try.prog 47 k47 := holds_of_M' (E := E0) follows_ok g47 eqTy_sound keyTy_sound at47 bd47 (by kernel_rfl) m47 fun G' hlo hF hE => LsOK_kn (by rw [lo47]; exact .nil)
/-- isobar/watch.CheckRound -/
noncomputable def c48 : Code := Try.f48.body.getD .skip
theorem at48 : Try.prog.funcs[48]? = some Try.f48 := by kernel_rfl
theorem bd48 : Try.f48.body = some c48 := by kernel_rfl
theorem cl48 : Callable Try.prog 48 := callable_of at48 (by kernel_rfl) (by kernel_rfl)
abbrev a48 : Ty := T49
abbrev r48 : Ty := T0
noncomputable def G48 : Ctx := Ctx.of [(77, .pure k77)]
theorem g48 : Sound Try.prog (G48) := sound_of (List.forall_mem_cons.2 ⟨⟨cl77, h77⟩, fun _ h => by cases h⟩)
theorem lo48 : loopsOf (c48) = [] := by kernel_rfl
noncomputable def l48 : List Loop := []
def Q48 {α : Type} (l : Option (r48).den → α) (an : α → α → α) (x : (a48).den) : α := cl (r77).dflt (M77 (x.1, ())) (fun u0 => bif (!u0.1) then l (some ((2 : Int), ())) else l (some ((0 : Int), ()))) (l none)
theorem q48 (x : (a48).den) : runFn Try.prog E0 G48 Try.f48 l48 a48 r48 x = Q48 .leaf .any x := by kernel_rfl
def M48 (x : (a48).den) : Option (r48).den := Q48 (fun r => r) (fun _ _ => none) x
theorem m48 (x : (a48).den) : (runFn Try.prog E0 G48 Try.f48 l48 a48 r48 x).sure = M48 x := by rw [q48]; unfold M48 Q48; simp only [sure_cond, Tree.sure, sure_cl, sure_onExit, sure_onRet, sure_onPanL, sure_onNext, sure_onBrk, sure_onRetO, sure_onPan, sure_onOk, sure_onGPan]
def p48 (x : (a48).den) : Bool := (M48 x).isSome
def v48 (x : (a48).den) : (r48).den := (M48 x).getD (r48).dflt
def k48 : Con := ⟨a48, r48, p48, v48⟩
theorem h48 : Holds Try.prog 48 k48 := holds_of_M' (E := E0) follows_ok g48 eqTy_sound keyTy_sound at48 bd48 (by kernel_rfl) m48 fun G' hlo hF hE => LsOK_kn (by rw [lo48]; exact .nil)
/-- isobar/isobarref09.Ends -/
noncomputable def c56 : Code := Try.f56.body.getD .skip
theorem at56 : Try.prog.funcs[56]? = some Try.f56 := by kernel_rfl
theorem bd56 : Try.f56.body = some c56 := by kernel_rfl
theorem cl56 : Callable Try.prog 56 := callable_of at56 (by kernel_rfl) (by kernel_rfl)
abbrev T74 : Ty := (.cons (.sl T0) T3)
abbrev T75 : Ty := (.cons T48 T74)
abbrev a56 : Ty := T75
abbrev r56 : Ty := T4
noncomputable def G56 : Ctx := Ctx.of [(57, .pure k57)]
theorem g56 : Sound Try.prog (G56) := sound_of (List.forall_mem_cons.2 ⟨⟨cl57, h57⟩, fun _ h => by cases h⟩)
noncomputable def b56x0 : Code := loopBody ((loopsOf (c56))[0]?)
theorem lo56x0 : loopsOf (b56x0) = [] := by kernel_rfl
abbrev cs56x0 : List Pat := [.slot 1 (.pc (.sl T0)), .slot 2 (.pc .bool), .slot 3 (.ptr 3), .box 3 [.pc tI, .pc (.sl T1), .pc T44]]
abbrev vs56x0 : List Pat := [.slot 7 (.own 1000007 3 T0), .slot 8 (.pc tI)]
abbrev ps56x0 : List Pat := [.slot 1 (.pc (.sl T0)), .slot 2 (.pc .bool), .slot 3 (.ptr 3), .box 3 [.pc tI, .pc (.sl T1), .pc T44], .slot 7 (.own 1000007 3 T0), .slot 8 (.pc tI)]
def j56x0 : (patsTy cs56x0).den → (patsTy vs56x0).den → (patsTy ps56x0).den := fun c v => (c.1, (c.2.1, (c.2.2.1, (c.2.2.2.1, v))))
def sp56x0 : (patsTy ps56x0).den → (patsTy cs56x0).den × (patsTy vs56x0).den := fun x => ((x.1, (x.2.1, (x.2.2.1, (x.2.2.2.1, ())))), x.2.2.2.2)
abbrev wy56x0 : Ways := ⟨[(0, [.slot 7 (.pc (.sl T0))])], [], []⟩
abbrev wv56x0 : Ways := ⟨[(0, [.slot 7 (.pc (.sl T0))])], [], []⟩
def je56x0 : (id : Nat) → (patsTy cs56x0).den → (patsTy (wayP wv56x0 id)).den → (patsTy (wayP wy56x0 id)).den := fun id => match id with | 0 => fun c y => y | id => fun _ _ => (patsTy (wayP wy56x0 id)).dflt
def jr56x0 : (patsTy cs56x0).den → (patsTy (wv56x0).ret).den → (patsTy (wy56x0).ret).den := fun c y => y
def jp56x0 : (patsTy cs56x0).den → (patsTy (wv56x0).pan).den → (patsTy (wy56x0).pan).den := fun c y => y
def Z56x0 {α : Type} (l : RQ vs56x0 wv56x0 → α) (an : α → α → α) (c : (patsTy cs56x0).den) (v : (patsTy vs56x0).den) : α := bif (decide (v.2.1 < ((c.1.n : Nat) : Int))) then cl (r57).dflt (M57 (c.2.2.2.1, (c.1, v.2))) (fun u0 => bif c.2.1 then cl (r57).dflt (M57 (c.2.2.2.1, (c.1, v.2))) (fun u1 => bif (decide (((v.1.n + 1) * 8) ≤ 140737488355328)) then l (.next ((catSl v.1 (⟨1, fun i => List.getD [u0.1.2] i u0.1.2⟩ : Sl (Ty.den T0))), ((W (v.2.1 + (1 : Int))), ()))) else l .bad) (l .bad) else bif (decide (((v.1.n + 1) * 8) ≤ 140737488355328)) then l (.next ((catSl v.1 (⟨1, fun i => List.getD [(u0.1.1, ())] i (u0.1.1, ())⟩ : Sl (Ty.den T0))), ((W (v.2.1 + (1 : Int))), ()))) else l .bad) (l .bad) else l (.out (.exit 0 (v.1, ())))
theorem z56x0 (c : (patsTy cs56x0).den) (v : (patsTy vs56x0).den) : roundQ Try.prog E0 G56 0 32 [] ps56x0 wy56x0 b56x0 [] (j56x0 c v) = Z56x0 (fun r => .leaf (r.lift j56x0 je56x0 jr56x0 jp56x0 c)) .any c v := by kernel_rfl
def S56x0 (c : (patsTy cs56x0).den) (v : (patsTy vs56x0).den) : RQ vs56x0 wv56x0 := Z56x0 (fun r => r) (fun _ _ => .bad) c v
theorem s56x0 (c : (patsTy cs56x0).den) (v : (patsTy vs56x0).den) : detQ (roundQ Try.prog E0 G56 0 32 [] ps56x0 wy56x0 b56x0 [] (j56x0 c v)) = (S56x0 c v).lift j56x0 je56x0 jr56x0 jp56x0 c := by rw [z56x0]; unfold S56x0 Z56x0; simp only [detQ_cond, lift_cond, lift_bad, detQ, detQ_cl, detQ_onExit, detQ_onRet, detQ_onPanL, detQ_onNext, detQ_onBrk, detQ_onRetO, detQ_onPan, detQ_onOk, detQ_onGPan, lift_cl, lift_onExit, lift_onRet, lift_onPanL, lift_onNext, lift_onBrk, lift_onRetO, lift_onPan, lift_onOk, lift_onGPan]
def L56x0 (c : (patsTy cs56x0).den) (v : (patsTy vs56x0).den) : LQ wv56x0 := iterQ (S56x0 c) big v
theorem lo56 : loopsOf (c56) = [.loop b56x0] := by kernel_rfl
noncomputable def l56 : List Loop := [.known (loopZ 0 [] ps56x0 fun x => spreadV wy56x0 je56x0 jr56x0 jp56x0 [] false (sp56x0 x).1 (L56x0 (sp56x0 x).1 (sp56x0 x).2) wy56x0.exits)]
def Q56 {α : Type} (l : Option (r56).den → α) (an : α → α → α) (x : (a56).den) : α := onExit (L56x0 (x.2.1, (x.2.2.1, ((), (x.1, ())))) ((⟨0, fun i => ((0 : Int), ())⟩ : Sl _), ((0 : Int), ()))) 0 (fun u2 => l (some u2)) (l none)
theorem q56 (x : (a56).den) : runFn Try.prog E0 G56 Try.f56 l56 a56 r56 x = Q56 .leaf .any x := by kernel_rfl
def M56 (x : (a56).den) : Option (r56).den := Q56 (fun r => r) (fun _ _ => none) x
theorem m56 (x : (a56).den) : (runFn Try.prog E0 G56 Try.f56 l56 a56 r56 x).sure = M56 x := by rw [q56]; unfold M56 Q56; simp only [sure_cond, Tree.sure, sure_cl, sure_onExit, sure_onRet, sure_onPanL, sure_onNext, sure_onBrk, sure_onRetO, sure_onPan, sure_onOk, sure_onGPan]
def p56 (x : (a56).den) : Bool := (M56 x).isSome
def v56 (x : (a56).den) : (r56).den := (M56 x).getD (r56).dflt
def k56 : Con := ⟨a56, r56, p56, v56⟩
theorem h56 : Holds Try.prog 56 k56 := holds_of_M' (E := E0) follows_ok g56 eqTy_sound keyTy_sound at56 bd56 (by kernel_rfl) m56 fun G' hlo hF hE => LsOK_kn (by rw [lo56]; exact .cons (loopV_ok hE hF hlo (LsOK_kn (by rw [lo56x0]; exact .nil)) (by kernel_rfl) (by kernel_rfl) sp56x0 (fun _ => rfl) (fun _ _ => rfl) (s56x0) big) (.nil))
/-- isobar/isobarref09.Known -/
noncomputable def c50 : Code := Try.f50.body.getD .skip
theorem at50 : Try.prog.funcs[50]? = some Try.f50 := by kernel_rfl
theorem bd50 : Try.f50.body = some c50 := by kernel_rfl
theorem cl50 : Callable Try.prog 50 := callable_of at50 (by kernel_rfl) (by kernel_rfl)
abbrev T76 : Ty := (.cons (.sl T1) T7)
abbrev a50 : Ty := T50
abbrev r50 : Ty := T76
noncomputable def G50 : Ctx := Ctx.of [(55, .pure k55), (56, .pure k56)]
theorem g50 : Sound Try.prog (G50) := sound_of (List.forall_mem_cons.2 ⟨⟨cl55, h55⟩, List.forall_mem_cons.2 ⟨⟨cl56, h56⟩, fun _ h => by cases h⟩⟩)
noncomputable def b50x0 : Code := loopBody ((loopsOf (c50))[0]?)
theorem lo50x0 : loopsOf (b50x0) = [] := by kernel_rfl
abbrev cs50x0 : List Pat := [.slot 5 (.ptr 5), .slot 6 (.pc (.sl T0)), .slot 7 (.pc tI), .slot 8 (.pc (.sl T0)), .slot 9 (.pc tI), .box 5 [.pc tI, .pc tI]]
abbrev vs50x0 : List Pat := [.slot 10 (.own 1000010 65 T1), .slot 11 (.pc tI)]
abbrev ps50x0 : List Pat := [.slot 5 (.ptr 5), .slot 6 (.pc (.sl T0)), .slot 7 (.pc tI), .slot 8 (.pc (.sl T0)), .slot 9 (.pc tI), .box 5 [.pc tI, .pc tI], .slot 10 (.own 1000010 65 T1), .slot 11 (.pc tI)]
def j50x0 : (patsTy cs50x0).den → (patsTy vs50x0).den → (patsTy ps50x0).den := fun c v => (c.1, (c.2.1, (c.2.2.1, (c.2.2.2.1, (c.2.2.2.2.1, (c.2.2.2.2.2.1, v))))))
def sp50x0 : (patsTy ps50x0).den → (patsTy cs50x0).den × (patsTy vs50x0).den := fun x => ((x.1, (x.2.1, (x.2.2.1, (x.2.2.2.1, (x.2.2.2.2.1, (x.2.2.2.2.2.1, ())))))), x.2.2.2.2.2.2)
abbrev wy50x0 : Ways := ⟨[(0, [.slot 5 (.ptr 5), .slot 7 (.pc tI), .slot 9 (.pc tI), .box 5 [.pc tI, .pc tI], .slot 10 (.pc (.sl T1))])], [], []⟩
abbrev wv50x0 : Ways := ⟨[(0, [.slot 10 (.pc (.sl T1))])], [], []⟩
def je50x0 : (id : Nat) → (patsTy cs50x0).den → (patsTy (wayP wv50x0 id)).den → (patsTy (wayP wy50x0 id)).den := fun id => match id with | 0 => fun c y => (c.1, (c.2.2.1, (c.2.2.2.2.1, (c.2.2.2.2.2.1, y)))) | id => fun _ _ => (patsTy (wayP wy50x0 id)).dflt
def jr50x0 : (patsTy cs50x0).den → (patsTy (wv50x0).ret).den → (patsTy (wy50x0).ret).den := fun c y => y
def jp50x0 : (patsTy cs50x0).den → (patsTy (wv50x0).pan).den → (patsTy (wy50x0).pan).den := fun c y => y
def Z50x0 {α : Type} (l : RQ vs50x0 wv50x0 → α) (an : α → α → α) (c : (patsTy cs50x0).den) (v : (patsTy vs50x0).den) : α := bif (decide (v.2.1 < ((c.2.1.n : Nat) : Int))) then bif (decide (((0 : Int) ≤ v.2.1) ∧ (v.2.1 < ((c.2.1.n : Nat) : Int)))) then bif (decide (((0 : Int) ≤ v.2.1) ∧ (v.2.1 < ((c.2.2.2.1.n : Nat) : Int)))) then bif (decide (((v.1.n + 1) * 16) ≤ 140737488355328)) then l (.next ((catSl v.1 (⟨1, fun i => List.getD [((c.2.1.g (Int.toNat v.2.1)).1, (c.2.2.2.1.g (Int.toNat v.2.1)))] i ((c.2.1.g (Int.toNat v.2.1)).1, (c.2.2.2.1.g (Int.toNat v.2.1)))⟩ : Sl (Ty.den T1))), ((W (v.2.1 + (1 : Int))), ()))) else l .bad else l .bad else l .bad else l (.out (.exit 0 (v.1, ())))
theorem z50x0 (c : (patsTy cs50x0).den) (v : (patsTy vs50x0).den) : roundQ Try.prog E0 G50 0 52 [] ps50x0 wy50x0 b50x0 [] (j50x0 c v) = Z50x0 (fun r => .leaf (r.lift j50x0 je50x0 jr50x0 jp50x0 c)) .any c v := by kernel_rfl
def S50x0 (c : (patsTy cs50x0).den) (v : (patsTy vs50x0).den) : RQ vs50x0 wv50x0 := Z50x0 (fun r => r) (fun _ _ => .bad) c v
theorem s50x0 (c : (patsTy cs50x0).den) (v : (patsTy vs50x0).den) : detQ (roundQ Try.prog E0 G50 0 52 [] ps50x0 wy50x0 b50x0 [] (j50x0 c v)) = (S50x0 c v).lift j50x0 je50x0 jr50x0 jp50x0 c := by rw [z50x0]; unfold S50x0 Z50x0; simp only [detQ_cond, lift_cond, lift_bad, detQ, detQ_cl, detQ_onExit, detQ_onRet, detQ_onPanL, detQ_onNext, detQ_onBrk, detQ_onRetO, detQ_onPan, detQ_onOk, detQ_onGPan, lift_cl, lift_onExit, lift_onRet, lift_onPanL, lift_onNext, lift_onBrk, lift_onRetO, lift_onPan, lift_onOk, lift_onGPan]
def L50x0 (c : (patsTy cs50x0).den) (v : (patsTy vs50x0).den) : LQ wv50x0 := iterQ (S50x0 c) big v
theorem lo50 : loopsOf (c50) = [.loop b50x0] := by kernel_rfl
noncomputable def l50 : List Loop := [.known (loopZ 0 [] ps50x0 fun x => spreadV wy50x0 je50x0 jr50x0 jp50x0 [] false (sp50x0 x).1 (L50x0 (sp50x0 x).1 (sp50x0 x).2) wy50x0.exits)]
def Q50 {α : Type} (l : Option (r50).den → α) (an : α → α → α) (x : (a50).den) : α := cl (r56).dflt (M56 (x.1, (x.2.1, (false, ())))) (fun u0 => cl (r55).dflt (M55 (x.1, (x.2.1, u0))) (fun u1 => cl (r56).dflt (M56 (x.1, (x.2.1, (true, ())))) (fun u2 => cl (r55).dflt (M55 (x.1, (x.2.1, u2))) (fun u3 => onExit (L50x0 ((), (u1.1, (u1.2.1, (u3.1, (u3.2.1, (((0 : Int), ((0 : Int), ())), ())))))) ((⟨0, fun i => ((0 : Int), ((0 : Int), ()))⟩ : Sl _), ((0 : Int), ()))) 0 (fun u4 => l (some (u4.1, ((u1.2.1, u3.2), ())))) (l none)) (l none)) (l none)) (l none)) (l none)
theorem q50 (x : (a50).den) : runFn Try.prog E0 G50 Try.f50 l50 a50 r50 x = Q50 .leaf .any x := by kernel_rfl
def M50 (x : (a50).den) : Option (r50).den := Q50 (fun r => r) (fun _ _ => none) x
theorem m50 (x : (a50).den) : (runFn Try.prog E0 G50 Try.f50 l50 a50 r50 x).sure = M50 x := by rw [q50]; unfold M50 Q50; simp only [sure_cond, Tree.sure, sure_cl, sure_onExit, sure_onRet, sure_onPanL, sure_onNext, sure_onBrk, sure_onRetO, sure_onPan, sure_onOk, sure_onGPan]
def p50 (x : (a50).den) : Bool := (M50 x).isSome
def v50 (x : (a50).den) : (r50).den := (M50 x).getD (r50).dflt
def k50 : Con := ⟨a50, r50, p50, v50⟩
theorem h50 : Holds Try.prog 50 k50 := holds_of_M' (E := E0) follows_ok g50 eqTy_sound keyTy_sound at50 bd50 (by kernel_rfl) m50 fun G' hlo hF hE => LsOK_kn (by rw [lo50]; exact .cons (loopV_ok hE hF hlo (LsOK_kn (by rw [lo50x0]; exact .nil)) (by kernel_rfl) (by kernel_rfl) sp50x0 (fun _ => rfl) (fun _ _ => rfl) (s50x0) big) (.nil))
/-- isobar/isobarref09.Sure -/
noncomputable def c52 : Code := Try.f52.body.getD .skip
theorem at52 : Try.prog.funcs[52]? = some Try.f52 := by kernel_rfl
theorem bd52 : Try.f52.body = some c52 := by kernel_rfl
theorem cl52 : Callable Try.prog 52 := callable_of at52 (by kernel_rfl) (by kernel_rfl)
abbrev a52 : Ty := T50
abbrev r52 : Ty := T3
noncomputable def G52 : Ctx := Ctx.of [(50, .pure k50)]
theorem g52 : Sound Try.prog (G52) := sound_of (List.forall_mem_cons.2 ⟨⟨cl50, h50⟩, fun _ h => by cases h⟩)
noncomputable def b52x0 : Code := loopBody ((loopsOf (c52))[0]?)
theorem lo52x0 : loopsOf (b52x0) = [] := by kernel_rfl
abbrev cs52x0 : List Pat := [.slot 1 (.pc (.sl T0)), .slot 2 (.ptr 2), .slot 5 (.pc (.sl T1)), .box 2 [.pc tI, .pc (.sl T1), .pc T44]]
abbrev vs52x0 : List Pat := [.slot 7 (.pc tI)]
abbrev ps52x0 : List Pat := [.slot 1 (.pc (.sl T0)), .slot 2 (.ptr 2), .slot 5 (.pc (.sl T1)), .box 2 [.pc tI, .pc (.sl T1), .pc T44], .slot 7 (.pc tI)]
def j52x0 : (patsTy cs52x0).den → (patsTy vs52x0).den → (patsTy ps52x0).den := fun c v => (c.1, (c.2.1, (c.2.2.1, (c.2.2.2.1, v))))
def sp52x0 : (patsTy ps52x0).den → (patsTy cs52x0).den × (patsTy vs52x0).den := fun x => ((x.1, (x.2.1, (x.2.2.1, (x.2.2.2.1, ())))), x.2.2.2.2)
abbrev wy52x0 : Ways := ⟨[(0, [])], [.slot 4 (.pc .bool)], []⟩
abbrev wv52x0 : Ways := ⟨[(0, [])], [.slot 4 (.pc .bool)], []⟩
def je52x0 : (id : Nat) → (patsTy cs52x0).den → (patsTy (wayP wv52x0 id)).den → (patsTy (wayP wy52x0 id)).den := fun id => match id with | 0 => fun c y => y | id => fun _ _ => (patsTy (wayP wy52x0 id)).dflt
def jr52x0 : (patsTy cs52x0).den → (patsTy (wv52x0).ret).den → (patsTy (wy52x0).ret).den := fun c y => y
def jp52x0 : (patsTy cs52x0).den → (patsTy (wv52x0).pan).den → (patsTy (wy52x0).pan).den := fun c y => y
def Z52x0 {α : Type} (l : RQ vs52x0 wv52x0 → α) (an : α → α → α) (c : (patsTy cs52x0).den) (v : (patsTy vs52x0).den) : α := bif (decide (v.1 < ((c.1.n : Nat) : Int))) then bif (decide (((0 : Int) ≤ v.1) ∧ (v.1 < ((c.2.2.1.n : Nat) : Int)))) then bif (decide (((0 : Int) ≤ v.1) ∧ (v.1 < ((c.1.n : Nat) : Int)))) then bif (decide (((0 : Int) ≤ (c.1.g (Int.toNat v.1)).1) ∧ ((c.1.g (Int.toNat v.1)).1 < ((c.2.2.2.1.2.1.n : Nat) : Int)))) then bif (decide ((c.2.2.2.1.2.1.g (Int.toNat (c.1.g (Int.toNat v.1)).1)).2.1 < (c.2.2.1.g (Int.toNat v.1)).2.1)) then l (.out (.ret (false, ()))) else l (.next ((W (v.1 + (1 : Int))), ())) else l .bad else l .bad else l .bad else l (.out (.exit 0 ()))
theorem z52x0 (c : (patsTy cs52x0).den) (v : (patsTy vs52x0).den) : roundQ Try.prog E0 G52 0 35 [] ps52x0 wy52x0 b52x0 [] (j52x0 c v) = Z52x0 (fun r => .leaf (r.lift j52x0 je52x0 jr52x0 jp52x0 c)) .any c v := by kernel_rfl
def S52x0 (c : (patsTy cs52x0).den) (v : (patsTy vs52x0).den) : RQ vs52x0 wv52x0 := Z52x0 (fun r => r) (fun _ _ => .bad) c v
theorem s52x0 (c : (patsTy cs52x0).den) (v : (patsTy vs52x0).den) : detQ (roundQ Try.prog E0 G52 0 35 [] ps52x0 wy52x0 b52x0 [] (j52x0 c v)) = (S52x0 c v).lift j52x0 je52x0 jr52x0 jp52x0 c := by rw [z52x0]; unfold S52x0 Z52x0; simp only [detQ_cond, lift_cond, lift_bad, detQ, detQ_cl, detQ_onExit, detQ_onRet, detQ_onPanL, detQ_onNext, detQ_onBrk, detQ_onRetO, detQ_onPan, detQ_onOk, detQ_onGPan, lift_cl, lift_onExit, lift_onRet, lift_onPanL, lift_onNext, lift_onBrk, lift_onRetO, lift_onPan, lift_onOk, lift_onGPan]
def L52x0 (c : (patsTy cs52x0).den) (v : (patsTy vs52x0).den) : LQ wv52x0 := iterQ (S52x0 c) big v
theorem lo52 : loopsOf (c52) = [.loop b52x0] := by kernel_rfl
noncomputable def l52 : List Loop := [.known (loopZ 0 [] ps52x0 fun x => spreadV wy52x0 je52x0 jr52x0 jp52x0 [] true (sp52x0 x).1 (L52x0 (sp52x0 x).1 (sp52x0 x).2) wy52x0.exits)]
def Q52 {α : Type} (l : Option (r52).den → α) (an : α → α → α) (x : (a52).den) : α := cl (r50).dflt (M50 (x.1, x.2)) (fun u0 => onExit (L52x0 (x.2.1, ((), (u0.1, (x.1, ())))) ((0 : Int), ())) 0 (fun u1 => l (some (true, ()))) (onRet (L52x0 (x.2.1, ((), (u0.1, (x.1, ())))) ((0 : Int), ())) (fun u2 => l (some u2)) (l none))) (l none)
theorem q52 (x : (a52).den) : runFn Try.prog E0 G52 Try.f52 l52 a52 r52 x = Q52 .leaf .any x := by kernel_rfl
def M52 (x : (a52).den) : Option (r52).den := Q52 (fun r => r) (fun _ _ => none) x
theorem m52 (x : (a52).den) : (runFn Try.prog E0 G52 Try.f52 l52 a52 r52 x).sure = M52 x := by rw [q52]; unfold M52 Q52; simp only [sure_cond, Tree.sure, sure_cl, sure_onExit, sure_onRet, sure_onPanL, sure_onNext, sure_onBrk, sure_onRetO, sure_onPan, sure_onOk, sure_onGPan]
def p52 (x : (a52).den) : Bool := (M52 x).isSome
def v52 (x : (a52).den) : (r52).den := (M52 x).getD (r52).dflt
def k52 : Con := ⟨a52, r52, p52, v52⟩
theorem h52 : Holds Try.prog 52 k52 := holds_of_M' (E := E0) follows_ok g52 eqTy_sound keyTy_sound at52 bd52 (by kernel_rfl) m52 fun G' hlo hF hE => LsOK_kn (by rw [lo52]; exact .cons (loopV_ok hE hF hlo (LsOK_kn (by rw [lo52x0]; exact .nil)) (by kernel_rfl) (by kernel_rfl) sp52x0 (fun _ => rfl) (fun _ _ => rfl) (s52x0) big) (.nil))
/-- isobar/isobarlaw09.WatchRounds -/
noncomputable def c13 : Code := Try.f13.body.getD .skip
theorem at13 : Try.prog.funcs[13]? = some Try.f13 := by kernel_rfl
theorem bd13 : Try.f13.body = some c13 := by kernel_rfl
theorem cl13 : Callable Try.prog 13 := callable_of at13 (by kernel_rfl) (by kernel_rfl)
abbrev a13 : Ty := T50
abbrev r13 : Ty := T3
noncomputable def G13 : Ctx := Ctx.of [(22, .pure k22), (38, .pure k38), (39, .pure k39), (46, .pure k46), (47, .pure k47), (48, .pure k48), (49, .pure k49), (50, .pure k50), (51, .pure k51), (52, .pure k52)]
theorem g13 : Sound Try.prog (G13) := sound_of (List.forall_mem_cons.2 ⟨⟨cl22, h22⟩, List.forall_mem_cons.2 ⟨⟨cl38, h38⟩, List.forall_mem_cons.2 ⟨⟨cl39, h39⟩, List.forall_mem_cons.2 ⟨⟨cl46, h46⟩, List.forall_mem_cons.2 ⟨⟨cl47, h47⟩, List.forall_mem_cons.2 ⟨⟨cl48, h48⟩, List.forall_mem_cons.2 ⟨⟨cl49, h49⟩, List.forall_mem_cons.2 ⟨⟨cl50, h50⟩, List.forall_mem_cons.2 ⟨⟨cl51, h51⟩, List.forall_mem_cons.2 ⟨⟨cl52, h52⟩, fun _ h => by cases h⟩⟩⟩⟩⟩⟩⟩⟩⟩⟩)
theorem lo13 : loopsOf (c13) = [] := by kernel_rfl
noncomputable def l13 : List Loop := []
def Q13 {α : Type} (l : Option (r13).den → α) (an : α → α → α) (x : (a13).den) : α := cl (r38).dflt (M38 (x.1, ())) (fun u0 => bif (!u0.1) then cl (r22).dflt (M22 ()) (fun u1 => l (some u1)) (l none) else bif (decide ((10 : Int) < ((x.2.1.n : Nat) : Int))) then cl (r22).dflt (M22 ()) (fun u2 => l (some u2)) (l none) else cl (r48).dflt (M48 (x.1, ())) (fun u3 => cl (r49).dflt (M49 (x.1, x.2)) (fun u4 => cl (r47).dflt (M47 (x.1, x.2)) (fun u5 => cl (r39).dflt (M39 (x.1, ())) (fun u6 => bif u6.1 then bif (!(decide (u3.1 = (0 : Int)))) then l (some (false, ())) else bif (!u6.1) then bif (!(decide (u3.1 = (2 : Int)))) then l (some (false, ())) else cl (r39).dflt (M39 (x.1, ())) (fun u7 => bif (!u6.1) then bif (decide (u4.2.2.1 = (2 : Int))) then bif (decide (((u4.1.n : Nat) : Int) = (0 : Int))) then bif ((decide (u4.2.1.1 = (0 : Int))) && ((decide (u4.2.1.2.1 = (0 : Int))) && true)) then bif (decide (u5.2.1 = (2 : Int))) then bif (!u5.1) then cl (r22).dflt (M22 ()) (fun u8 => l (some u8)) (l none) else l (some (false, ())) else l (some (false, ())) else l (some (false, ())) else l (some (false, ())) else l (some (false, ())) else cl (r46).dflt (M46 (x.1, x.2)) (fun u9 => bif (!u9.1) then bif (decide (u4.2.2.1 = (2 : Int))) then bif (decide (((u4.1.n : Nat) : Int) = (0 : Int))) then bif ((decide (u4.2.1.1 = (0 : Int))) && ((decide (u4.2.1.2.1 = (0 : Int))) && true)) then bif (decide (u5.2.1 = (2 : Int))) then bif (!u5.1) then cl (r22).dflt (M22 ()) (fun u10 => l (some u10)) (l none) else l (some (false, ())) else l (some (false, ())) else l (some (false, ())) else l (some (false, ())) else l (some (false, ())) else cl (r50).dflt (M50 (x.1, x.2)) (fun u11 => bif (decide (u4.2.2.1 = (0 : Int))) then cl (r51).dflt (M51 (u4.1, (u11.1, ()))) (fun u12 => bif u12.1 then bif ((decide (u4.2.1.1 = u11.2.1.1)) && ((decide (u4.2.1.2.1 = u11.2.1.2.1)) && true)) then bif (decide (u5.2.1 = (0 : Int))) then cl (r52).dflt (M52 (x.1, x.2)) (fun u13 => bif (u5.1 == u13.1) then cl (r22).dflt (M22 ()) (fun u14 => l (some u14)) (l none) else l (some (false, ()))) (l none) else l (some (false, ())) else l (some (false, ())) else l (some (false, ()))) (l none) else l (some (false, ()))) (l none)) (l none)) (l none) else cl (r39).dflt (M39 (x.1, ())) (fun u15 => bif (!u6.1) then bif (decide (u4.2.2.1 = (2 : Int))) then bif (decide (((u4.1.n : Nat) : Int) = (0 : Int))) then bif ((decide (u4.2.1.1 = (0 : Int))) && ((decide (u4.2.1.2.1 = (0 : Int))) && true)) then bif (decide (u5.2.1 = (2 : Int))) then bif (!u5.1) then cl (r22).dflt (M22 ()) (fun u16 => l (some u16)) (l none) else l (some (false, ())) else l (some (false, ())) else l (some (false, ())) else l (some (false, ())) else l (some (false, ())) else cl (r46).dflt (M46 (x.1, x.2)) (fun u17 => bif (!u17.1) then bif (decide (u4.2.2.1 = (2 : Int))) then bif (decide (((u4.1.n : Nat) : Int) = (0 : Int))) then bif ((decide (u4.2.1.1 = (0 : Int))) && ((decide (u4.2.1.2.1 = (0 : Int))) && true)) then bif (decide (u5.2.1 = (2 : Int))) then bif (!u5.1) then cl (r22).dflt (M22 ()) (fun u18 => l (some u18)) (l none) else l (some (false, ())) else l (some (false, ())) else l (some (false, ())) else l (some (false, ())) else l (some (false, ())) else cl (r50).dflt (M50 (x.1, x.2)) (fun u19 => bif (decide (u4.2.2.1 = (0 : Int))) then cl (r51).dflt (M51 (u4.1, (u19.1, ()))) (fun u20 => bif u20.1 then bif ((decide (u4.2.1.1 = u19.2.1.1)) && ((decide (u4.2.1.2.1 = u19.2.1.2.1)) && true)) then bif (decide (u5.2.1 = (0 : Int))) then cl (r52).dflt (M52 (x.1, x.2)) (fun u21 => bif (u5.1 == u21.1) then cl (r22).dflt (M22 ()) (fun u22 => l (some u22)) (l none) else l (some (false, ()))) (l none) else l (some (false, ())) else l (some (false, ())) else l (some (false, ()))) (l none) else l (some (false, ()))) (l none)) (l none)) (l none) else bif (!u6.1) then bif (!(decide (u3.1 = (2 : Int)))) then l (some (false, ())) else cl (r39).dflt (M39 (x.1, ())) (fun u23 => bif (!u6.1) then bif (decide (u4.2.2.1 = (2 : Int))) then bif (decide (((u4.1.n : Nat) : Int) = (0 : Int))) then bif ((decide (u4.2.1.1 = (0 : Int))) && ((decide (u4.2.1.2.1 = (0 : Int))) && true)) then bif (decide (u5.2.1 = (2 : Int))) then bif (!u5.1) then cl (r22).dflt (M22 ()) (fun u24 => l (some u24)) (l none) else l (some (false, ())) else l (some (false, ())) else l (some (false, ())) else l (some (false, ())) else l (some (false, ())) else cl (r46).dflt (M46 (x.1, x.2)) (fun u25 => bif (!u25.1) then bif (decide (u4.2.2.1 = (2 : Int))) then bif (decide (((u4.1.n : Nat) : Int) = (0 : Int))) then bif ((decide (u4.2.1.1 = (0 : Int))) && ((decide (u4.2.1.2.1 = (0 : Int))) && true)) then bif (decide (u5.2.1 = (2 : Int))) then bif (!u5.1) then cl (r22).dflt (M22 ()) (fun u26 => l (some u26)) (l none) else l (some (false, ())) else l (some (false, ())) else l (some (false, ())) else l (some (false, ())) else l (some (false, ())) else cl (r50).dflt (M50 (x.1, x.2)) (fun u27 => bif (decide (u4.2.2.1 = (0 : Int))) then cl (r51).dflt (M51 (u4.1, (u27.1, ()))) (fun u28 => bif u28.1 then bif ((decide (u4.2.1.1 = u27.2.1.1)) && ((decide (u4.2.1.2.1 = u27.2.1.2.1)) && true)) then bif (decide (u5.2.1 = (0 : Int))) then cl (r52).dflt (M52 (x.1, x.2)) (fun u29 => bif (u5.1 == u29.1) then cl (r22).dflt (M22 ()) (fun u30 => l (some u30)) (l none) else l (some (false, ()))) (l none) else l (some (false, ())) else l (some (false, ())) else l (some (false, ()))) (l none) else l (some (false, ()))) (l none)) (l none)) (l none) else cl (r39).dflt (M39 (x.1, ())) (fun u31 => bif (!u6.1) then bif (decide (u4.2.2.1 = (2 : Int))) then bif (decide (((u4.1.n : Nat) : Int) = (0 : Int))) then bif ((decide (u4.2.1.1 = (0 : Int))) && ((decide (u4.2.1.2.1 = (0 : Int))) && true)) then bif (decide (u5.2.1 = (2 : Int))) then bif (!u5.1) then cl (r22).dflt (M22 ()) (fun u32 => l (some u32)) (l none) else l (some (false, ())) else l (some (false, ())) else l (some (false, ())) else l (some (false, ())) else l (some (false, ())) else cl (r46).dflt (M46 (x.1, x.2)) (fun u33 => bif (!u33.1) then bif (decide (u4.2.2.1 = (2 : Int))) then bif (decide (((u4.1.n : Nat) : Int) = (0 : Int))) then bif ((decide (u4.2.1.1 = (0 : Int))) && ((decide (u4.2.1.2.1 = (0 : Int))) && true)) then bif (decide (u5.2.1 = (2 : Int))) then bif (!u5.1) then cl (r22).dflt (M22 ()) (fun u34 => l (some u34)) (l none) else l (some (false, ())) else l (some (false, ())) else l (some (false, ())) else l (some (false, ())) else l (some (false, ())) else cl (r50).dflt (M50 (x.1, x.2)) (fun u35 => bif (decide (u4.2.2.1 = (0 : Int))) then cl (r51).dflt (M51 (u4.1, (u35.1, ()))) (fun u36 => bif u36.1 then bif ((decide (u4.2.1.1 = u35.2.1.1)) && ((decide (u4.2.1.2.1 = u35.2.1.2.1)) && true)) then bif (decide (u5.2.1 = (0 : Int))) then cl (r52).dflt (M52 (x.1, x.2)) (fun u37 => bif (u5.1 == u37.1) then cl (r22).dflt (M22 ()) (fun u38 => l (some u38)) (l none) else l (some (false, ()))) (l none) else l (some (false, ())) else l (some (false, ())) else l (some (false, ()))) (l none) else l (some (false, ()))) (l none)) (l none)) (l none)) (l none)) (l none)) (l none)) (l none)) (l none)
theorem q13 (x : (a13).den) : runFn Try.prog E0 G13 Try.f13 l13 a13 r13 x = Q13 .leaf .any x := by kernel_rfl
def M13 (x : (a13).den) : Option (r13).den := Q13 (fun r => r) (fun _ _ => none) x
theorem m13 (x : (a13).den) : (runFn Try.prog E0 G13 Try.f13 l13 a13 r13 x).sure = M13 x := by rw [q13]; unfold M13 Q13; simp only [sure_cond, Tree.sure, sure_cl, sure_onExit, sure_onRet, sure_onPanL, sure_onNext, sure_onBrk, sure_onRetO, sure_onPan, sure_onOk, sure_onGPan]
def p13 (x : (a13).den) : Bool := (M13 x).isSome
def v13 (x : (a13).den) : (r13).den := (M13 x).getD (r13).dflt
def k13 : Con := ⟨a13, r13, p13, v13⟩
theorem h13 : Holds Try.prog 13 k13 := holds_of_M' (E := E0) follows_ok g13 eqTy_sound keyTy_sound at13 bd13 (by kernel_rfl) m13 fun G' hlo hF hE => LsOK_kn (by rw [lo13]; exact .nil)
abbrev T77 : Ty := (.cons T27 T1)
/-- isobar/isobarref09.Last -/
noncomputable def c43 : Code := Try.f43.body.getD .skip
theorem at43 : Try.prog.funcs[43]? = some Try.f43 := by kernel_rfl
theorem bd43 : Try.f43.body = some c43 := by kernel_rfl
theorem cl43 : Callable Try.prog 43 := callable_of at43 (by kernel_rfl) (by kernel_rfl)
abbrev a43 : Ty := T50
abbrev r43 : Ty := T0
noncomputable def G43 : Ctx := Ctx.of [(50, .pure k50)]
theorem g43 : Sound Try.prog (G43) := sound_of (List.forall_mem_cons.2 ⟨⟨cl50, h50⟩, fun _ h => by cases h⟩)
theorem lo43 : loopsOf (c43) = [] := by kernel_rfl
noncomputable def l43 : List Loop := []
def Q43 {α : Type} (l : Option (r43).den → α) (an : α → α → α) (x : (a43).den) : α := cl (r50).dflt (M50 (x.1, x.2)) (fun u0 => l (some u0.2.1.2)) (l none)
theorem q43 (x : (a43).den) : runFn Try.prog E0 G43 Try.f43 l43 a43 r43 x = Q43 .leaf .any x := by kernel_rfl
def M43 (x : (a43).den) : Option (r43).den := Q43 (fun r => r) (fun _ _ => none) x
theorem m43 (x : (a43).den) : (runFn Try.prog E0 G43 Try.f43 l43 a43 r43 x).sure = M43 x := by rw [q43]; unfold M43 Q43; simp only [sure_cond, Tree.sure, sure_cl, sure_onExit, sure_onRet, sure_onPanL, sure_onNext, sure_onBrk, sure_onRetO, sure_onPan, sure_onOk, sure_onGPan]
def p43 (x : (a43).den) : Bool := (M43 x).isSome
def v43 (x : (a43).den) : (r43).den := (M43 x).getD (r43).dflt
def k43 : Con := ⟨a43, r43, p43, v43⟩
theorem h43 : Holds Try.prog 43 k43 := holds_of_M' (E := E0) follows_ok g43 eqTy_sound keyTy_sound at43 bd43 (by kernel_rfl) m43 fun G' hlo hF hE => LsOK_kn (by rw [lo43]; exact .nil)
/-- isobar/isobarref09.orders -/
noncomputable def c84 : Code := Try.f84.body.getD .skip
theorem at84 : Try.prog.funcs[84]? = some Try.f84 := by kernel_rfl
theorem bd84 : Try.f84.body = some c84 := by kernel_rfl
theorem cl84 : Callable Try.prog 84 := callable_of at84 (by kernel_rfl) (by kernel_rfl)
abbrev T78 : Ty := (.cons (.sl T4) .nil)
abbrev a84 : Ty := T50
abbrev r84 : Ty := T78
noncomputable def G84 : ((a84).den → Option (r84).den) → Ctx := fun R84 => Ctx.of [(46, .pure k46), (84, .pure (conM R84))]
theorem g84 (R84 : (a84).den → Option (r84).den) (hR : Holds Try.prog 84 (conM R84)) : Sound Try.prog (G84 R84) := sound_of (List.forall_mem_cons.2 ⟨⟨cl46, h46⟩, List.forall_mem_cons.2 ⟨⟨cl84, hR⟩, fun _ h => by cases h⟩⟩)
noncomputable def b84x0 : Code := loopBody ((loopsOf (c84))[0]?)
theorem lo84x0 : loopsOf (b84x0) = [] := by kernel_rfl
abbrev cs84x0 : List Pat := [.slot 1 (.pc (.sl T0)), .slot 2 (.ptr 2), .box 2 [.pc tI, .pc (.sl T1), .pc T44]]
abbrev vs84x0 : List Pat := [.slot 5 (.own 40 31 T4), .slot 6 (.pc tI)]
abbrev ps84x0 : List Pat := [.slot 1 (.pc (.sl T0)), .slot 2 (.ptr 2), .box 2 [.pc tI, .pc (.sl T1), .pc T44], .slot 5 (.own 40 31 T4), .slot 6 (.pc tI)]
def j84x0 : (patsTy cs84x0).den → (patsTy vs84x0).den → (patsTy ps84x0).den := fun c v => (c.1, (c.2.1, (c.2.2.1, v)))
def sp84x0 : (patsTy ps84x0).den → (patsTy cs84x0).den × (patsTy vs84x0).den := fun x => ((x.1, (x.2.1, (x.2.2.1, ()))), x.2.2.2)
abbrev wy84x0 : Ways := ⟨[(0, [.slot 5 (.pc (.sl T4))])], [], []⟩
abbrev wv84x0 : Ways := ⟨[(0, [.slot 5 (.pc (.sl T4))])], [], []⟩
def je84x0 : (id : Nat) → (patsTy cs84x0).den → (patsTy (wayP wv84x0 id)).den → (patsTy (wayP wy84x0 id)).den := fun id => match id with | 0 => fun c y => y | id => fun _ _ => (patsTy (wayP wy84x0 id)).dflt
def jr84x0 : (patsTy cs84x0).den → (patsTy (wv84x0).ret).den → (patsTy (wy84x0).ret).den := fun c y => y
def jp84x0 : (patsTy cs84x0).den → (patsTy (wv84x0).pan).den → (patsTy (wy84x0).pan).den := fun c y => y
def Z84x0 (R84 : (a84).den → Option (r84).den) {α : Type} (l : RQ vs84x0 wv84x0 → α) (an : α → α → α) (c : (patsTy cs84x0).den) (v : (patsTy vs84x0).den) : α := bif (decide (v.2.1 < ((c.2.2.1.2.1.n : Nat) : Int))) then bif (decide ((c.1.n * 8) ≤ 140737488355328)) then bif (decide (((c.1.n + 1) * 8) ≤ 140737488355328)) then cl (r46).dflt (M46 (c.2.2.1, ((catSl c.1 (⟨1, fun i => List.getD [v.2] i v.2⟩ : Sl (Ty.den T0))), ()))) (fun u0 => bif u0.1 then cl (Ty.dflt T78) (R84 (c.2.2.1, ((catSl c.1 (⟨1, fun i => List.getD [v.2] i v.2⟩ : Sl (Ty.den T0))), ()))) (fun u1 => bif (decide (((v.1.n + u1.1.n) * 24) ≤ 140737488355328)) then l (.next ((catSl v.1 u1.1), ((W (v.2.1 + (1 : Int))), ()))) else l .bad) (l .bad) else l (.next (v.1, ((W (v.2.1 + (1 : Int))), ())))) (l .bad) else l .bad else l .bad else l (.out (.exit 0 (v.1, ())))
theorem z84x0 (R84 : (a84).den → Option (r84).den) (c : (patsTy cs84x0).den) (v : (patsTy vs84x0).den) : roundQ Try.prog E0 (G84 R84) 0 31 [] ps84x0 wy84x0 b84x0 [] (j84x0 c v) = Z84x0 R84 (fun r => .leaf (r.lift j84x0 je84x0 jr84x0 jp84x0 c)) .any c v := by kernel_rfl
def S84x0 (R84 : (a84).den → Option (r84).den) (c : (patsTy cs84x0).den) (v : (patsTy vs84x0).den) : RQ vs84x0 wv84x0 := Z84x0 R84 (fun r => r) (fun _ _ => .bad) c v
theorem s84x0 (R84 : (a84).den → Option (r84).den) (c : (patsTy cs84x0).den) (v : (patsTy vs84x0).den) : detQ (roundQ Try.prog E0 (G84 R84) 0 31 [] ps84x0 wy84x0 b84x0 [] (j84x0 c v)) = (S84x0 R84 c v).lift j84x0 je84x0 jr84x0 jp84x0 c := by rw [z84x0]; unfold S84x0 Z84x0; simp only [detQ_cond, lift_cond, lift_bad, detQ, detQ_cl, detQ_onExit, detQ_onRet, detQ_onPanL, detQ_onNext, detQ_onBrk, detQ_onRetO, detQ_onPan, detQ_onOk, detQ_onGPan, lift_cl, lift_onExit, lift_onRet, lift_onPanL, lift_onNext, lift_onBrk, lift_onRetO, lift_onPan, lift_onOk, lift_onGPan]
def L84x0 (R84 : (a84).den → Option (r84).den) (c : (patsTy cs84x0).den) (v : (patsTy vs84x0).den) : LQ wv84x0 := iterQ (S84x0 R84 c) big v
theorem lo84 : loopsOf (c84) = [.loop b84x0] := by kernel_rfl
noncomputable def l84 : ((a84).den → Option (r84).den) → List Loop := fun R84 => [.known (loopZ 0 [] ps84x0 fun x => spreadV wy84x0 je84x0 jr84x0 jp84x0 [] false (sp84x0 x).1 (L84x0 R84 (sp84x0 x).1 (sp84x0 x).2) wy84x0.exits)]
def Q84 (R84 : (a84).den → Option (r84).den) {α : Type} (l : Option (r84).den → α) (an : α → α → α) (x : (a84).den) : α := onExit (L84x0 R84 (x.2.1, ((), (x.1, ()))) ((⟨1, fun i => List.getD [x.2] i x.2⟩ : Sl _), ((0 : Int), ()))) 0 (fun u2 => l (some u2)) (l none)
theorem q84 (R84 : (a84).den → Option (r84).den) (x : (a84).den) : runFn Try.prog E0 (G84 R84) Try.f84 (l84 R84) a84 r84 x = Q84 R84 .leaf .any x := by kernel_rfl
def U84 (R84 : (a84).den → Option (r84).den) (x : (a84).den) : Option (r84).den := Q84 R84 (fun r => r) (fun _ _ => none) x
theorem m84 (R84 : (a84).den → Option (r84).den) (x : (a84).den) : (runFn Try.prog E0 (G84 R84) Try.f84 (l84 R84) a84 r84 x).sure = U84 R84 x := by rw [q84]; unfold U84 Q84; simp only [sure_cond, Tree.sure, sure_cl, sure_onExit, sure_onRet, sure_onPanL, sure_onNext, sure_onBrk, sure_onRetO, sure_onPan, sure_onOk, sure_onGPan]
theorem hr84 (R84 : (a84).den → Option (r84).den) (hR : Holds Try.prog 84 (conM R84)) : Holds Try.prog 84 (conM (U84 R84)) := holds_of_M' (E := E0) follows_ok (g84 R84 hR) eqTy_sound keyTy_sound at84 bd84 (by kernel_rfl) (m84 R84) fun G' hlo hF hE => LsOK_kn (by rw [lo84]; exact .cons (loopV_ok hE hF hlo (LsOK_kn (by rw [lo84x0]; exact .nil)) (by kernel_rfl) (by kernel_rfl) sp84x0 (fun _ => rfl) (fun _ _ => rfl) (s84x0 R84) big) (.nil))
def F84 : Nat → (a84).den → Option (r84).den
  | 0 => fun _ => none
  | n + 1 => U84 (F84 n)
theorem hf84 : ∀ n, Holds Try.prog 84 (conM (F84 n))
  | 0 => conM_none
  | n + 1 => hr84 _ (hf84 n)
def M84 (x : (a84).den) : Option (r84).den := F84 12 x
def p84 (x : (a84).den) : Bool := (M84 x).isSome
def v84 (x : (a84).den) : (r84).den := (M84 x).getD (r84).dflt
def k84 : Con := ⟨a84, r84, p84, v84⟩
theorem h84 : Holds Try.prog 84 k84 := hf84 12
/-- isobar/isobarref09.Best -/
noncomputable def c41 : Code := Try.f41.body.getD .skip
theorem at41 : Try.prog.funcs[41]? = some Try.f41 := by kernel_rfl
theorem bd41 : Try.f41.body = some c41 := by kernel_rfl
theorem cl41 : Callable Try.prog 41 := callable_of at41 (by kernel_rfl) (by kernel_rfl)
abbrev a41 : Ty := T49
abbrev r41 : Ty := T4
noncomputable def G41 : Ctx := Ctx.of [(43, .pure k43), (52, .pure k52), (84, .pure k84)]
theorem g41 : Sound Try.prog (G41) := sound_of (List.forall_mem_cons.2 ⟨⟨cl43, h43⟩, List.forall_mem_cons.2 ⟨⟨cl52, h52⟩, List.forall_mem_cons.2 ⟨⟨cl84, h84⟩, fun _ h => by cases h⟩⟩⟩)
noncomputable def b41x0 : Code := loopBody ((loopsOf (c41))[0]?)
theorem lo41x0 : loopsOf (b41x0) = [] := by kernel_rfl
abbrev cs41x0 : List Pat := [.slot 1 (.ptr 1), .slot 3 (.pc (.sl T4)), .box 1 [.pc tI, .pc (.sl T1), .pc T44]]
abbrev vs41x0 : List Pat := [.slot 4 (.pc (.sl T0)), .slot 5 (.pc tI)]
abbrev ps41x0 : List Pat := [.slot 1 (.ptr 1), .slot 3 (.pc (.sl T4)), .box 1 [.pc tI, .pc (.sl T1), .pc T44], .slot 4 (.pc (.sl T0)), .slot 5 (.pc tI)]
def j41x0 : (patsTy cs41x0).den → (patsTy vs41x0).den → (patsTy ps41x0).den := fun c v => (c.1, (c.2.1, (c.2.2.1, v)))
def sp41x0 : (patsTy ps41x0).den → (patsTy cs41x0).den × (patsTy vs41x0).den := fun x => ((x.1, (x.2.1, (x.2.2.1, ()))), x.2.2.2)
abbrev wy41x0 : Ways := ⟨[(0, [.slot 4 (.pc (.sl T0))])], [], []⟩
abbrev wv41x0 : Ways := ⟨[(0, [.slot 4 (.pc (.sl T0))])], [], []⟩
def je41x0 : (id : Nat) → (patsTy cs41x0).den → (patsTy (wayP wv41x0 id)).den → (patsTy (wayP wy41x0 id)).den := fun id => match id with | 0 => fun c y => y | id => fun _ _ => (patsTy (wayP wy41x0 id)).dflt
def jr41x0 : (patsTy cs41x0).den → (patsTy (wv41x0).ret).den → (patsTy (wy41x0).ret).den := fun c y => y
def jp41x0 : (patsTy cs41x0).den → (patsTy (wv41x0).pan).den → (patsTy (wy41x0).pan).den := fun c y => y
def Z41x0 {α : Type} (l : RQ vs41x0 wv41x0 → α) (an : α → α → α) (c : (patsTy cs41x0).den) (v : (patsTy vs41x0).den) : α := bif (decide (v.2.1 < ((c.2.1.n : Nat) : Int))) then bif (decide (((0 : Int) ≤ v.2.1) ∧ (v.2.1 < ((c.2.1.n : Nat) : Int)))) then cl (r52).dflt (M52 (c.2.2.1, (c.2.1.g (Int.toNat v.2.1)))) (fun u0 => bif u0.1 then bif (decide (((0 : Int) ≤ v.2.1) ∧ (v.2.1 < ((c.2.1.n : Nat) : Int)))) then bif (decide (((v.1.n : Nat) : Int) < (((c.2.1.g (Int.toNat v.2.1)).1.n : Nat) : Int))) then bif (decide (((0 : Int) ≤ v.2.1) ∧ (v.2.1 < ((c.2.1.n : Nat) : Int)))) then l (.next ((c.2.1.g (Int.toNat v.2.1)).1, ((W (v.2.1 + (1 : Int))), ()))) else l .bad else bif (decide (((0 : Int) ≤ v.2.1) ∧ (v.2.1 < ((c.2.1.n : Nat) : Int)))) then bif (decide ((((c.2.1.g (Int.toNat v.2.1)).1.n : Nat) : Int) = ((v.1.n : Nat) : Int))) then bif (decide (((0 : Int) ≤ v.2.1) ∧ (v.2.1 < ((c.2.1.n : Nat) : Int)))) then cl (r43).dflt (M43 (c.2.2.1, (c.2.1.g (Int.toNat v.2.1)))) (fun u1 => cl (r43).dflt (M43 (c.2.2.1, (v.1, ()))) (fun u2 => bif (decide (u1.1 < u2.1)) then bif (decide (((0 : Int) ≤ v.2.1) ∧ (v.2.1 < ((c.2.1.n : Nat) : Int)))) then l (.next ((c.2.1.g (Int.toNat v.2.1)).1, ((W (v.2.1 + (1 : Int))), ()))) else l .bad else l (.next (v.1, ((W (v.2.1 + (1 : Int))), ())))) (l .bad)) (l .bad) else l .bad else l (.next (v.1, ((W (v.2.1 + (1 : Int))), ()))) else l .bad else l .bad else l (.next (v.1, ((W (v.2.1 + (1 : Int))), ())))) (l .bad) else l .bad else l (.out (.exit 0 (v.1, ())))
theorem z41x0 (c : (patsTy cs41x0).den) (v : (patsTy vs41x0).den) : roundQ Try.prog E0 G41 0 57 [] ps41x0 wy41x0 b41x0 [] (j41x0 c v) = Z41x0 (fun r => .leaf (r.lift j41x0 je41x0 jr41x0 jp41x0 c)) .any c v := by kernel_rfl
def S41x0 (c : (patsTy cs41x0).den) (v : (patsTy vs41x0).den) : RQ vs41x0 wv41x0 := Z41x0 (fun r => r) (fun _ _ => .bad) c v
theorem s41x0 (c : (patsTy cs41x0).den) (v : (patsTy vs41x0).den) : detQ (roundQ Try.prog E0 G41 0 57 [] ps41x0 wy41x0 b41x0 [] (j41x0 c v)) = (S41x0 c v).lift j41x0 je41x0 jr41x0 jp41x0 c := by rw [z41x0]; unfold S41x0 Z41x0; simp only [detQ_cond, lift_cond, lift_bad, detQ, detQ_cl, detQ_onExit, detQ_onRet, detQ_onPanL, detQ_onNext, detQ_onBrk, detQ_onRetO, detQ_onPan, detQ_onOk, detQ_onGPan, lift_cl, lift_onExit, lift_onRet, lift_onPanL, lift_onNext, lift_onBrk, lift_onRetO, lift_onPan, lift_onOk, lift_onGPan]
def L41x0 (c : (patsTy cs41x0).den) (v : (patsTy vs41x0).den) : LQ wv41x0 := iterQ (S41x0 c) big v
theorem lo41 : loopsOf (c41) = [.loop b41x0] := by kernel_rfl
noncomputable def l41 : List Loop := [.known (loopZ 0 [] ps41x0 fun x => spreadV wy41x0 je41x0 jr41x0 jp41x0 [] false (sp41x0 x).1 (L41x0 (sp41x0 x).1 (sp41x0 x).2) wy41x0.exits)]
def Q41 {α : Type} (l : Option (r41).den → α) (an : α → α → α) (x : (a41).den) : α := cl (r84).dflt (M84 (x.1, ((⟨0, fun i => ((0 : Int), ())⟩ : Sl _), ()))) (fun u3 => onExit (L41x0 ((), (u3.1, (x.1, ()))) ((⟨0, fun i => ((0 : Int), ())⟩ : Sl _), ((0 : Int), ()))) 0 (fun u4 => l (some u4)) (l none)) (l none)
theorem q41 (x : (a41).den) : runFn Try.prog E0 G41 Try.f41 l41 a41 r41 x = Q41 .leaf .any x := by kernel_rfl
def M41 (x : (a41).den) : Option (r41).den := Q41 (fun r => r) (fun _ _ => none) x
theorem m41 (x : (a41).den) : (runFn Try.prog E0 G41 Try.f41 l41 a41 r41 x).sure = M41 x := by rw [q41]; unfold M41 Q41; simp only [sure_cond, Tree.sure, sure_cl, sure_onExit, sure_onRet, sure_onPanL, sure_onNext, sure_onBrk, sure_onRetO, sure_onPan, sure_onOk, sure_onGPan]
def p41 (x : (a41).den) : Bool := (M41 x).isSome
def v41 (x : (a41).den) : (r41).den := (M41 x).getD (r41).dflt
def k41 : Con := ⟨a41, r41, p41, v41⟩
theorem h41 : Holds Try.prog 41 k41 := holds_of_M' (E := E0) follows_ok g41 eqTy_sound keyTy_sound at41 bd41 (by kernel_rfl) m41 fun G' hlo hF hE => LsOK_kn (by rw [lo41]; exact .cons (loopV_ok hE hF hlo (LsOK_kn (by rw [lo41x0]; exact .nil)) (by kernel_rfl) (by kernel_rfl) sp41x0 (fun _ => rfl) (fun _ _ => rfl) (s41x0) big) (.nil))
/-- isobar/isobarlaw09.WatchBests -/
noncomputable def c10 : Code := Try.f10.body.getD .skip
theorem at10 : Try.prog.funcs[10]? = some Try.f10 := by kernel_rfl
theorem bd10 : Try.f10.body = some c10 := by kernel_rfl
theorem cl10 : Callable Try.prog 10 := callable_of at10 (by kernel_rfl) (by kernel_rfl)
abbrev a10 : Ty := T49
abbrev r10 : Ty := T3
noncomputable def G10 : Ctx := Ctx.of [(22, .pure k22), (38, .pure k38), (39, .pure k39), (40, .pure k40), (41, .pure k41), (42, .pure k42), (43, .pure k43)]
theorem g10 : Sound Try.prog (G10) := sound_of (List.forall_mem_cons.2 ⟨⟨cl22, h22⟩, List.forall_mem_cons.2 ⟨⟨cl38, h38⟩, List.forall_mem_cons.2 ⟨⟨cl39, h39⟩, List.forall_mem_cons.2 ⟨⟨cl40, h40⟩, List.forall_mem_cons.2 ⟨⟨cl41, h41⟩, List.forall_mem_cons.2 ⟨⟨cl42, h42⟩, List.forall_mem_cons.2 ⟨⟨cl43, h43⟩, fun _ h => by cases h⟩⟩⟩⟩⟩⟩⟩)
theorem lo10 : loopsOf (c10) = [] := by kernel_rfl
noncomputable def l10 : List Loop := []
def Q10 {α : Type} (l : Option (r10).den → α) (an : α → α → α) (x : (a10).den) : α := cl (r38).dflt (M38 (x.1, ())) (fun u0 => bif (!u0.1) then cl (r22).dflt (M22 ()) (fun u1 => l (some u1)) (l none) else cl (r39).dflt (M39 (x.1, ())) (fun u2 => bif u2.1 then bif (decide ((4 : Int) < ((x.1.2.1.n : Nat) : Int))) then cl (r22).dflt (M22 ()) (fun u3 => l (some u3)) (l none) else cl (r40).dflt (M40 (x.1, ())) (fun u4 => cl (r39).dflt (M39 (x.1, ())) (fun u5 => bif (!u2.1) then bif (decide (u4.2.2.1 = (2 : Int))) then bif (decide (((u4.1.n : Nat) : Int) = (0 : Int))) then bif (decide (u4.2.1 = (0 : Int))) then cl (r22).dflt (M22 ()) (fun u6 => l (some u6)) (l none) else l (some (false, ())) else l (some (false, ())) else l (some (false, ())) else cl (r41).dflt (M41 (x.1, ())) (fun u7 => bif (decide (u4.2.2.1 = (0 : Int))) then cl (r42).dflt (M42 (u4.1, u7)) (fun u8 => bif u8.1 then cl (r43).dflt (M43 (x.1, u7)) (fun u9 => bif (decide (u4.2.1 = u9.1)) then cl (r22).dflt (M22 ()) (fun u10 => l (some u10)) (l none) else l (some (false, ()))) (l none) else l (some (false, ()))) (l none) else l (some (false, ()))) (l none)) (l none)) (l none) else cl (r40).dflt (M40 (x.1, ())) (fun u11 => cl (r39).dflt (M39 (x.1, ())) (fun u12 => bif (!u2.1) then bif (decide (u11.2.2.1 = (2 : Int))) then bif (decide (((u11.1.n : Nat) : Int) = (0 : Int))) then bif (decide (u11.2.1 = (0 : Int))) then cl (r22).dflt (M22 ()) (fun u13 => l (some u13)) (l none) else l (some (false, ())) else l (some (false, ())) else l (some (false, ())) else cl (r41).dflt (M41 (x.1, ())) (fun u14 => bif (decide (u11.2.2.1 = (0 : Int))) then cl (r42).dflt (M42 (u11.1, u14)) (fun u15 => bif u15.1 then cl (r43).dflt (M43 (x.1, u14)) (fun u16 => bif (decide (u11.2.1 = u16.1)) then cl (r22).dflt (M22 ()) (fun u17 => l (some u17)) (l none) else l (some (false, ()))) (l none) else l (some (false, ()))) (l none) else l (some (false, ()))) (l none)) (l none)) (l none)) (l none)) (l none)
theorem q10 (x : (a10).den) : runFn Try.prog E0 G10 Try.f10 l10 a10 r10 x = Q10 .leaf .any x := by kernel_rfl
def M10 (x : (a10).den) : Option (r10).den := Q10 (fun r => r) (fun _ _ => none) x
theorem m10 (x : (a10).den) : (runFn Try.prog E0 G10 Try.f10 l10 a10 r10 x).sure = M10 x := by rw [q10]; unfold M10 Q10; simp only [sure_cond, Tree.sure, sure_cl, sure_onExit, sure_onRet, sure_onPanL, sure_onNext, sure_onBrk, sure_onRetO, sure_onPan, sure_onOk, sure_onGPan]
def p10 (x : (a10).den) : Bool := (M10 x).isSome
def v10 (x : (a10).den) : (r10).den := (M10 x).getD (r10).dflt
def k10 : Con := ⟨a10, r10, p10, v10⟩
theorem h10 : Holds Try.prog 10 k10 := holds_of_M' (E := E0) follows_ok g10 eqTy_sound keyTy_sound at10 bd10 (by kernel_rfl) m10 fun G' hlo hF hE => LsOK_kn (by rw [lo10]; exact .nil)
abbrev T79 : Ty := (.cons T48 T33)

end Go.Dm

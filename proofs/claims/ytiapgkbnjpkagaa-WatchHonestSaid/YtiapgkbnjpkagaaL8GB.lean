/-
  Each function of the program as a Lean function, and that its calls come to what that says.
-/
import Derived.Test.YtiapgkbnjpkagaaL8GA
set_option linter.unusedVariables false
set_option linter.unusedSimpArgs false
namespace Go.Dm
open Go.RowKit Go.Proofs
set_option maxRecDepth 100000
/-- isobar/watch.best[isobar/watch.plan] -/
noncomputable def c82 : Code := Try.f82.body.getD .skip
theorem at82 : Try.prog.funcs[82]? = some Try.f82 := by kernel_rfl
theorem bd82 : Try.f82.body = some c82 := by kernel_rfl
theorem cl82 : Callable Try.prog 82 := callable_of at82 (by kernel_rfl) (by kernel_rfl)
abbrev T62 : Ty := (.sl T54)
abbrev T63 : Ty := (.fn T59 T3)
abbrev T64 : Ty := (.cons T63 .nil)
abbrev T65 : Ty := (.cons T62 T64)
abbrev a82 : Ty := T65
abbrev r82 : Ty := T58
noncomputable def G82 : Ctx := Ctx.of []
theorem g82 : Sound Try.prog (G82) := sound_of (fun _ h => by cases h)
noncomputable def b82x0 : Code := loopBody ((loopsOf (c82))[0]?)
theorem lo82x0 : loopsOf (b82x0) = [] := by kernel_rfl
abbrev cs82x0 : List Pat := [.slot 1 (.pc T63), .slot 4 (.ptr 4), .slot 5 (.ptr 29), .slot 11 (.pc T62), .slot 12 (.pc tI), .box 4 [.own 1005000 3 T0, .pc tI]]
abbrev vs82x0 : List Pat := [.slot 13 (.pc tI), .box 29 [.pc (.sl T0), .pc tI]]
abbrev ps82x0 : List Pat := [.slot 1 (.pc T63), .slot 4 (.ptr 4), .slot 5 (.ptr 29), .slot 11 (.pc T62), .slot 12 (.pc tI), .box 4 [.own 1005000 3 T0, .pc tI], .slot 13 (.pc tI), .box 29 [.pc (.sl T0), .pc tI]]
def j82x0 : (patsTy cs82x0).den → (patsTy vs82x0).den → (patsTy ps82x0).den := fun c v => (c.1, (c.2.1, (c.2.2.1, (c.2.2.2.1, (c.2.2.2.2.1, (c.2.2.2.2.2.1, v))))))
def sp82x0 : (patsTy ps82x0).den → (patsTy cs82x0).den × (patsTy vs82x0).den := fun x => ((x.1, (x.2.1, (x.2.2.1, (x.2.2.2.1, (x.2.2.2.2.1, (x.2.2.2.2.2.1, ())))))), x.2.2.2.2.2.2)
abbrev wy82x0 : Ways := ⟨[(0, [.slot 4 (.ptr 4), .slot 5 (.ptr 29), .box 4 [.own 1005000 3 T0, .pc tI], .box 29 [.pc (.sl T0), .pc tI]])], [], []⟩
abbrev wv82x0 : Ways := ⟨[(0, [.box 29 [.pc (.sl T0), .pc tI]])], [], []⟩
def je82x0 : (id : Nat) → (patsTy cs82x0).den → (patsTy (wayP wv82x0 id)).den → (patsTy (wayP wy82x0 id)).den := fun id => match id with | 0 => fun c y => (c.2.1, (c.2.2.1, (c.2.2.2.2.2.1, y))) | id => fun _ _ => (patsTy (wayP wy82x0 id)).dflt
def jr82x0 : (patsTy cs82x0).den → (patsTy (wv82x0).ret).den → (patsTy (wy82x0).ret).den := fun c y => y
def jp82x0 : (patsTy cs82x0).den → (patsTy (wv82x0).pan).den → (patsTy (wy82x0).pan).den := fun c y => y
def Z82x0 {α : Type} (l : RQ vs82x0 wv82x0 → α) (an : α → α → α) (c : (patsTy cs82x0).den) (v : (patsTy vs82x0).den) : α := bif (decide (v.1 < c.2.2.2.2.1)) then bif (decide (((0 : Int) ≤ v.1) ∧ (v.1 < ((c.2.2.2.1.n : Nat) : Int)))) then bif (c.1 ((c.2.2.2.1.g (Int.toNat v.1)), (v.2.1, ()))).1 then bif (c.1 ((c.2.2.2.1.g (Int.toNat v.1)), (v.2.1, ()))).2.1 then l (.next ((W (v.1 + (1 : Int))), ((c.2.2.2.1.g (Int.toNat v.1)), ()))) else l (.next ((W (v.1 + (1 : Int))), (v.2.1, ()))) else l .bad else l .bad else l (.out (.exit 0 (v.2.1, ())))
theorem z82x0 (c : (patsTy cs82x0).den) (v : (patsTy vs82x0).den) : roundQ Try.prog E0 G82 0 24 [] ps82x0 wy82x0 b82x0 [] (j82x0 c v) = Z82x0 (fun r => .leaf (r.lift j82x0 je82x0 jr82x0 jp82x0 c)) .any c v := by kernel_rfl
def S82x0 (c : (patsTy cs82x0).den) (v : (patsTy vs82x0).den) : RQ vs82x0 wv82x0 := Z82x0 (fun r => r) (fun _ _ => .bad) c v
theorem s82x0 (c : (patsTy cs82x0).den) (v : (patsTy vs82x0).den) : detQ (roundQ Try.prog E0 G82 0 24 [] ps82x0 wy82x0 b82x0 [] (j82x0 c v)) = (S82x0 c v).lift j82x0 je82x0 jr82x0 jp82x0 c := by rw [z82x0]; unfold S82x0 Z82x0; simp only [detQ_cond, lift_cond, lift_bad, detQ, detQ_cl, detQ_onExit, detQ_onRet, detQ_onPanL, detQ_onNext, detQ_onBrk, detQ_onRetO, detQ_onPan, detQ_onOk, detQ_onGPan, lift_cl, lift_onExit, lift_onRet, lift_onPanL, lift_onNext, lift_onBrk, lift_onRetO, lift_onPan, lift_onOk, lift_onGPan]
def L82x0 (c : (patsTy cs82x0).den) (v : (patsTy vs82x0).den) : LQ wv82x0 := iterQ (S82x0 c) big v
theorem lo82 : loopsOf (c82) = [.loop b82x0] := by kernel_rfl
noncomputable def l82 : List Loop := [.known (loopZ 0 [] ps82x0 fun x => spreadV wy82x0 je82x0 jr82x0 jp82x0 [] false (sp82x0 x).1 (L82x0 (sp82x0 x).1 (sp82x0 x).2) wy82x0.exits)]
def Q82 {α : Type} (l : Option (r82).den → α) (an : α → α → α) (x : (a82).den) : α := bif (decide (((0 : Int) ≤ (0 : Int)) ∧ ((0 : Int) < ((x.1.n : Nat) : Int)))) then onExit (L82x0 (x.2.1, ((), ((), (x.1, (((x.1.n : Nat) : Int), (((⟨0, fun i => ((0 : Int), ())⟩ : Sl _), ((0 : Int), ())), ())))))) ((0 : Int), ((x.1.g 0), ()))) 0 (fun u0 => l (some (u0.1, ()))) (l none) else l none
theorem q82 (x : (a82).den) : runFn Try.prog E0 G82 Try.f82 l82 a82 r82 x = Q82 .leaf .any x := by kernel_rfl
def M82 (x : (a82).den) : Option (r82).den := Q82 (fun r => r) (fun _ _ => none) x
theorem m82 (x : (a82).den) : (runFn Try.prog E0 G82 Try.f82 l82 a82 r82 x).sure = M82 x := by rw [q82]; unfold M82 Q82; simp only [sure_cond, Tree.sure, sure_cl, sure_onExit, sure_onRet, sure_onPanL, sure_onNext, sure_onBrk, sure_onRetO, sure_onPan, sure_onOk, sure_onGPan]
def p82 (x : (a82).den) : Bool := (M82 x).isSome
def v82 (x : (a82).den) : (r82).den := (M82 x).getD (r82).dflt
def k82 : Con := ⟨a82, r82, p82, v82⟩
theorem h82 : Holds Try.prog 82 k82 := holds_of_M' (E := E0) follows_ok g82 eqTy_sound keyTy_sound at82 bd82 (by kernel_rfl) m82 fun G' hlo hF hE => LsOK_kn (by rw [lo82]; exact .cons (loopV_ok hE hF hlo (LsOK_kn (by rw [lo82x0]; exact .nil)) (by kernel_rfl) (by kernel_rfl) sp82x0 (fun _ => rfl) (fun _ _ => rfl) (s82x0) big) (.nil))
/-- isobar/watch.Best -/
noncomputable def c40 : Code := Try.f40.body.getD .skip
theorem at40 : Try.prog.funcs[40]? = some Try.f40 := by kernel_rfl
theorem bd40 : Try.f40.body = some c40 := by kernel_rfl
theorem cl40 : Callable Try.prog 40 := callable_of at40 (by kernel_rfl) (by kernel_rfl)
abbrev T66 : Ty := (.cons (.sl T0) T1)
abbrev a40 : Ty := T49
abbrev r40 : Ty := T66
noncomputable def G40 : Ctx := Ctx.of [(77, .pure k77), (78, .gen (gappD Try.f78.ntmps r78 ps78 pans78 (F78 9))), (82, .pure k82), (83, .pure k83)]
theorem g40 : Sound Try.prog (G40) := sound_of (List.forall_mem_cons.2 ⟨⟨cl77, h77⟩, List.forall_mem_cons.2 ⟨⟨cl78, h78 9⟩, List.forall_mem_cons.2 ⟨⟨cl82, h82⟩, List.forall_mem_cons.2 ⟨⟨cl83, h83⟩, fun _ h => by cases h⟩⟩⟩⟩)
theorem lo40 : loopsOf (c40) = [] := by kernel_rfl
noncomputable def l40 : List Loop := []
def Q40 {α : Type} (l : Option (r40).den → α) (an : α → α → α) (x : (a40).den) : α := cl (r77).dflt (M77 (x.1, ())) (fun u0 => bif (!u0.1) then l (some ((⟨0, fun i => ((0 : Int), ())⟩ : Sl _), ((0 : Int), ((2 : Int), ())))) else onOk (F78 9 ((⟨0, fun i => ((0 : Int), ())⟩ : Sl _), ((), ((), ((), (x.1, (((⟨0, fun i => ((⟨0, fun i => ((0 : Int), ())⟩ : Sl _), ((0 : Int), ()))⟩ : Sl _), ()), (((), ()), ())))))))) (fun u1 => cl (r82).dflt (M82 (u1.2.2.1.1, ((fun y1 => ((p83 y1), (v83 y1))), ()))) (fun u2 => l (some (u2.1.1, (u2.1.2.1, ((0 : Int), ()))))) (l none)) (l none)) (l none)
theorem q40 (x : (a40).den) : runFn Try.prog E0 G40 Try.f40 l40 a40 r40 x = Q40 .leaf .any x := by kernel_rfl
def M40 (x : (a40).den) : Option (r40).den := Q40 (fun r => r) (fun _ _ => none) x
theorem m40 (x : (a40).den) : (runFn Try.prog E0 G40 Try.f40 l40 a40 r40 x).sure = M40 x := by rw [q40]; unfold M40 Q40; simp only [sure_cond, Tree.sure, sure_cl, sure_onExit, sure_onRet, sure_onPanL, sure_onNext, sure_onBrk, sure_onRetO, sure_onPan, sure_onOk, sure_onGPan]
def p40 (x : (a40).den) : Bool := (M40 x).isSome
def v40 (x : (a40).den) : (r40).den := (M40 x).getD (r40).dflt
def k40 : Con := ⟨a40, r40, p40, v40⟩
theorem h40 : Holds Try.prog 40 k40 := holds_of_M' (E := E0) follows_ok g40 eqTy_sound keyTy_sound at40 bd40 (by kernel_rfl) m40 fun G' hlo hF hE => LsOK_kn (by rw [lo40]; exact .nil)
/-- isobar/isobarlaw09.known -/
noncomputable def c22 : Code := Try.f22.body.getD .skip
theorem at22 : Try.prog.funcs[22]? = some Try.f22 := by kernel_rfl
theorem bd22 : Try.f22.body = some c22 := by kernel_rfl
theorem cl22 : Callable Try.prog 22 := callable_of at22 (by kernel_rfl) (by kernel_rfl)
abbrev a22 : Ty := .nil
abbrev r22 : Ty := T3
noncomputable def G22 : Ctx := Ctx.of [(17, .pure k17), (18, .pure k18), (30, .pure k30), (34, .pure k34), (37, .pure k37), (40, .pure k40), (42, .pure k42), (49, .pure k49), (51, .pure k51), (64, .pure k64), (65, .pure k65), (66, .pure k66), (67, .pure k67)]
theorem g22 : Sound Try.prog (G22) := sound_of (List.forall_mem_cons.2 ⟨⟨cl17, h17⟩, List.forall_mem_cons.2 ⟨⟨cl18, h18⟩, List.forall_mem_cons.2 ⟨⟨cl30, h30⟩, List.forall_mem_cons.2 ⟨⟨cl34, h34⟩, List.forall_mem_cons.2 ⟨⟨cl37, h37⟩, List.forall_mem_cons.2 ⟨⟨cl40, h40⟩, List.forall_mem_cons.2 ⟨⟨cl42, h42⟩, List.forall_mem_cons.2 ⟨⟨cl49, h49⟩, List.forall_mem_cons.2 ⟨⟨cl51, h51⟩, List.forall_mem_cons.2 ⟨⟨cl64, h64⟩, List.forall_mem_cons.2 ⟨⟨cl65, h65⟩, List.forall_mem_cons.2 ⟨⟨cl66, h66⟩, List.forall_mem_cons.2 ⟨⟨cl67, h67⟩, fun _ h => by cases h⟩⟩⟩⟩⟩⟩⟩⟩⟩⟩⟩⟩⟩)
theorem lo22 : loopsOf (c22) = [] := by kernel_rfl
noncomputable def l22 : List Loop := []
def Q22 {α : Type} (l : Option (r22).den → α) (an : α → α → α) (x : (a22).den) : α := cl (r64).dflt (M64 ()) (fun u0 => cl (r37).dflt (M37 (u0.1, ())) (fun u1 => cl (r17).dflt (M17 ((10 : Int), ((6 : Int), ((5 : Int), ())))) (fun u2 => cl (r18).dflt (M18 ((10 : Int), ((6 : Int), ((3 : Int), ())))) (fun u3 => cl (r30).dflt (M30 ((10 : Int), ((6 : Int), ((900 : Int), ())))) (fun u4 => cl (r64).dflt (M64 ()) (fun u5 => cl (r34).dflt (M34 (u0.1, ())) (fun u6 => cl (r65).dflt (M65 ()) (fun u7 => cl (r34).dflt (M34 (u7.1, ())) (fun u8 => cl (r66).dflt (M66 ()) (fun u9 => cl (r49).dflt (M49 (u9.1, ((⟨3, fun i => List.getD [((0 : Int), ()), ((1 : Int), ()), ((2 : Int), ())] i ((0 : Int), ())⟩ : Sl _), ()))) (fun u10 => cl (r66).dflt (M66 ()) (fun u11 => cl (r40).dflt (M40 (u9.1, ())) (fun u12 => bif (!(decide (u1.2.2.2.1 = (0 : Int)))) then l (some (false, ())) else bif (!(decide (u2.2.1 = (0 : Int)))) then l (some (false, ())) else bif (!(decide (u3.2.1 = (0 : Int)))) then l (some (false, ())) else bif (!(decide (u4.2.2.1 = (0 : Int)))) then l (some (false, ())) else bif (!(decide (u6.2.1 = (0 : Int)))) then l (some (false, ())) else bif (!(decide (u8.2.1 = (0 : Int)))) then l (some (false, ())) else bif (!(decide (u10.2.2.1 = (0 : Int)))) then l (some (false, ())) else bif (!(decide (u12.2.2.1 = (0 : Int)))) then l (some (false, ())) else bif (!(decide (u1.1 = (6 : Int)))) then l (some (false, ())) else bif (!(decide (u1.2.1 = (5 : Int)))) then l (some (false, ())) else bif (!(decide (u1.2.2.1 = (2 : Int)))) then l (some (false, ())) else bif (!(decide (u2.1 = (55 : Int)))) then l (some (false, ())) else bif (!(decide (u3.1 = (157600 : Int)))) then l (some (false, ())) else bif (!(decide (u4.1 = (5 : Int)))) then l (some (false, ())) else bif (!(decide (u4.2.1 = (5 : Int)))) then l (some (false, ())) else bif (!(decide (u6.1 = (3 : Int)))) then l (some (false, ())) else bif (!(decide (u8.1 = (2 : Int)))) then l (some (false, ())) else cl (r67).dflt (M67 ((⟨6, fun i => List.getD [((2 : Int), ()), ((3 : Int), ()), ((5 : Int), ()), ((6 : Int), ()), ((8 : Int), ()), ((10 : Int), ())] i ((2 : Int), ())⟩ : Sl _), ())) (fun u13 => cl (r51).dflt (M51 (u10.1, u13)) (fun u14 => bif u14.1 then bif ((decide (u10.2.1.1 = (9 : Int))) && ((decide (u10.2.1.2.1 = (11 : Int))) && true)) then cl (r42).dflt (M42 (u12.1, ((⟨3, fun i => List.getD [((0 : Int), ()), ((1 : Int), ()), ((2 : Int), ())] i ((0 : Int), ())⟩ : Sl _), ()))) (fun u15 => bif u15.1 then l (some ((decide (u12.2.1 = (11 : Int))), ())) else l (some (false, ()))) (l none) else l (some (false, ())) else l (some (false, ()))) (l none)) (l none)) (l none)) (l none)) (l none)) (l none)) (l none)) (l none)) (l none)) (l none)) (l none)) (l none)) (l none)) (l none)) (l none)
theorem q22 (x : (a22).den) : runFn Try.prog E0 G22 Try.f22 l22 a22 r22 x = Q22 .leaf .any x := by kernel_rfl
def M22 (x : (a22).den) : Option (r22).den := Q22 (fun r => r) (fun _ _ => none) x
theorem m22 (x : (a22).den) : (runFn Try.prog E0 G22 Try.f22 l22 a22 r22 x).sure = M22 x := by rw [q22]; unfold M22 Q22; simp only [sure_cond, Tree.sure, sure_cl, sure_onExit, sure_onRet, sure_onPanL, sure_onNext, sure_onBrk, sure_onRetO, sure_onPan, sure_onOk, sure_onGPan]
def p22 (x : (a22).den) : Bool := (M22 x).isSome
def v22 (x : (a22).den) : (r22).den := (M22 x).getD (r22).dflt
def k22 : Con := ⟨a22, r22, p22, v22⟩
theorem h22 : Holds Try.prog 22 k22 := holds_of_M' (E := E0) follows_ok g22 eqTy_sound keyTy_sound at22 bd22 (by kernel_rfl) m22 fun G' hlo hF hE => LsOK_kn (by rw [lo22]; exact .nil)
/-- isobar/isobarlaw09.brief -/
noncomputable def c38 : Code := Try.f38.body.getD .skip
theorem at38 : Try.prog.funcs[38]? = some Try.f38 := by kernel_rfl
theorem bd38 : Try.f38.body = some c38 := by kernel_rfl
theorem cl38 : Callable Try.prog 38 := callable_of at38 (by kernel_rfl) (by kernel_rfl)
abbrev a38 : Ty := T49
abbrev r38 : Ty := T3
noncomputable def G38 : Ctx := Ctx.of []
theorem g38 : Sound Try.prog (G38) := sound_of (fun _ h => by cases h)
noncomputable def b38x0 : Code := loopBody ((loopsOf (c38))[0]?)
theorem lo38x0 : loopsOf (b38x0) = [] := by kernel_rfl
abbrev cs38x0 : List Pat := [.slot 1 (.ptr 1), .box 1 [.pc tI, .pc (.sl T1), .pc T44]]
abbrev vs38x0 : List Pat := [.slot 3 (.pc tI)]
abbrev ps38x0 : List Pat := [.slot 1 (.ptr 1), .box 1 [.pc tI, .pc (.sl T1), .pc T44], .slot 3 (.pc tI)]
def j38x0 : (patsTy cs38x0).den → (patsTy vs38x0).den → (patsTy ps38x0).den := fun c v => (c.1, (c.2.1, v))
def sp38x0 : (patsTy ps38x0).den → (patsTy cs38x0).den × (patsTy vs38x0).den := fun x => ((x.1, (x.2.1, ())), x.2.2)
abbrev wy38x0 : Ways := ⟨[(0, [.slot 1 (.ptr 1), .box 1 [.pc tI, .pc (.sl T1), .pc T44]])], [.slot 2 (.pc .bool)], []⟩
abbrev wv38x0 : Ways := ⟨[(0, [])], [.slot 2 (.pc .bool)], []⟩
def je38x0 : (id : Nat) → (patsTy cs38x0).den → (patsTy (wayP wv38x0 id)).den → (patsTy (wayP wy38x0 id)).den := fun id => match id with | 0 => fun c y => (c.1, (c.2.1, y)) | id => fun _ _ => (patsTy (wayP wy38x0 id)).dflt
def jr38x0 : (patsTy cs38x0).den → (patsTy (wv38x0).ret).den → (patsTy (wy38x0).ret).den := fun c y => y
def jp38x0 : (patsTy cs38x0).den → (patsTy (wv38x0).pan).den → (patsTy (wy38x0).pan).den := fun c y => y
def Z38x0 {α : Type} (l : RQ vs38x0 wv38x0 → α) (an : α → α → α) (c : (patsTy cs38x0).den) (v : (patsTy vs38x0).den) : α := bif (decide (v.1 < ((c.2.1.2.2.1.n : Nat) : Int))) then bif (decide (v.1 < (10 : Int))) then bif (decide (((0 : Int) ≤ v.1) ∧ (v.1 < ((c.2.1.2.2.1.n : Nat) : Int)))) then bif (decide ((10 : Int) < (((c.2.1.2.2.1.g (Int.toNat v.1)).1.n : Nat) : Int))) then l (.out (.ret (false, ()))) else l (.next ((W (v.1 + (1 : Int))), ())) else l .bad else l (.out (.exit 0 ())) else l (.out (.exit 0 ()))
theorem z38x0 (c : (patsTy cs38x0).den) (v : (patsTy vs38x0).den) : roundQ Try.prog E0 G38 0 32 [] ps38x0 wy38x0 b38x0 [] (j38x0 c v) = Z38x0 (fun r => .leaf (r.lift j38x0 je38x0 jr38x0 jp38x0 c)) .any c v := by kernel_rfl
def S38x0 (c : (patsTy cs38x0).den) (v : (patsTy vs38x0).den) : RQ vs38x0 wv38x0 := Z38x0 (fun r => r) (fun _ _ => .bad) c v
theorem s38x0 (c : (patsTy cs38x0).den) (v : (patsTy vs38x0).den) : detQ (roundQ Try.prog E0 G38 0 32 [] ps38x0 wy38x0 b38x0 [] (j38x0 c v)) = (S38x0 c v).lift j38x0 je38x0 jr38x0 jp38x0 c := by rw [z38x0]; unfold S38x0 Z38x0; simp only [detQ_cond, lift_cond, lift_bad, detQ, detQ_cl, detQ_onExit, detQ_onRet, detQ_onPanL, detQ_onNext, detQ_onBrk, detQ_onRetO, detQ_onPan, detQ_onOk, detQ_onGPan, lift_cl, lift_onExit, lift_onRet, lift_onPanL, lift_onNext, lift_onBrk, lift_onRetO, lift_onPan, lift_onOk, lift_onGPan]
def L38x0 (c : (patsTy cs38x0).den) (v : (patsTy vs38x0).den) : LQ wv38x0 := iterQ (S38x0 c) big v
theorem lo38 : loopsOf (c38) = [.loop b38x0] := by kernel_rfl
noncomputable def l38 : List Loop := [.known (loopZ 0 [] ps38x0 fun x => spreadV wy38x0 je38x0 jr38x0 jp38x0 [] true (sp38x0 x).1 (L38x0 (sp38x0 x).1 (sp38x0 x).2) wy38x0.exits)]
def Q38 {α : Type} (l : Option (r38).den → α) (an : α → α → α) (x : (a38).den) : α := onExit (L38x0 ((), (x.1, ())) ((0 : Int), ())) 0 (fun u0 => bif (decide (((x.1.2.1.n : Nat) : Int) ≤ (9 : Int))) then l (some ((decide (((x.1.2.2.1.n : Nat) : Int) ≤ (10 : Int))), ())) else l (some (false, ()))) (onRet (L38x0 ((), (x.1, ())) ((0 : Int), ())) (fun u1 => l (some u1)) (l none))
theorem q38 (x : (a38).den) : runFn Try.prog E0 G38 Try.f38 l38 a38 r38 x = Q38 .leaf .any x := by kernel_rfl
def M38 (x : (a38).den) : Option (r38).den := Q38 (fun r => r) (fun _ _ => none) x
theorem m38 (x : (a38).den) : (runFn Try.prog E0 G38 Try.f38 l38 a38 r38 x).sure = M38 x := by rw [q38]; unfold M38 Q38; simp only [sure_cond, Tree.sure, sure_cl, sure_onExit, sure_onRet, sure_onPanL, sure_onNext, sure_onBrk, sure_onRetO, sure_onPan, sure_onOk, sure_onGPan]
def p38 (x : (a38).den) : Bool := (M38 x).isSome
def v38 (x : (a38).den) : (r38).den := (M38 x).getD (r38).dflt
def k38 : Con := ⟨a38, r38, p38, v38⟩
theorem h38 : Holds Try.prog 38 k38 := holds_of_M' (E := E0) follows_ok g38 eqTy_sound keyTy_sound at38 bd38 (by kernel_rfl) m38 fun G' hlo hF hE => LsOK_kn (by rw [lo38]; exact .cons (loopV_ok hE hF hlo (LsOK_kn (by rw [lo38x0]; exact .nil)) (by kernel_rfl) (by kernel_rfl) sp38x0 (fun _ => rfl) (fun _ _ => rfl) (s38x0) big) (.nil))
/-- isobar/isobarref09.in -/
noncomputable def c63 : Code := Try.f63.body.getD .skip
theorem at63 : Try.prog.funcs[63]? = some Try.f63 := by kernel_rfl
theorem bd63 : Try.f63.body = some c63 := by kernel_rfl
theorem cl63 : Callable Try.prog 63 := callable_of at63 (by kernel_rfl) (by kernel_rfl)
abbrev a63 : Ty := T2
abbrev r63 : Ty := T3
noncomputable def G63 : Ctx := Ctx.of []
theorem g63 : Sound Try.prog (G63) := sound_of (fun _ h => by cases h)
theorem lo63 : loopsOf (c63) = [] := by kernel_rfl
noncomputable def l63 : List Loop := []
def Q63 {α : Type} (l : Option (r63).den → α) (an : α → α → α) (x : (a63).den) : α := bif (decide (x.2.1 ≤ x.1)) then l (some ((decide (x.1 ≤ x.2.2.1)), ())) else l (some (false, ()))
theorem q63 (x : (a63).den) : runFn Try.prog E0 G63 Try.f63 l63 a63 r63 x = Q63 .leaf .any x := by kernel_rfl
def M63 (x : (a63).den) : Option (r63).den := Q63 (fun r => r) (fun _ _ => none) x
theorem m63 (x : (a63).den) : (runFn Try.prog E0 G63 Try.f63 l63 a63 r63 x).sure = M63 x := by rw [q63]; unfold M63 Q63; simp only [sure_cond, Tree.sure, sure_cl, sure_onExit, sure_onRet, sure_onPanL, sure_onNext, sure_onBrk, sure_onRetO, sure_onPan, sure_onOk, sure_onGPan]
def p63 (x : (a63).den) : Bool := (M63 x).isSome
def v63 (x : (a63).den) : (r63).den := (M63 x).getD (r63).dflt
def k63 : Con := ⟨a63, r63, p63, v63⟩
theorem h63 : Holds Try.prog 63 k63 := holds_of_M' (E := E0) follows_ok g63 eqTy_sound keyTy_sound at63 bd63 (by kernel_rfl) m63 fun G' hlo hF hE => LsOK_kn (by rw [lo63]; exact .nil)
/-- isobar/isobarref09.span -/
noncomputable def c76 : Code := Try.f76.body.getD .skip
theorem at76 : Try.prog.funcs[76]? = some Try.f76 := by kernel_rfl
theorem bd76 : Try.f76.body = some c76 := by kernel_rfl
theorem cl76 : Callable Try.prog 76 := callable_of at76 (by kernel_rfl) (by kernel_rfl)
abbrev a76 : Ty := T6
abbrev r76 : Ty := T3
noncomputable def G76 : Ctx := Ctx.of []
theorem g76 : Sound Try.prog (G76) := sound_of (fun _ h => by cases h)
theorem lo76 : loopsOf (c76) = [] := by kernel_rfl
noncomputable def l76 : List Loop := []
def Q76 {α : Type} (l : Option (r76).den → α) (an : α → α → α) (x : (a76).den) : α := bif (decide ((0 : Int) ≤ x.1.1)) then bif (decide (x.1.1 ≤ x.1.2.1)) then l (some ((decide (x.1.2.1 ≤ x.2.1)), ())) else l (some (false, ())) else l (some (false, ()))
theorem q76 (x : (a76).den) : runFn Try.prog E0 G76 Try.f76 l76 a76 r76 x = Q76 .leaf .any x := by kernel_rfl
def M76 (x : (a76).den) : Option (r76).den := Q76 (fun r => r) (fun _ _ => none) x
theorem m76 (x : (a76).den) : (runFn Try.prog E0 G76 Try.f76 l76 a76 r76 x).sure = M76 x := by rw [q76]; unfold M76 Q76; simp only [sure_cond, Tree.sure, sure_cl, sure_onExit, sure_onRet, sure_onPanL, sure_onNext, sure_onBrk, sure_onRetO, sure_onPan, sure_onOk, sure_onGPan]
def p76 (x : (a76).den) : Bool := (M76 x).isSome
def v76 (x : (a76).den) : (r76).den := (M76 x).getD (r76).dflt
def k76 : Con := ⟨a76, r76, p76, v76⟩
theorem h76 : Holds Try.prog 76 k76 := holds_of_M' (E := E0) follows_ok g76 eqTy_sound keyTy_sound at76 bd76 (by kernel_rfl) m76 fun G' hlo hF hE => LsOK_kn (by rw [lo76]; exact .nil)
/-- isobar/isobarref09.Round -/
noncomputable def c39 : Code := Try.f39.body.getD .skip
theorem at39 : Try.prog.funcs[39]? = some Try.f39 := by kernel_rfl
theorem bd39 : Try.f39.body = some c39 := by kernel_rfl
theorem cl39 : Callable Try.prog 39 := callable_of at39 (by kernel_rfl) (by kernel_rfl)
abbrev a39 : Ty := T49
abbrev r39 : Ty := T3
noncomputable def G39 : Ctx := Ctx.of [(63, .pure k63), (76, .pure k76)]
theorem g39 : Sound Try.prog (G39) := sound_of (List.forall_mem_cons.2 ⟨⟨cl63, h63⟩, List.forall_mem_cons.2 ⟨⟨cl76, h76⟩, fun _ h => by cases h⟩⟩)
noncomputable def b39x0 : Code := loopBody ((loopsOf (c39))[0]?)
theorem lo39x0 : loopsOf (b39x0) = [] := by kernel_rfl
abbrev cs39x0 : List Pat := [.slot 1 (.ptr 1), .box 1 [.pc tI, .pc (.sl T1), .pc T44]]
abbrev vs39x0 : List Pat := [.slot 3 (.pc tI)]
abbrev ps39x0 : List Pat := [.slot 1 (.ptr 1), .box 1 [.pc tI, .pc (.sl T1), .pc T44], .slot 3 (.pc tI)]
def j39x0 : (patsTy cs39x0).den → (patsTy vs39x0).den → (patsTy ps39x0).den := fun c v => (c.1, (c.2.1, v))
def sp39x0 : (patsTy ps39x0).den → (patsTy cs39x0).den × (patsTy vs39x0).den := fun x => ((x.1, (x.2.1, ())), x.2.2)
abbrev wy39x0 : Ways := ⟨[(0, [.slot 1 (.ptr 1), .box 1 [.pc tI, .pc (.sl T1), .pc T44]])], [.slot 2 (.pc .bool)], []⟩
abbrev wv39x0 : Ways := ⟨[(0, [])], [.slot 2 (.pc .bool)], []⟩
def je39x0 : (id : Nat) → (patsTy cs39x0).den → (patsTy (wayP wv39x0 id)).den → (patsTy (wayP wy39x0 id)).den := fun id => match id with | 0 => fun c y => (c.1, (c.2.1, y)) | id => fun _ _ => (patsTy (wayP wy39x0 id)).dflt
def jr39x0 : (patsTy cs39x0).den → (patsTy (wv39x0).ret).den → (patsTy (wy39x0).ret).den := fun c y => y
def jp39x0 : (patsTy cs39x0).den → (patsTy (wv39x0).pan).den → (patsTy (wy39x0).pan).den := fun c y => y
def Z39x0 {α : Type} (l : RQ vs39x0 wv39x0 → α) (an : α → α → α) (c : (patsTy cs39x0).den) (v : (patsTy vs39x0).den) : α := bif (decide (v.1 < ((c.2.1.2.1.n : Nat) : Int))) then bif (decide (((0 : Int) ≤ v.1) ∧ (v.1 < ((c.2.1.2.1.n : Nat) : Int)))) then cl (r63).dflt (M63 ((c.2.1.2.1.g (Int.toNat v.1)).1, ((0 : Int), ((10 : Int), ())))) (fun u0 => bif (!u0.1) then l (.out (.ret (false, ()))) else bif (decide (((0 : Int) ≤ v.1) ∧ (v.1 < ((c.2.1.2.1.n : Nat) : Int)))) then cl (r63).dflt (M63 ((c.2.1.2.1.g (Int.toNat v.1)).2.1, ((0 : Int), ((400 : Int), ())))) (fun u1 => bif (!u1.1) then l (.out (.ret (false, ()))) else l (.next ((W (v.1 + (1 : Int))), ()))) (l .bad) else l .bad) (l .bad) else l .bad else l (.out (.exit 0 ()))
theorem z39x0 (c : (patsTy cs39x0).den) (v : (patsTy vs39x0).den) : roundQ Try.prog E0 G39 0 89 [] ps39x0 wy39x0 b39x0 [] (j39x0 c v) = Z39x0 (fun r => .leaf (r.lift j39x0 je39x0 jr39x0 jp39x0 c)) .any c v := by kernel_rfl
def S39x0 (c : (patsTy cs39x0).den) (v : (patsTy vs39x0).den) : RQ vs39x0 wv39x0 := Z39x0 (fun r => r) (fun _ _ => .bad) c v
theorem s39x0 (c : (patsTy cs39x0).den) (v : (patsTy vs39x0).den) : detQ (roundQ Try.prog E0 G39 0 89 [] ps39x0 wy39x0 b39x0 [] (j39x0 c v)) = (S39x0 c v).lift j39x0 je39x0 jr39x0 jp39x0 c := by rw [z39x0]; unfold S39x0 Z39x0; simp only [detQ_cond, lift_cond, lift_bad, detQ, detQ_cl, detQ_onExit, detQ_onRet, detQ_onPanL, detQ_onNext, detQ_onBrk, detQ_onRetO, detQ_onPan, detQ_onOk, detQ_onGPan, lift_cl, lift_onExit, lift_onRet, lift_onPanL, lift_onNext, lift_onBrk, lift_onRetO, lift_onPan, lift_onOk, lift_onGPan]
def L39x0 (c : (patsTy cs39x0).den) (v : (patsTy vs39x0).den) : LQ wv39x0 := iterQ (S39x0 c) big v
noncomputable def b39x1 : Code := loopBody ((loopsOf (c39))[1]?)
noncomputable def b39x1x0 : Code := loopBody ((loopsOf (b39x1))[0]?)
theorem lo39x1x0 : loopsOf (b39x1x0) = [] := by kernel_rfl
abbrev cs39x1x0 : List Pat := [.slot 1 (.ptr 1), .slot 4 (.pc tI), .box 1 [.pc tI, .pc (.sl T1), .pc T44]]
abbrev vs39x1x0 : List Pat := [.slot 5 (.pc tI)]
abbrev ps39x1x0 : List Pat := [.slot 1 (.ptr 1), .slot 4 (.pc tI), .box 1 [.pc tI, .pc (.sl T1), .pc T44], .slot 5 (.pc tI)]
def j39x1x0 : (patsTy cs39x1x0).den → (patsTy vs39x1x0).den → (patsTy ps39x1x0).den := fun c v => (c.1, (c.2.1, (c.2.2.1, v)))
def sp39x1x0 : (patsTy ps39x1x0).den → (patsTy cs39x1x0).den × (patsTy vs39x1x0).den := fun x => ((x.1, (x.2.1, (x.2.2.1, ()))), x.2.2.2)
abbrev wy39x1x0 : Ways := ⟨[(4, [.slot 1 (.ptr 1), .slot 4 (.pc tI), .box 1 [.pc tI, .pc (.sl T1), .pc T44]])], [.slot 2 (.pc .bool)], []⟩
abbrev wv39x1x0 : Ways := ⟨[(4, [])], [.slot 2 (.pc .bool)], []⟩
def je39x1x0 : (id : Nat) → (patsTy cs39x1x0).den → (patsTy (wayP wv39x1x0 id)).den → (patsTy (wayP wy39x1x0 id)).den := fun id => match id with | 4 => fun c y => (c.1, (c.2.1, (c.2.2.1, y))) | id => fun _ _ => (patsTy (wayP wy39x1x0 id)).dflt
def jr39x1x0 : (patsTy cs39x1x0).den → (patsTy (wv39x1x0).ret).den → (patsTy (wy39x1x0).ret).den := fun c y => y
def jp39x1x0 : (patsTy cs39x1x0).den → (patsTy (wv39x1x0).pan).den → (patsTy (wy39x1x0).pan).den := fun c y => y
def Z39x1x0 {α : Type} (l : RQ vs39x1x0 wv39x1x0 → α) (an : α → α → α) (c : (patsTy cs39x1x0).den) (v : (patsTy vs39x1x0).den) : α := bif (decide (((0 : Int) ≤ c.2.1) ∧ (c.2.1 < ((c.2.2.1.2.2.1.n : Nat) : Int)))) then bif (decide (v.1 < (((c.2.2.1.2.2.1.g (Int.toNat c.2.1)).1.n : Nat) : Int))) then bif (decide (((0 : Int) ≤ c.2.1) ∧ (c.2.1 < ((c.2.2.1.2.2.1.n : Nat) : Int)))) then bif (decide (((0 : Int) ≤ v.1) ∧ (v.1 < (((c.2.2.1.2.2.1.g (Int.toNat c.2.1)).1.n : Nat) : Int)))) then cl (r76).dflt (M76 (((c.2.2.1.2.2.1.g (Int.toNat c.2.1)).1.g (Int.toNat v.1)), ((60 : Int), ()))) (fun u2 => bif (!u2.1) then l (.out (.ret (false, ()))) else l (.next ((W (v.1 + (1 : Int))), ()))) (l .bad) else l .bad else l .bad else l (.out (.exit 4 ())) else l .bad
theorem z39x1x0 (c : (patsTy cs39x1x0).den) (v : (patsTy vs39x1x0).den) : roundQ Try.prog E0 G39 0 89 [] ps39x1x0 wy39x1x0 b39x1x0 [] (j39x1x0 c v) = Z39x1x0 (fun r => .leaf (r.lift j39x1x0 je39x1x0 jr39x1x0 jp39x1x0 c)) .any c v := by kernel_rfl
def S39x1x0 (c : (patsTy cs39x1x0).den) (v : (patsTy vs39x1x0).den) : RQ vs39x1x0 wv39x1x0 := Z39x1x0 (fun r => r) (fun _ _ => .bad) c v
theorem s39x1x0 (c : (patsTy cs39x1x0).den) (v : (patsTy vs39x1x0).den) : detQ (roundQ Try.prog E0 G39 0 89 [] ps39x1x0 wy39x1x0 b39x1x0 [] (j39x1x0 c v)) = (S39x1x0 c v).lift j39x1x0 je39x1x0 jr39x1x0 jp39x1x0 c := by rw [z39x1x0]; unfold S39x1x0 Z39x1x0; simp only [detQ_cond, lift_cond, lift_bad, detQ, detQ_cl, detQ_onExit, detQ_onRet, detQ_onPanL, detQ_onNext, detQ_onBrk, detQ_onRetO, detQ_onPan, detQ_onOk, detQ_onGPan, lift_cl, lift_onExit, lift_onRet, lift_onPanL, lift_onNext, lift_onBrk, lift_onRetO, lift_onPan, lift_onOk, lift_onGPan]
def L39x1x0 (c : (patsTy cs39x1x0).den) (v : (patsTy vs39x1x0).den) : LQ wv39x1x0 := iterQ (S39x1x0 c) big v
theorem lo39x1 : loopsOf (b39x1) = [.loop b39x1x0] := by kernel_rfl
abbrev cs39x1 : List Pat := [.slot 1 (.ptr 1), .box 1 [.pc tI, .pc (.sl T1), .pc T44]]
abbrev vs39x1 : List Pat := [.slot 4 (.pc tI)]
abbrev ps39x1 : List Pat := [.slot 1 (.ptr 1), .box 1 [.pc tI, .pc (.sl T1), .pc T44], .slot 4 (.pc tI)]
def j39x1 : (patsTy cs39x1).den → (patsTy vs39x1).den → (patsTy ps39x1).den := fun c v => (c.1, (c.2.1, v))
def sp39x1 : (patsTy ps39x1).den → (patsTy cs39x1).den × (patsTy vs39x1).den := fun x => ((x.1, (x.2.1, ())), x.2.2)
abbrev wy39x1 : Ways := ⟨[(2, [])], [.slot 2 (.pc .bool)], []⟩
abbrev wv39x1 : Ways := ⟨[(2, [])], [.slot 2 (.pc .bool)], []⟩
def je39x1 : (id : Nat) → (patsTy cs39x1).den → (patsTy (wayP wv39x1 id)).den → (patsTy (wayP wy39x1 id)).den := fun id => match id with | 2 => fun c y => y | id => fun _ _ => (patsTy (wayP wy39x1 id)).dflt
def jr39x1 : (patsTy cs39x1).den → (patsTy (wv39x1).ret).den → (patsTy (wy39x1).ret).den := fun c y => y
def jp39x1 : (patsTy cs39x1).den → (patsTy (wv39x1).pan).den → (patsTy (wy39x1).pan).den := fun c y => y
def Z39x1 {α : Type} (l : RQ vs39x1 wv39x1 → α) (an : α → α → α) (c : (patsTy cs39x1).den) (v : (patsTy vs39x1).den) : α := bif (decide (v.1 < ((c.2.1.2.2.1.n : Nat) : Int))) then bif (decide (((0 : Int) ≤ v.1) ∧ (v.1 < ((c.2.1.2.2.1.n : Nat) : Int)))) then bif (!(decide ((((c.2.1.2.2.1.g (Int.toNat v.1)).1.n : Nat) : Int) = ((c.2.1.2.2.1.n : Nat) : Int)))) then l (.out (.ret (false, ()))) else onExit (L39x1x0 ((), (v.1, (c.2.1, ()))) ((0 : Int), ())) 4 (fun u3 => l (.next ((W (v.1 + (1 : Int))), ()))) (onRet (L39x1x0 ((), (v.1, (c.2.1, ()))) ((0 : Int), ())) (fun u4 => l (.out (.ret u4))) (l .bad)) else l .bad else l (.out (.exit 2 ()))
theorem z39x1 (c : (patsTy cs39x1).den) (v : (patsTy vs39x1).den) : roundQ Try.prog E0 G39 0 89 [] ps39x1 wy39x1 b39x1 [.known (loopZ 0 [] ps39x1x0 fun x => spreadV wy39x1x0 je39x1x0 jr39x1x0 jp39x1x0 [] true (sp39x1x0 x).1 (L39x1x0 (sp39x1x0 x).1 (sp39x1x0 x).2) wy39x1x0.exits)] (j39x1 c v) = Z39x1 (fun r => .leaf (r.lift j39x1 je39x1 jr39x1 jp39x1 c)) .any c v := by kernel_rfl
def S39x1 (c : (patsTy cs39x1).den) (v : (patsTy vs39x1).den) : RQ vs39x1 wv39x1 := Z39x1 (fun r => r) (fun _ _ => .bad) c v
theorem s39x1 (c : (patsTy cs39x1).den) (v : (patsTy vs39x1).den) : detQ (roundQ Try.prog E0 G39 0 89 [] ps39x1 wy39x1 b39x1 [.known (loopZ 0 [] ps39x1x0 fun x => spreadV wy39x1x0 je39x1x0 jr39x1x0 jp39x1x0 [] true (sp39x1x0 x).1 (L39x1x0 (sp39x1x0 x).1 (sp39x1x0 x).2) wy39x1x0.exits)] (j39x1 c v)) = (S39x1 c v).lift j39x1 je39x1 jr39x1 jp39x1 c := by rw [z39x1]; unfold S39x1 Z39x1; simp only [detQ_cond, lift_cond, lift_bad, detQ, detQ_cl, detQ_onExit, detQ_onRet, detQ_onPanL, detQ_onNext, detQ_onBrk, detQ_onRetO, detQ_onPan, detQ_onOk, detQ_onGPan, lift_cl, lift_onExit, lift_onRet, lift_onPanL, lift_onNext, lift_onBrk, lift_onRetO, lift_onPan, lift_onOk, lift_onGPan]
def L39x1 (c : (patsTy cs39x1).den) (v : (patsTy vs39x1).den) : LQ wv39x1 := iterQ (S39x1 c) big v
theorem lo39 : loopsOf (c39) = [.loop b39x0, .loop b39x1] := by kernel_rfl
noncomputable def l39 : List Loop := [.known (loopZ 0 [] ps39x0 fun x => spreadV wy39x0 je39x0 jr39x0 jp39x0 [] true (sp39x0 x).1 (L39x0 (sp39x0 x).1 (sp39x0 x).2) wy39x0.exits), .known (loopZ 0 [] ps39x1 fun x => spreadV wy39x1 je39x1 jr39x1 jp39x1 [] true (sp39x1 x).1 (L39x1 (sp39x1 x).1 (sp39x1 x).2) wy39x1.exits)]
def Q39 {α : Type} (l : Option (r39).den → α) (an : α → α → α) (x : (a39).den) : α := cl (r63).dflt (M63 (x.1.1, ((0 : Int), ((400 : Int), ())))) (fun u5 => bif (!u5.1) then l (some (false, ())) else cl (r63).dflt (M63 (((x.1.2.1.n : Nat) : Int), ((1 : Int), ((6 : Int), ())))) (fun u6 => bif (!u6.1) then l (some (false, ())) else bif (!(decide (((x.1.2.2.1.n : Nat) : Int) = (W (((x.1.2.1.n : Nat) : Int) + (1 : Int)))))) then l (some (false, ())) else onExit (L39x0 ((), (x.1, ())) ((0 : Int), ())) 0 (fun u7 => onExit (L39x1 ((), (x.1, ())) ((0 : Int), ())) 2 (fun u8 => l (some (true, ()))) (onRet (L39x1 ((), (x.1, ())) ((0 : Int), ())) (fun u9 => l (some u9)) (l none))) (onRet (L39x0 ((), (x.1, ())) ((0 : Int), ())) (fun u10 => l (some u10)) (l none))) (l none)) (l none)
theorem q39 (x : (a39).den) : runFn Try.prog E0 G39 Try.f39 l39 a39 r39 x = Q39 .leaf .any x := by kernel_rfl
def M39 (x : (a39).den) : Option (r39).den := Q39 (fun r => r) (fun _ _ => none) x
theorem m39 (x : (a39).den) : (runFn Try.prog E0 G39 Try.f39 l39 a39 r39 x).sure = M39 x := by rw [q39]; unfold M39 Q39; simp only [sure_cond, Tree.sure, sure_cl, sure_onExit, sure_onRet, sure_onPanL, sure_onNext, sure_onBrk, sure_onRetO, sure_onPan, sure_onOk, sure_onGPan]
def p39 (x : (a39).den) : Bool := (M39 x).isSome
def v39 (x : (a39).den) : (r39).den := (M39 x).getD (r39).dflt
def k39 : Con := ⟨a39, r39, p39, v39⟩
theorem h39 : Holds Try.prog 39 k39 := holds_of_M' (E := E0) follows_ok g39 eqTy_sound keyTy_sound at39 bd39 (by kernel_rfl) m39 fun G' hlo hF hE => LsOK_kn (by rw [lo39]; exact .cons (loopV_ok hE hF hlo (LsOK_kn (by rw [lo39x0]; exact .nil)) (by kernel_rfl) (by kernel_rfl) sp39x0 (fun _ => rfl) (fun _ _ => rfl) (s39x0) big) (.cons (loopV_ok hE hF hlo (LsOK_kn (by rw [lo39x1]; exact .cons (loopV_ok hE hF hlo (LsOK_kn (by rw [lo39x1x0]; exact .nil)) (by kernel_rfl) (by kernel_rfl) sp39x1x0 (fun _ => rfl) (fun _ _ => rfl) (s39x1x0) big) (.nil))) (by kernel_rfl) (by kernel_rfl) sp39x1 (fun _ => rfl) (fun _ _ => rfl) (s39x1) big) (.nil)))
abbrev T67 : Ty := (.cons tI T7)
abbrev T68 : Ty := (.fn T67 T3)
abbrev T69 : Ty := (.cons T68 .nil)
abbrev T70 : Ty := (.cons (.sl T1) T69)
abbrev T71 : Ty := (.cons (.sl T0) T70)
abbrev T72 : Ty := (.cons T48 T54)
abbrev T73 : Ty := (.cons .bool T0)
abbrev T74 : Ty := (.cons (.sl T0) T3)
abbrev T75 : Ty := (.cons T48 T74)
abbrev T76 : Ty := (.cons (.sl T1) T7)
/-- isobar/isobarref09.Agreements -/
noncomputable def c28 : Code := Try.f28.body.getD .skip
theorem at28 : Try.prog.funcs[28]? = some Try.f28 := by kernel_rfl
theorem bd28 : Try.f28.body = some c28 := by kernel_rfl
theorem cl28 : Callable Try.prog 28 := callable_of at28 (by kernel_rfl) (by kernel_rfl)
abbrev a28 : Ty := T28
abbrev r28 : Ty := T0
noncomputable def G28 : Ctx := Ctx.of []
theorem g28 : Sound Try.prog (G28) := sound_of (fun _ h => by cases h)
noncomputable def b28x0 : Code := loopBody ((loopsOf (c28))[0]?)
theorem lo28x0 : loopsOf (b28x0) = [] := by kernel_rfl
abbrev cs28x0 : List Pat := [.slot 1 (.ptr 1), .box 1 [.pc tI, .pc tI, .pc (.sl T0), .pc (.sl T0)]]
abbrev vs28x0 : List Pat := [.slot 3 (.pc tI), .slot 4 (.pc tI)]
abbrev ps28x0 : List Pat := [.slot 1 (.ptr 1), .box 1 [.pc tI, .pc tI, .pc (.sl T0), .pc (.sl T0)], .slot 3 (.pc tI), .slot 4 (.pc tI)]
def j28x0 : (patsTy cs28x0).den → (patsTy vs28x0).den → (patsTy ps28x0).den := fun c v => (c.1, (c.2.1, v))
def sp28x0 : (patsTy ps28x0).den → (patsTy cs28x0).den × (patsTy vs28x0).den := fun x => ((x.1, (x.2.1, ())), x.2.2)
abbrev wy28x0 : Ways := ⟨[(0, [.slot 3 (.pc tI)])], [], []⟩
abbrev wv28x0 : Ways := ⟨[(0, [.slot 3 (.pc tI)])], [], []⟩
def je28x0 : (id : Nat) → (patsTy cs28x0).den → (patsTy (wayP wv28x0 id)).den → (patsTy (wayP wy28x0 id)).den := fun id => match id with | 0 => fun c y => y | id => fun _ _ => (patsTy (wayP wy28x0 id)).dflt
def jr28x0 : (patsTy cs28x0).den → (patsTy (wv28x0).ret).den → (patsTy (wy28x0).ret).den := fun c y => y
def jp28x0 : (patsTy cs28x0).den → (patsTy (wv28x0).pan).den → (patsTy (wy28x0).pan).den := fun c y => y
def Z28x0 {α : Type} (l : RQ vs28x0 wv28x0 → α) (an : α → α → α) (c : (patsTy cs28x0).den) (v : (patsTy vs28x0).den) : α := bif (decide (v.2.1 < ((c.2.1.2.2.1.n : Nat) : Int))) then bif (decide (((0 : Int) ≤ v.2.1) ∧ (v.2.1 < ((c.2.1.2.2.1.n : Nat) : Int)))) then bif (decide ((0 : Int) ≤ (c.2.1.2.2.1.g (Int.toNat v.2.1)).1)) then bif (decide (((0 : Int) ≤ v.2.1) ∧ (v.2.1 < ((c.2.1.2.2.1.n : Nat) : Int)))) then bif (decide (((0 : Int) ≤ v.2.1) ∧ (v.2.1 < ((c.2.1.2.2.2.1.n : Nat) : Int)))) then bif (decide ((c.2.1.2.2.1.g (Int.toNat v.2.1)).1 = (c.2.1.2.2.2.1.g (Int.toNat v.2.1)).1)) then l (.next ((W (v.1 + (1 : Int))), ((W (v.2.1 + (1 : Int))), ()))) else l (.next (v.1, ((W (v.2.1 + (1 : Int))), ()))) else l .bad else l .bad else l (.next (v.1, ((W (v.2.1 + (1 : Int))), ()))) else l .bad else l (.out (.exit 0 (v.1, ())))
theorem z28x0 (c : (patsTy cs28x0).den) (v : (patsTy vs28x0).den) : roundQ Try.prog E0 G28 0 34 [] ps28x0 wy28x0 b28x0 [] (j28x0 c v) = Z28x0 (fun r => .leaf (r.lift j28x0 je28x0 jr28x0 jp28x0 c)) .any c v := by kernel_rfl
def S28x0 (c : (patsTy cs28x0).den) (v : (patsTy vs28x0).den) : RQ vs28x0 wv28x0 := Z28x0 (fun r => r) (fun _ _ => .bad) c v
theorem s28x0 (c : (patsTy cs28x0).den) (v : (patsTy vs28x0).den) : detQ (roundQ Try.prog E0 G28 0 34 [] ps28x0 wy28x0 b28x0 [] (j28x0 c v)) = (S28x0 c v).lift j28x0 je28x0 jr28x0 jp28x0 c := by rw [z28x0]; unfold S28x0 Z28x0; simp only [detQ_cond, lift_cond, lift_bad, detQ, detQ_cl, detQ_onExit, detQ_onRet, detQ_onPanL, detQ_onNext, detQ_onBrk, detQ_onRetO, detQ_onPan, detQ_onOk, detQ_onGPan, lift_cl, lift_onExit, lift_onRet, lift_onPanL, lift_onNext, lift_onBrk, lift_onRetO, lift_onPan, lift_onOk, lift_onGPan]
def L28x0 (c : (patsTy cs28x0).den) (v : (patsTy vs28x0).den) : LQ wv28x0 := iterQ (S28x0 c) big v
theorem lo28 : loopsOf (c28) = [.loop b28x0] := by kernel_rfl
noncomputable def l28 : List Loop := [.known (loopZ 0 [] ps28x0 fun x => spreadV wy28x0 je28x0 jr28x0 jp28x0 [] false (sp28x0 x).1 (L28x0 (sp28x0 x).1 (sp28x0 x).2) wy28x0.exits)]
def Q28 {α : Type} (l : Option (r28).den → α) (an : α → α → α) (x : (a28).den) : α := onExit (L28x0 ((), (x.1, ())) ((0 : Int), ((0 : Int), ()))) 0 (fun u0 => l (some u0)) (l none)
theorem q28 (x : (a28).den) : runFn Try.prog E0 G28 Try.f28 l28 a28 r28 x = Q28 .leaf .any x := by kernel_rfl
def M28 (x : (a28).den) : Option (r28).den := Q28 (fun r => r) (fun _ _ => none) x
theorem m28 (x : (a28).den) : (runFn Try.prog E0 G28 Try.f28 l28 a28 r28 x).sure = M28 x := by rw [q28]; unfold M28 Q28; simp only [sure_cond, Tree.sure, sure_cl, sure_onExit, sure_onRet, sure_onPanL, sure_onNext, sure_onBrk, sure_onRetO, sure_onPan, sure_onOk, sure_onGPan]
def p28 (x : (a28).den) : Bool := (M28 x).isSome
def v28 (x : (a28).den) : (r28).den := (M28 x).getD (r28).dflt
def k28 : Con := ⟨a28, r28, p28, v28⟩
theorem h28 : Holds Try.prog 28 k28 := holds_of_M' (E := E0) follows_ok g28 eqTy_sound keyTy_sound at28 bd28 (by kernel_rfl) m28 fun G' hlo hF hE => LsOK_kn (by rw [lo28]; exact .cons (loopV_ok hE hF hlo (LsOK_kn (by rw [lo28x0]; exact .nil)) (by kernel_rfl) (by kernel_rfl) sp28x0 (fun _ => rfl) (fun _ _ => rfl) (s28x0) big) (.nil))
/-- isobar/isobarref09.Favourite -/
noncomputable def c29 : Code := Try.f29.body.getD .skip
theorem at29 : Try.prog.funcs[29]? = some Try.f29 := by kernel_rfl
theorem bd29 : Try.f29.body = some c29 := by kernel_rfl
theorem cl29 : Callable Try.prog 29 := callable_of at29 (by kernel_rfl) (by kernel_rfl)
abbrev a29 : Ty := T28
abbrev r29 : Ty := T0
noncomputable def G29 : Ctx := Ctx.of []
theorem g29 : Sound Try.prog (G29) := sound_of (fun _ h => by cases h)
noncomputable def b29x0 : Code := loopBody ((loopsOf (c29))[0]?)
noncomputable def b29x0x0 : Code := loopBody ((loopsOf (b29x0))[0]?)
theorem lo29x0x0 : loopsOf (b29x0x0) = [] := by kernel_rfl
abbrev cs29x0x0 : List Pat := [.slot 1 (.ptr 1), .slot 3 (.pc tI), .slot 4 (.pc tI), .box 1 [.pc tI, .pc tI, .pc (.sl T0), .pc (.sl T0)]]
abbrev vs29x0x0 : List Pat := [.slot 5 (.pc tI), .slot 6 (.pc tI)]
abbrev ps29x0x0 : List Pat := [.slot 1 (.ptr 1), .slot 3 (.pc tI), .slot 4 (.pc tI), .box 1 [.pc tI, .pc tI, .pc (.sl T0), .pc (.sl T0)], .slot 5 (.pc tI), .slot 6 (.pc tI)]
def j29x0x0 : (patsTy cs29x0x0).den → (patsTy vs29x0x0).den → (patsTy ps29x0x0).den := fun c v => (c.1, (c.2.1, (c.2.2.1, (c.2.2.2.1, v))))
def sp29x0x0 : (patsTy ps29x0x0).den → (patsTy cs29x0x0).den × (patsTy vs29x0x0).den := fun x => ((x.1, (x.2.1, (x.2.2.1, (x.2.2.2.1, ())))), x.2.2.2.2)
abbrev wy29x0x0 : Ways := ⟨[(2, [.slot 1 (.ptr 1), .slot 3 (.pc tI), .slot 4 (.pc tI), .box 1 [.pc tI, .pc tI, .pc (.sl T0), .pc (.sl T0)], .slot 5 (.pc tI)])], [], []⟩
abbrev wv29x0x0 : Ways := ⟨[(2, [.slot 5 (.pc tI)])], [], []⟩
def je29x0x0 : (id : Nat) → (patsTy cs29x0x0).den → (patsTy (wayP wv29x0x0 id)).den → (patsTy (wayP wy29x0x0 id)).den := fun id => match id with | 2 => fun c y => (c.1, (c.2.1, (c.2.2.1, (c.2.2.2.1, y)))) | id => fun _ _ => (patsTy (wayP wy29x0x0 id)).dflt
def jr29x0x0 : (patsTy cs29x0x0).den → (patsTy (wv29x0x0).ret).den → (patsTy (wy29x0x0).ret).den := fun c y => y
def jp29x0x0 : (patsTy cs29x0x0).den → (patsTy (wv29x0x0).pan).den → (patsTy (wy29x0x0).pan).den := fun c y => y
def Z29x0x0 {α : Type} (l : RQ vs29x0x0 wv29x0x0 → α) (an : α → α → α) (c : (patsTy cs29x0x0).den) (v : (patsTy vs29x0x0).den) : α := bif (decide (v.2.1 < ((c.2.2.2.1.2.2.1.n : Nat) : Int))) then bif (decide (((0 : Int) ≤ v.2.1) ∧ (v.2.1 < ((c.2.2.2.1.2.2.1.n : Nat) : Int)))) then bif (decide ((c.2.2.2.1.2.2.1.g (Int.toNat v.2.1)).1 = c.2.2.1)) then bif (decide (((0 : Int) ≤ v.2.1) ∧ (v.2.1 < ((c.2.2.2.1.2.2.2.1.n : Nat) : Int)))) then bif (decide ((0 : Int) ≤ (c.2.2.2.1.2.2.2.1.g (Int.toNat v.2.1)).1)) then l (.next ((W (v.1 + (1 : Int))), ((W (v.2.1 + (1 : Int))), ()))) else l (.next (v.1, ((W (v.2.1 + (1 : Int))), ()))) else l .bad else l (.next (v.1, ((W (v.2.1 + (1 : Int))), ()))) else l .bad else l (.out (.exit 2 (v.1, ())))
theorem z29x0x0 (c : (patsTy cs29x0x0).den) (v : (patsTy vs29x0x0).den) : roundQ Try.prog E0 G29 0 41 [] ps29x0x0 wy29x0x0 b29x0x0 [] (j29x0x0 c v) = Z29x0x0 (fun r => .leaf (r.lift j29x0x0 je29x0x0 jr29x0x0 jp29x0x0 c)) .any c v := by kernel_rfl
def S29x0x0 (c : (patsTy cs29x0x0).den) (v : (patsTy vs29x0x0).den) : RQ vs29x0x0 wv29x0x0 := Z29x0x0 (fun r => r) (fun _ _ => .bad) c v
theorem s29x0x0 (c : (patsTy cs29x0x0).den) (v : (patsTy vs29x0x0).den) : detQ (roundQ Try.prog E0 G29 0 41 [] ps29x0x0 wy29x0x0 b29x0x0 [] (j29x0x0 c v)) = (S29x0x0 c v).lift j29x0x0 je29x0x0 jr29x0x0 jp29x0x0 c := by rw [z29x0x0]; unfold S29x0x0 Z29x0x0; simp only [detQ_cond, lift_cond, lift_bad, detQ, detQ_cl, detQ_onExit, detQ_onRet, detQ_onPanL, detQ_onNext, detQ_onBrk, detQ_onRetO, detQ_onPan, detQ_onOk, detQ_onGPan, lift_cl, lift_onExit, lift_onRet, lift_onPanL, lift_onNext, lift_onBrk, lift_onRetO, lift_onPan, lift_onOk, lift_onGPan]
def L29x0x0 (c : (patsTy cs29x0x0).den) (v : (patsTy vs29x0x0).den) : LQ wv29x0x0 := iterQ (S29x0x0 c) big v
theorem lo29x0 : loopsOf (b29x0) = [.loop b29x0x0] := by kernel_rfl
abbrev cs29x0 : List Pat := [.slot 1 (.ptr 1), .box 1 [.pc tI, .pc tI, .pc (.sl T0), .pc (.sl T0)]]
abbrev vs29x0 : List Pat := [.slot 3 (.pc tI), .slot 4 (.pc tI)]
abbrev ps29x0 : List Pat := [.slot 1 (.ptr 1), .box 1 [.pc tI, .pc tI, .pc (.sl T0), .pc (.sl T0)], .slot 3 (.pc tI), .slot 4 (.pc tI)]
def j29x0 : (patsTy cs29x0).den → (patsTy vs29x0).den → (patsTy ps29x0).den := fun c v => (c.1, (c.2.1, v))
def sp29x0 : (patsTy ps29x0).den → (patsTy cs29x0).den × (patsTy vs29x0).den := fun x => ((x.1, (x.2.1, ())), x.2.2)
abbrev wy29x0 : Ways := ⟨[(0, [.slot 3 (.pc tI)])], [], []⟩
abbrev wv29x0 : Ways := ⟨[(0, [.slot 3 (.pc tI)])], [], []⟩
def je29x0 : (id : Nat) → (patsTy cs29x0).den → (patsTy (wayP wv29x0 id)).den → (patsTy (wayP wy29x0 id)).den := fun id => match id with | 0 => fun c y => y | id => fun _ _ => (patsTy (wayP wy29x0 id)).dflt
def jr29x0 : (patsTy cs29x0).den → (patsTy (wv29x0).ret).den → (patsTy (wy29x0).ret).den := fun c y => y
def jp29x0 : (patsTy cs29x0).den → (patsTy (wv29x0).pan).den → (patsTy (wy29x0).pan).den := fun c y => y
def Z29x0 {α : Type} (l : RQ vs29x0 wv29x0 → α) (an : α → α → α) (c : (patsTy cs29x0).den) (v : (patsTy vs29x0).den) : α := bif (decide (v.2.1 < c.2.1.1)) then onExit (L29x0x0 ((), (v.1, (v.2.1, (c.2.1, ())))) ((0 : Int), ((0 : Int), ()))) 2 (fun u0 => l (.next ((mx v.1 u0.1), ((W (v.2.1 + (1 : Int))), ())))) (l .bad) else l (.out (.exit 0 (v.1, ())))
theorem z29x0 (c : (patsTy cs29x0).den) (v : (patsTy vs29x0).den) : roundQ Try.prog E0 G29 0 41 [] ps29x0 wy29x0 b29x0 [.known (loopZ 0 [] ps29x0x0 fun x => spreadV wy29x0x0 je29x0x0 jr29x0x0 jp29x0x0 [] false (sp29x0x0 x).1 (L29x0x0 (sp29x0x0 x).1 (sp29x0x0 x).2) wy29x0x0.exits)] (j29x0 c v) = Z29x0 (fun r => .leaf (r.lift j29x0 je29x0 jr29x0 jp29x0 c)) .any c v := by kernel_rfl
def S29x0 (c : (patsTy cs29x0).den) (v : (patsTy vs29x0).den) : RQ vs29x0 wv29x0 := Z29x0 (fun r => r) (fun _ _ => .bad) c v
theorem s29x0 (c : (patsTy cs29x0).den) (v : (patsTy vs29x0).den) : detQ (roundQ Try.prog E0 G29 0 41 [] ps29x0 wy29x0 b29x0 [.known (loopZ 0 [] ps29x0x0 fun x => spreadV wy29x0x0 je29x0x0 jr29x0x0 jp29x0x0 [] false (sp29x0x0 x).1 (L29x0x0 (sp29x0x0 x).1 (sp29x0x0 x).2) wy29x0x0.exits)] (j29x0 c v)) = (S29x0 c v).lift j29x0 je29x0 jr29x0 jp29x0 c := by rw [z29x0]; unfold S29x0 Z29x0; simp only [detQ_cond, lift_cond, lift_bad, detQ, detQ_cl, detQ_onExit, detQ_onRet, detQ_onPanL, detQ_onNext, detQ_onBrk, detQ_onRetO, detQ_onPan, detQ_onOk, detQ_onGPan, lift_cl, lift_onExit, lift_onRet, lift_onPanL, lift_onNext, lift_onBrk, lift_onRetO, lift_onPan, lift_onOk, lift_onGPan]
def L29x0 (c : (patsTy cs29x0).den) (v : (patsTy vs29x0).den) : LQ wv29x0 := iterQ (S29x0 c) big v
theorem lo29 : loopsOf (c29) = [.loop b29x0] := by kernel_rfl
noncomputable def l29 : List Loop := [.known (loopZ 0 [] ps29x0 fun x => spreadV wy29x0 je29x0 jr29x0 jp29x0 [] false (sp29x0 x).1 (L29x0 (sp29x0 x).1 (sp29x0 x).2) wy29x0.exits)]
def Q29 {α : Type} (l : Option (r29).den → α) (an : α → α → α) (x : (a29).den) : α := onExit (L29x0 ((), (x.1, ())) ((0 : Int), ((0 : Int), ()))) 0 (fun u1 => l (some u1)) (l none)
theorem q29 (x : (a29).den) : runFn Try.prog E0 G29 Try.f29 l29 a29 r29 x = Q29 .leaf .any x := by kernel_rfl
def M29 (x : (a29).den) : Option (r29).den := Q29 (fun r => r) (fun _ _ => none) x
theorem m29 (x : (a29).den) : (runFn Try.prog E0 G29 Try.f29 l29 a29 r29 x).sure = M29 x := by rw [q29]; unfold M29 Q29; simp only [sure_cond, Tree.sure, sure_cl, sure_onExit, sure_onRet, sure_onPanL, sure_onNext, sure_onBrk, sure_onRetO, sure_onPan, sure_onOk, sure_onGPan]
def p29 (x : (a29).den) : Bool := (M29 x).isSome
def v29 (x : (a29).den) : (r29).den := (M29 x).getD (r29).dflt
def k29 : Con := ⟨a29, r29, p29, v29⟩
theorem h29 : Holds Try.prog 29 k29 := holds_of_M' (E := E0) follows_ok g29 eqTy_sound keyTy_sound at29 bd29 (by kernel_rfl) m29 fun G' hlo hF hE => LsOK_kn (by rw [lo29]; exact .cons (loopV_ok hE hF hlo (LsOK_kn (by rw [lo29x0]; exact .cons (loopV_ok hE hF hlo (LsOK_kn (by rw [lo29x0x0]; exact .nil)) (by kernel_rfl) (by kernel_rfl) sp29x0x0 (fun _ => rfl) (fun _ _ => rfl) (s29x0x0) big) (.nil))) (by kernel_rfl) (by kernel_rfl) sp29x0 (fun _ => rfl) (fun _ _ => rfl) (s29x0) big) (.nil))
/-- isobar/isobarlaw09.short -/
noncomputable def c33 : Code := Try.f33.body.getD .skip
theorem at33 : Try.prog.funcs[33]? = some Try.f33 := by kernel_rfl
theorem bd33 : Try.f33.body = some c33 := by kernel_rfl
theorem cl33 : Callable Try.prog 33 := callable_of at33 (by kernel_rfl) (by kernel_rfl)
abbrev a33 : Ty := T28
abbrev r33 : Ty := T3
noncomputable def G33 : Ctx := Ctx.of []
theorem g33 : Sound Try.prog (G33) := sound_of (fun _ h => by cases h)
theorem lo33 : loopsOf (c33) = [] := by kernel_rfl
noncomputable def l33 : List Loop := []
def Q33 {α : Type} (l : Option (r33).den → α) (an : α → α → α) (x : (a33).den) : α := bif (decide (((x.1.2.2.1.n : Nat) : Int) ≤ (24 : Int))) then l (some ((decide (((x.1.2.2.2.1.n : Nat) : Int) ≤ (24 : Int))), ())) else l (some (false, ()))
theorem q33 (x : (a33).den) : runFn Try.prog E0 G33 Try.f33 l33 a33 r33 x = Q33 .leaf .any x := by kernel_rfl
def M33 (x : (a33).den) : Option (r33).den := Q33 (fun r => r) (fun _ _ => none) x
theorem m33 (x : (a33).den) : (runFn Try.prog E0 G33 Try.f33 l33 a33 r33 x).sure = M33 x := by rw [q33]; unfold M33 Q33; simp only [sure_cond, Tree.sure, sure_cl, sure_onExit, sure_onRet, sure_onPanL, sure_onNext, sure_onBrk, sure_onRetO, sure_onPan, sure_onOk, sure_onGPan]
def p33 (x : (a33).den) : Bool := (M33 x).isSome
def v33 (x : (a33).den) : (r33).den := (M33 x).getD (r33).dflt
def k33 : Con := ⟨a33, r33, p33, v33⟩
theorem h33 : Holds Try.prog 33 k33 := holds_of_M' (E := E0) follows_ok g33 eqTy_sound keyTy_sound at33 bd33 (by kernel_rfl) m33 fun G' hlo hF hE => LsOK_kn (by rw [lo33]; exact .nil)
/-- isobar/isobarref09.Base -/
noncomputable def c19 : Code := Try.f19.body.getD .skip
theorem at19 : Try.prog.funcs[19]? = some Try.f19 := by kernel_rfl
theorem bd19 : Try.f19.body = some c19 := by kernel_rfl
theorem cl19 : Callable Try.prog 19 := callable_of at19 (by kernel_rfl) (by kernel_rfl)
abbrev a19 : Ty := T0
abbrev r19 : Ty := T3
noncomputable def G19 : Ctx := Ctx.of [(63, .pure k63)]
theorem g19 : Sound Try.prog (G19) := sound_of (List.forall_mem_cons.2 ⟨⟨cl63, h63⟩, fun _ h => by cases h⟩)
theorem lo19 : loopsOf (c19) = [] := by kernel_rfl
noncomputable def l19 : List Loop := []
def Q19 {α : Type} (l : Option (r19).den → α) (an : α → α → α) (x : (a19).den) : α := cl (r63).dflt (M63 (x.1, ((2 : Int), ((10 : Int), ())))) (fun u0 => l (some u0)) (l none)
theorem q19 (x : (a19).den) : runFn Try.prog E0 G19 Try.f19 l19 a19 r19 x = Q19 .leaf .any x := by kernel_rfl
def M19 (x : (a19).den) : Option (r19).den := Q19 (fun r => r) (fun _ _ => none) x
theorem m19 (x : (a19).den) : (runFn Try.prog E0 G19 Try.f19 l19 a19 r19 x).sure = M19 x := by rw [q19]; unfold M19 Q19; simp only [sure_cond, Tree.sure, sure_cl, sure_onExit, sure_onRet, sure_onPanL, sure_onNext, sure_onBrk, sure_onRetO, sure_onPan, sure_onOk, sure_onGPan]
def p19 (x : (a19).den) : Bool := (M19 x).isSome
def v19 (x : (a19).den) : (r19).den := (M19 x).getD (r19).dflt
def k19 : Con := ⟨a19, r19, p19, v19⟩
theorem h19 : Holds Try.prog 19 k19 := holds_of_M' (E := E0) follows_ok g19 eqTy_sound keyTy_sound at19 bd19 (by kernel_rfl) m19 fun G' hlo hF hE => LsOK_kn (by rw [lo19]; exact .nil)
/-- isobar/isobarref09.Days -/
noncomputable def c20 : Code := Try.f20.body.getD .skip
theorem at20 : Try.prog.funcs[20]? = some Try.f20 := by kernel_rfl
theorem bd20 : Try.f20.body = some c20 := by kernel_rfl
theorem cl20 : Callable Try.prog 20 := callable_of at20 (by kernel_rfl) (by kernel_rfl)
abbrev a20 : Ty := T0
abbrev r20 : Ty := T3
noncomputable def G20 : Ctx := Ctx.of [(63, .pure k63)]
theorem g20 : Sound Try.prog (G20) := sound_of (List.forall_mem_cons.2 ⟨⟨cl63, h63⟩, fun _ h => by cases h⟩)
theorem lo20 : loopsOf (c20) = [] := by kernel_rfl
noncomputable def l20 : List Loop := []
def Q20 {α : Type} (l : Option (r20).den → α) (an : α → α → α) (x : (a20).den) : α := cl (r63).dflt (M63 (x.1, ((0 : Int), ((18 : Int), ())))) (fun u0 => l (some u0)) (l none)
theorem q20 (x : (a20).den) : runFn Try.prog E0 G20 Try.f20 l20 a20 r20 x = Q20 .leaf .any x := by kernel_rfl
def M20 (x : (a20).den) : Option (r20).den := Q20 (fun r => r) (fun _ _ => none) x
theorem m20 (x : (a20).den) : (runFn Try.prog E0 G20 Try.f20 l20 a20 r20 x).sure = M20 x := by rw [q20]; unfold M20 Q20; simp only [sure_cond, Tree.sure, sure_cl, sure_onExit, sure_onRet, sure_onPanL, sure_onNext, sure_onBrk, sure_onRetO, sure_onPan, sure_onOk, sure_onGPan]
def p20 (x : (a20).den) : Bool := (M20 x).isSome
def v20 (x : (a20).den) : (r20).den := (M20 x).getD (r20).dflt
def k20 : Con := ⟨a20, r20, p20, v20⟩
theorem h20 : Holds Try.prog 20 k20 := holds_of_M' (E := E0) follows_ok g20 eqTy_sound keyTy_sound at20 bd20 (by kernel_rfl) m20 fun G' hlo hF hE => LsOK_kn (by rw [lo20]; exact .nil)
/-- isobar/isobarref09.Odds -/
noncomputable def c31 : Code := Try.f31.body.getD .skip
theorem at31 : Try.prog.funcs[31]? = some Try.f31 := by kernel_rfl
theorem bd31 : Try.f31.body = some c31 := by kernel_rfl
theorem cl31 : Callable Try.prog 31 := callable_of at31 (by kernel_rfl) (by kernel_rfl)
abbrev a31 : Ty := T0
abbrev r31 : Ty := T3
noncomputable def G31 : Ctx := Ctx.of [(63, .pure k63)]
theorem g31 : Sound Try.prog (G31) := sound_of (List.forall_mem_cons.2 ⟨⟨cl63, h63⟩, fun _ h => by cases h⟩)
theorem lo31 : loopsOf (c31) = [] := by kernel_rfl
noncomputable def l31 : List Loop := []
def Q31 {α : Type} (l : Option (r31).den → α) (an : α → α → α) (x : (a31).den) : α := cl (r63).dflt (M63 (x.1, ((1 : Int), ((1000000 : Int), ())))) (fun u0 => l (some u0)) (l none)
theorem q31 (x : (a31).den) : runFn Try.prog E0 G31 Try.f31 l31 a31 r31 x = Q31 .leaf .any x := by kernel_rfl
def M31 (x : (a31).den) : Option (r31).den := Q31 (fun r => r) (fun _ _ => none) x
theorem m31 (x : (a31).den) : (runFn Try.prog E0 G31 Try.f31 l31 a31 r31 x).sure = M31 x := by rw [q31]; unfold M31 Q31; simp only [sure_cond, Tree.sure, sure_cl, sure_onExit, sure_onRet, sure_onPanL, sure_onNext, sure_onBrk, sure_onRetO, sure_onPan, sure_onOk, sure_onGPan]
def p31 (x : (a31).den) : Bool := (M31 x).isSome
def v31 (x : (a31).den) : (r31).den := (M31 x).getD (r31).dflt
def k31 : Con := ⟨a31, r31, p31, v31⟩
theorem h31 : Holds Try.prog 31 k31 := holds_of_M' (E := E0) follows_ok g31 eqTy_sound keyTy_sound at31 bd31 (by kernel_rfl) m31 fun G' hlo hF hE => LsOK_kn (by rw [lo31]; exact .nil)
/-- isobar/isobarref09.Log -/
noncomputable def c35 : Code := Try.f35.body.getD .skip
theorem at35 : Try.prog.funcs[35]? = some Try.f35 := by kernel_rfl
theorem bd35 : Try.f35.body = some c35 := by kernel_rfl
theorem cl35 : Callable Try.prog 35 := callable_of at35 (by kernel_rfl) (by kernel_rfl)
abbrev a35 : Ty := T28
abbrev r35 : Ty := T3
noncomputable def G35 : Ctx := Ctx.of [(19, .pure k19), (20, .pure k20), (31, .pure k31), (63, .pure k63)]
theorem g35 : Sound Try.prog (G35) := sound_of (List.forall_mem_cons.2 ⟨⟨cl19, h19⟩, List.forall_mem_cons.2 ⟨⟨cl20, h20⟩, List.forall_mem_cons.2 ⟨⟨cl31, h31⟩, List.forall_mem_cons.2 ⟨⟨cl63, h63⟩, fun _ h => by cases h⟩⟩⟩⟩)
noncomputable def b35x0 : Code := loopBody ((loopsOf (c35))[0]?)
theorem lo35x0 : loopsOf (b35x0) = [] := by kernel_rfl
abbrev cs35x0 : List Pat := [.slot 1 (.ptr 1), .box 1 [.pc tI, .pc tI, .pc (.sl T0), .pc (.sl T0)]]
abbrev vs35x0 : List Pat := [.slot 3 (.pc tI)]
abbrev ps35x0 : List Pat := [.slot 1 (.ptr 1), .box 1 [.pc tI, .pc tI, .pc (.sl T0), .pc (.sl T0)], .slot 3 (.pc tI)]
def j35x0 : (patsTy cs35x0).den → (patsTy vs35x0).den → (patsTy ps35x0).den := fun c v => (c.1, (c.2.1, v))
def sp35x0 : (patsTy ps35x0).den → (patsTy cs35x0).den × (patsTy vs35x0).den := fun x => ((x.1, (x.2.1, ())), x.2.2)
abbrev wy35x0 : Ways := ⟨[(0, [])], [.slot 2 (.pc .bool)], []⟩
abbrev wv35x0 : Ways := ⟨[(0, [])], [.slot 2 (.pc .bool)], []⟩
def je35x0 : (id : Nat) → (patsTy cs35x0).den → (patsTy (wayP wv35x0 id)).den → (patsTy (wayP wy35x0 id)).den := fun id => match id with | 0 => fun c y => y | id => fun _ _ => (patsTy (wayP wy35x0 id)).dflt
def jr35x0 : (patsTy cs35x0).den → (patsTy (wv35x0).ret).den → (patsTy (wy35x0).ret).den := fun c y => y
def jp35x0 : (patsTy cs35x0).den → (patsTy (wv35x0).pan).den → (patsTy (wy35x0).pan).den := fun c y => y
def Z35x0 {α : Type} (l : RQ vs35x0 wv35x0 → α) (an : α → α → α) (c : (patsTy cs35x0).den) (v : (patsTy vs35x0).den) : α := bif (decide (v.1 < ((c.2.1.2.2.1.n : Nat) : Int))) then bif (decide (((0 : Int) ≤ v.1) ∧ (v.1 < ((c.2.1.2.2.1.n : Nat) : Int)))) then cl (r63).dflt (M63 ((c.2.1.2.2.1.g (Int.toNat v.1)).1, ((-1 : Int), ((W (c.2.1.1 - (1 : Int))), ())))) (fun u0 => bif (!u0.1) then l (.out (.ret (false, ()))) else bif (decide (((0 : Int) ≤ v.1) ∧ (v.1 < ((c.2.1.2.2.2.1.n : Nat) : Int)))) then cl (r63).dflt (M63 ((c.2.1.2.2.2.1.g (Int.toNat v.1)).1, ((-1 : Int), ((W (c.2.1.1 - (1 : Int))), ())))) (fun u1 => bif (!u1.1) then l (.out (.ret (false, ()))) else l (.next ((W (v.1 + (1 : Int))), ()))) (l .bad) else l .bad) (l .bad) else l .bad else l (.out (.exit 0 ()))
theorem z35x0 (c : (patsTy cs35x0).den) (v : (patsTy vs35x0).den) : roundQ Try.prog E0 G35 0 59 [] ps35x0 wy35x0 b35x0 [] (j35x0 c v) = Z35x0 (fun r => .leaf (r.lift j35x0 je35x0 jr35x0 jp35x0 c)) .any c v := by kernel_rfl
def S35x0 (c : (patsTy cs35x0).den) (v : (patsTy vs35x0).den) : RQ vs35x0 wv35x0 := Z35x0 (fun r => r) (fun _ _ => .bad) c v
theorem s35x0 (c : (patsTy cs35x0).den) (v : (patsTy vs35x0).den) : detQ (roundQ Try.prog E0 G35 0 59 [] ps35x0 wy35x0 b35x0 [] (j35x0 c v)) = (S35x0 c v).lift j35x0 je35x0 jr35x0 jp35x0 c := by rw [z35x0]; unfold S35x0 Z35x0; simp only [detQ_cond, lift_cond, lift_bad, detQ, detQ_cl, detQ_onExit, detQ_onRet, detQ_onPanL, detQ_onNext, detQ_onBrk, detQ_onRetO, detQ_onPan, detQ_onOk, detQ_onGPan, lift_cl, lift_onExit, lift_onRet, lift_onPanL, lift_onNext, lift_onBrk, lift_onRetO, lift_onPan, lift_onOk, lift_onGPan]
def L35x0 (c : (patsTy cs35x0).den) (v : (patsTy vs35x0).den) : LQ wv35x0 := iterQ (S35x0 c) big v
theorem lo35 : loopsOf (c35) = [.loop b35x0] := by kernel_rfl
noncomputable def l35 : List Loop := [.known (loopZ 0 [] ps35x0 fun x => spreadV wy35x0 je35x0 jr35x0 jp35x0 [] true (sp35x0 x).1 (L35x0 (sp35x0 x).1 (sp35x0 x).2) wy35x0.exits)]
def Q35 {α : Type} (l : Option (r35).den → α) (an : α → α → α) (x : (a35).den) : α := cl (r19).dflt (M19 (x.1.1, ())) (fun u2 => bif (!u2.1) then l (some (false, ())) else cl (r31).dflt (M31 (x.1.2.1, ())) (fun u3 => bif (!u3.1) then l (some (false, ())) else bif (!(decide (((x.1.2.2.1.n : Nat) : Int) = ((x.1.2.2.2.1.n : Nat) : Int)))) then l (some (false, ())) else cl (r20).dflt (M20 (((x.1.2.2.1.n : Nat) : Int), ())) (fun u4 => bif (!u4.1) then l (some (false, ())) else onExit (L35x0 ((), (x.1, ())) ((0 : Int), ())) 0 (fun u5 => l (some (true, ()))) (onRet (L35x0 ((), (x.1, ())) ((0 : Int), ())) (fun u6 => l (some u6)) (l none))) (l none)) (l none)) (l none)
theorem q35 (x : (a35).den) : runFn Try.prog E0 G35 Try.f35 l35 a35 r35 x = Q35 .leaf .any x := by kernel_rfl
def M35 (x : (a35).den) : Option (r35).den := Q35 (fun r => r) (fun _ _ => none) x
theorem m35 (x : (a35).den) : (runFn Try.prog E0 G35 Try.f35 l35 a35 r35 x).sure = M35 x := by rw [q35]; unfold M35 Q35; simp only [sure_cond, Tree.sure, sure_cl, sure_onExit, sure_onRet, sure_onPanL, sure_onNext, sure_onBrk, sure_onRetO, sure_onPan, sure_onOk, sure_onGPan]
def p35 (x : (a35).den) : Bool := (M35 x).isSome
def v35 (x : (a35).den) : (r35).den := (M35 x).getD (r35).dflt
def k35 : Con := ⟨a35, r35, p35, v35⟩
theorem h35 : Holds Try.prog 35 k35 := holds_of_M' (E := E0) follows_ok g35 eqTy_sound keyTy_sound at35 bd35 (by kernel_rfl) m35 fun G' hlo hF hE => LsOK_kn (by rw [lo35]; exact .cons (loopV_ok hE hF hlo (LsOK_kn (by rw [lo35x0]; exact .nil)) (by kernel_rfl) (by kernel_rfl) sp35x0 (fun _ => rfl) (fun _ _ => rfl) (s35x0) big) (.nil))
/-- isobar/watch.Check -/
noncomputable def c44 : Code := Try.f44.body.getD .skip
theorem at44 : Try.prog.funcs[44]? = some Try.f44 := by kernel_rfl
theorem bd44 : Try.f44.body = some c44 := by kernel_rfl
theorem cl44 : Callable Try.prog 44 := callable_of at44 (by kernel_rfl) (by kernel_rfl)
abbrev a44 : Ty := T28
abbrev r44 : Ty := T0
noncomputable def G44 : Ctx := Ctx.of [(74, .pure k74)]
theorem g44 : Sound Try.prog (G44) := sound_of (List.forall_mem_cons.2 ⟨⟨cl74, h74⟩, fun _ h => by cases h⟩)
theorem lo44 : loopsOf (c44) = [] := by kernel_rfl
noncomputable def l44 : List Loop := []
def Q44 {α : Type} (l : Option (r44).den → α) (an : α → α → α) (x : (a44).den) : α := cl (r74).dflt (M74 (x.1, ())) (fun u0 => bif (!u0.1) then l (some ((2 : Int), ())) else l (some ((0 : Int), ()))) (l none)
theorem q44 (x : (a44).den) : runFn Try.prog E0 G44 Try.f44 l44 a44 r44 x = Q44 .leaf .any x := by kernel_rfl
def M44 (x : (a44).den) : Option (r44).den := Q44 (fun r => r) (fun _ _ => none) x
theorem m44 (x : (a44).den) : (runFn Try.prog E0 G44 Try.f44 l44 a44 r44 x).sure = M44 x := by rw [q44]; unfold M44 Q44; simp only [sure_cond, Tree.sure, sure_cl, sure_onExit, sure_onRet, sure_onPanL, sure_onNext, sure_onBrk, sure_onRetO, sure_onPan, sure_onOk, sure_onGPan]
def p44 (x : (a44).den) : Bool := (M44 x).isSome
def v44 (x : (a44).den) : (r44).den := (M44 x).getD (r44).dflt
def k44 : Con := ⟨a44, r44, p44, v44⟩
theorem h44 : Holds Try.prog 44 k44 := holds_of_M' (E := E0) follows_ok g44 eqTy_sound keyTy_sound at44 bd44 (by kernel_rfl) m44 fun G' hlo hF hE => LsOK_kn (by rw [lo44]; exact .nil)
/-- isobar/isobarref09.Counted -/
noncomputable def c45 : Code := Try.f45.body.getD .skip
theorem at45 : Try.prog.funcs[45]? = some Try.f45 := by kernel_rfl
theorem bd45 : Try.f45.body = some c45 := by kernel_rfl
theorem cl45 : Callable Try.prog 45 := callable_of at45 (by kernel_rfl) (by kernel_rfl)
abbrev a45 : Ty := T28
abbrev r45 : Ty := T0
noncomputable def G45 : Ctx := Ctx.of []
theorem g45 : Sound Try.prog (G45) := sound_of (fun _ h => by cases h)
noncomputable def b45x0 : Code := loopBody ((loopsOf (c45))[0]?)
theorem lo45x0 : loopsOf (b45x0) = [] := by kernel_rfl
abbrev cs45x0 : List Pat := [.slot 1 (.ptr 1), .box 1 [.pc tI, .pc tI, .pc (.sl T0), .pc (.sl T0)]]
abbrev vs45x0 : List Pat := [.slot 3 (.pc tI), .slot 4 (.pc tI)]
abbrev ps45x0 : List Pat := [.slot 1 (.ptr 1), .box 1 [.pc tI, .pc tI, .pc (.sl T0), .pc (.sl T0)], .slot 3 (.pc tI), .slot 4 (.pc tI)]
def j45x0 : (patsTy cs45x0).den → (patsTy vs45x0).den → (patsTy ps45x0).den := fun c v => (c.1, (c.2.1, v))
def sp45x0 : (patsTy ps45x0).den → (patsTy cs45x0).den × (patsTy vs45x0).den := fun x => ((x.1, (x.2.1, ())), x.2.2)
abbrev wy45x0 : Ways := ⟨[(0, [.slot 3 (.pc tI)])], [], []⟩
abbrev wv45x0 : Ways := ⟨[(0, [.slot 3 (.pc tI)])], [], []⟩
def je45x0 : (id : Nat) → (patsTy cs45x0).den → (patsTy (wayP wv45x0 id)).den → (patsTy (wayP wy45x0 id)).den := fun id => match id with | 0 => fun c y => y | id => fun _ _ => (patsTy (wayP wy45x0 id)).dflt
def jr45x0 : (patsTy cs45x0).den → (patsTy (wv45x0).ret).den → (patsTy (wy45x0).ret).den := fun c y => y
def jp45x0 : (patsTy cs45x0).den → (patsTy (wv45x0).pan).den → (patsTy (wy45x0).pan).den := fun c y => y
def Z45x0 {α : Type} (l : RQ vs45x0 wv45x0 → α) (an : α → α → α) (c : (patsTy cs45x0).den) (v : (patsTy vs45x0).den) : α := bif (decide (v.2.1 < ((c.2.1.2.2.1.n : Nat) : Int))) then bif (decide (((0 : Int) ≤ v.2.1) ∧ (v.2.1 < ((c.2.1.2.2.1.n : Nat) : Int)))) then bif (decide ((0 : Int) ≤ (c.2.1.2.2.1.g (Int.toNat v.2.1)).1)) then bif (decide (((0 : Int) ≤ v.2.1) ∧ (v.2.1 < ((c.2.1.2.2.2.1.n : Nat) : Int)))) then bif (decide ((0 : Int) ≤ (c.2.1.2.2.2.1.g (Int.toNat v.2.1)).1)) then l (.next ((W (v.1 + (1 : Int))), ((W (v.2.1 + (1 : Int))), ()))) else l (.next (v.1, ((W (v.2.1 + (1 : Int))), ()))) else l .bad else l (.next (v.1, ((W (v.2.1 + (1 : Int))), ()))) else l .bad else l (.out (.exit 0 (v.1, ())))
theorem z45x0 (c : (patsTy cs45x0).den) (v : (patsTy vs45x0).den) : roundQ Try.prog E0 G45 0 29 [] ps45x0 wy45x0 b45x0 [] (j45x0 c v) = Z45x0 (fun r => .leaf (r.lift j45x0 je45x0 jr45x0 jp45x0 c)) .any c v := by kernel_rfl
def S45x0 (c : (patsTy cs45x0).den) (v : (patsTy vs45x0).den) : RQ vs45x0 wv45x0 := Z45x0 (fun r => r) (fun _ _ => .bad) c v
theorem s45x0 (c : (patsTy cs45x0).den) (v : (patsTy vs45x0).den) : detQ (roundQ Try.prog E0 G45 0 29 [] ps45x0 wy45x0 b45x0 [] (j45x0 c v)) = (S45x0 c v).lift j45x0 je45x0 jr45x0 jp45x0 c := by rw [z45x0]; unfold S45x0 Z45x0; simp only [detQ_cond, lift_cond, lift_bad, detQ, detQ_cl, detQ_onExit, detQ_onRet, detQ_onPanL, detQ_onNext, detQ_onBrk, detQ_onRetO, detQ_onPan, detQ_onOk, detQ_onGPan, lift_cl, lift_onExit, lift_onRet, lift_onPanL, lift_onNext, lift_onBrk, lift_onRetO, lift_onPan, lift_onOk, lift_onGPan]
def L45x0 (c : (patsTy cs45x0).den) (v : (patsTy vs45x0).den) : LQ wv45x0 := iterQ (S45x0 c) big v
theorem lo45 : loopsOf (c45) = [.loop b45x0] := by kernel_rfl
noncomputable def l45 : List Loop := [.known (loopZ 0 [] ps45x0 fun x => spreadV wy45x0 je45x0 jr45x0 jp45x0 [] false (sp45x0 x).1 (L45x0 (sp45x0 x).1 (sp45x0 x).2) wy45x0.exits)]
def Q45 {α : Type} (l : Option (r45).den → α) (an : α → α → α) (x : (a45).den) : α := onExit (L45x0 ((), (x.1, ())) ((0 : Int), ((0 : Int), ()))) 0 (fun u0 => l (some u0)) (l none)
theorem q45 (x : (a45).den) : runFn Try.prog E0 G45 Try.f45 l45 a45 r45 x = Q45 .leaf .any x := by kernel_rfl
def M45 (x : (a45).den) : Option (r45).den := Q45 (fun r => r) (fun _ _ => none) x
theorem m45 (x : (a45).den) : (runFn Try.prog E0 G45 Try.f45 l45 a45 r45 x).sure = M45 x := by rw [q45]; unfold M45 Q45; simp only [sure_cond, Tree.sure, sure_cl, sure_onExit, sure_onRet, sure_onPanL, sure_onNext, sure_onBrk, sure_onRetO, sure_onPan, sure_onOk, sure_onGPan]
def p45 (x : (a45).den) : Bool := (M45 x).isSome
def v45 (x : (a45).den) : (r45).den := (M45 x).getD (r45).dflt
def k45 : Con := ⟨a45, r45, p45, v45⟩
theorem h45 : Holds Try.prog 45 k45 := holds_of_M' (E := E0) follows_ok g45 eqTy_sound keyTy_sound at45 bd45 (by kernel_rfl) m45 fun G' hlo hF hE => LsOK_kn (by rw [lo45]; exact .cons (loopV_ok hE hF hlo (LsOK_kn (by rw [lo45x0]; exact .nil)) (by kernel_rfl) (by kernel_rfl) sp45x0 (fun _ => rfl) (fun _ _ => rfl) (s45x0) big) (.nil))
/-- isobar/isobarlaw09.WatchAgrees -/
noncomputable def c11 : Code := Try.f11.body.getD .skip
theorem at11 : Try.prog.funcs[11]? = some Try.f11 := by kernel_rfl
theorem bd11 : Try.f11.body = some c11 := by kernel_rfl
theorem cl11 : Callable Try.prog 11 := callable_of at11 (by kernel_rfl) (by kernel_rfl)
abbrev a11 : Ty := T28
abbrev r11 : Ty := T3
noncomputable def G11 : Ctx := Ctx.of [(22, .pure k22), (28, .pure k28), (29, .pure k29), (33, .pure k33), (35, .pure k35), (37, .pure k37), (44, .pure k44), (45, .pure k45)]
theorem g11 : Sound Try.prog (G11) := sound_of (List.forall_mem_cons.2 ⟨⟨cl22, h22⟩, List.forall_mem_cons.2 ⟨⟨cl28, h28⟩, List.forall_mem_cons.2 ⟨⟨cl29, h29⟩, List.forall_mem_cons.2 ⟨⟨cl33, h33⟩, List.forall_mem_cons.2 ⟨⟨cl35, h35⟩, List.forall_mem_cons.2 ⟨⟨cl37, h37⟩, List.forall_mem_cons.2 ⟨⟨cl44, h44⟩, List.forall_mem_cons.2 ⟨⟨cl45, h45⟩, fun _ h => by cases h⟩⟩⟩⟩⟩⟩⟩⟩)
theorem lo11 : loopsOf (c11) = [] := by kernel_rfl
noncomputable def l11 : List Loop := []
def Q11 {α : Type} (l : Option (r11).den → α) (an : α → α → α) (x : (a11).den) : α := cl (r33).dflt (M33 (x.1, ())) (fun u0 => bif (!u0.1) then cl (r22).dflt (M22 ()) (fun u1 => l (some u1)) (l none) else cl (r44).dflt (M44 (x.1, ())) (fun u2 => cl (r37).dflt (M37 (x.1, ())) (fun u3 => cl (r35).dflt (M35 (x.1, ())) (fun u4 => bif (!u4.1) then bif (decide (u2.1 = (2 : Int))) then bif (decide (u3.2.2.2.1 = (2 : Int))) then bif (decide (u3.1 = (0 : Int))) then bif (decide (u3.2.1 = (0 : Int))) then bif (decide (u3.2.2.1 = (0 : Int))) then cl (r22).dflt (M22 ()) (fun u5 => l (some u5)) (l none) else l (some (false, ())) else l (some (false, ())) else l (some (false, ())) else l (some (false, ())) else l (some (false, ())) else bif (decide (u2.1 = (0 : Int))) then bif (decide (u3.2.2.2.1 = (0 : Int))) then cl (r45).dflt (M45 (x.1, ())) (fun u6 => bif (decide (u3.1 = u6.1)) then cl (r28).dflt (M28 (x.1, ())) (fun u7 => bif (decide (u3.2.1 = u7.1)) then cl (r29).dflt (M29 (x.1, ())) (fun u8 => bif (decide (u3.2.2.1 = u8.1)) then cl (r22).dflt (M22 ()) (fun u9 => l (some u9)) (l none) else l (some (false, ()))) (l none) else l (some (false, ()))) (l none) else l (some (false, ()))) (l none) else l (some (false, ())) else l (some (false, ()))) (l none)) (l none)) (l none)) (l none)
theorem q11 (x : (a11).den) : runFn Try.prog E0 G11 Try.f11 l11 a11 r11 x = Q11 .leaf .any x := by kernel_rfl
def M11 (x : (a11).den) : Option (r11).den := Q11 (fun r => r) (fun _ _ => none) x
theorem m11 (x : (a11).den) : (runFn Try.prog E0 G11 Try.f11 l11 a11 r11 x).sure = M11 x := by rw [q11]; unfold M11 Q11; simp only [sure_cond, Tree.sure, sure_cl, sure_onExit, sure_onRet, sure_onPanL, sure_onNext, sure_onBrk, sure_onRetO, sure_onPan, sure_onOk, sure_onGPan]
def p11 (x : (a11).den) : Bool := (M11 x).isSome
def v11 (x : (a11).den) : (r11).den := (M11 x).getD (r11).dflt
def k11 : Con := ⟨a11, r11, p11, v11⟩
theorem h11 : Holds Try.prog 11 k11 := holds_of_M' (E := E0) follows_ok g11 eqTy_sound keyTy_sound at11 bd11 (by kernel_rfl) m11 fun G' hlo hF hE => LsOK_kn (by rw [lo11]; exact .nil)
/-- isobar/isobarref09.Least -/
noncomputable def c21 : Code := Try.f21.body.getD .skip
theorem at21 : Try.prog.funcs[21]? = some Try.f21 := by kernel_rfl
theorem bd21 : Try.f21.body = some c21 := by kernel_rfl
theorem cl21 : Callable Try.prog 21 := callable_of at21 (by kernel_rfl) (by kernel_rfl)
abbrev a21 : Ty := T0
abbrev r21 : Ty := T3
noncomputable def G21 : Ctx := Ctx.of [(63, .pure k63)]
theorem g21 : Sound Try.prog (G21) := sound_of (List.forall_mem_cons.2 ⟨⟨cl63, h63⟩, fun _ h => by cases h⟩)
theorem lo21 : loopsOf (c21) = [] := by kernel_rfl
noncomputable def l21 : List Loop := []
def Q21 {α : Type} (l : Option (r21).den → α) (an : α → α → α) (x : (a21).den) : α := cl (r63).dflt (M63 (x.1, ((0 : Int), ((19 : Int), ())))) (fun u0 => l (some u0)) (l none)
theorem q21 (x : (a21).den) : runFn Try.prog E0 G21 Try.f21 l21 a21 r21 x = Q21 .leaf .any x := by kernel_rfl
def M21 (x : (a21).den) : Option (r21).den := Q21 (fun r => r) (fun _ _ => none) x
theorem m21 (x : (a21).den) : (runFn Try.prog E0 G21 Try.f21 l21 a21 r21 x).sure = M21 x := by rw [q21]; unfold M21 Q21; simp only [sure_cond, Tree.sure, sure_cl, sure_onExit, sure_onRet, sure_onPanL, sure_onNext, sure_onBrk, sure_onRetO, sure_onPan, sure_onOk, sure_onGPan]
def p21 (x : (a21).den) : Bool := (M21 x).isSome
def v21 (x : (a21).den) : (r21).den := (M21 x).getD (r21).dflt
def k21 : Con := ⟨a21, r21, p21, v21⟩
theorem h21 : Holds Try.prog 21 k21 := holds_of_M' (E := E0) follows_ok g21 eqTy_sound keyTy_sound at21 bd21 (by kernel_rfl) m21 fun G' hlo hF hE => LsOK_kn (by rw [lo21]; exact .nil)
/-- isobar/isobarref09.Power -/
noncomputable def c26 : Code := Try.f26.body.getD .skip
theorem at26 : Try.prog.funcs[26]? = some Try.f26 := by kernel_rfl
theorem bd26 : Try.f26.body = some c26 := by kernel_rfl
theorem cl26 : Callable Try.prog 26 := callable_of at26 (by kernel_rfl) (by kernel_rfl)
abbrev a26 : Ty := T1
abbrev r26 : Ty := T0
noncomputable def G26 : Ctx := Ctx.of []
theorem g26 : Sound Try.prog (G26) := sound_of (fun _ h => by cases h)
noncomputable def b26x0 : Code := loopBody ((loopsOf (c26))[0]?)
theorem lo26x0 : loopsOf (b26x0) = [] := by kernel_rfl
abbrev cs26x0 : List Pat := [.slot 0 (.pc tI), .slot 1 (.pc tI)]
abbrev vs26x0 : List Pat := [.slot 5 (.pc tI), .slot 6 (.pc tI)]
abbrev ps26x0 : List Pat := [.slot 0 (.pc tI), .slot 1 (.pc tI), .slot 5 (.pc tI), .slot 6 (.pc tI)]
def j26x0 : (patsTy cs26x0).den → (patsTy vs26x0).den → (patsTy ps26x0).den := fun c v => (c.1, (c.2.1, v))
def sp26x0 : (patsTy ps26x0).den → (patsTy cs26x0).den × (patsTy vs26x0).den := fun x => ((x.1, (x.2.1, ())), x.2.2)
abbrev wy26x0 : Ways := ⟨[(0, [.slot 5 (.pc tI)])], [], []⟩
abbrev wv26x0 : Ways := ⟨[(0, [.slot 5 (.pc tI)])], [], []⟩
def je26x0 : (id : Nat) → (patsTy cs26x0).den → (patsTy (wayP wv26x0 id)).den → (patsTy (wayP wy26x0 id)).den := fun id => match id with | 0 => fun c y => y | id => fun _ _ => (patsTy (wayP wy26x0 id)).dflt
def jr26x0 : (patsTy cs26x0).den → (patsTy (wv26x0).ret).den → (patsTy (wy26x0).ret).den := fun c y => y
def jp26x0 : (patsTy cs26x0).den → (patsTy (wv26x0).pan).den → (patsTy (wy26x0).pan).den := fun c y => y
def Z26x0 {α : Type} (l : RQ vs26x0 wv26x0 → α) (an : α → α → α) (c : (patsTy cs26x0).den) (v : (patsTy vs26x0).den) : α := bif (decide (v.2.1 < c.2.1)) then l (.next ((W (v.1 * c.1)), ((W (v.2.1 + (1 : Int))), ()))) else l (.out (.exit 0 (v.1, ())))
theorem z26x0 (c : (patsTy cs26x0).den) (v : (patsTy vs26x0).den) : roundQ Try.prog E0 G26 0 16 [] ps26x0 wy26x0 b26x0 [] (j26x0 c v) = Z26x0 (fun r => .leaf (r.lift j26x0 je26x0 jr26x0 jp26x0 c)) .any c v := by kernel_rfl
def S26x0 (c : (patsTy cs26x0).den) (v : (patsTy vs26x0).den) : RQ vs26x0 wv26x0 := Z26x0 (fun r => r) (fun _ _ => .bad) c v
theorem s26x0 (c : (patsTy cs26x0).den) (v : (patsTy vs26x0).den) : detQ (roundQ Try.prog E0 G26 0 16 [] ps26x0 wy26x0 b26x0 [] (j26x0 c v)) = (S26x0 c v).lift j26x0 je26x0 jr26x0 jp26x0 c := by rw [z26x0]; unfold S26x0 Z26x0; simp only [detQ_cond, lift_cond, lift_bad, detQ, detQ_cl, detQ_onExit, detQ_onRet, detQ_onPanL, detQ_onNext, detQ_onBrk, detQ_onRetO, detQ_onPan, detQ_onOk, detQ_onGPan, lift_cl, lift_onExit, lift_onRet, lift_onPanL, lift_onNext, lift_onBrk, lift_onRetO, lift_onPan, lift_onOk, lift_onGPan]
def L26x0 (c : (patsTy cs26x0).den) (v : (patsTy vs26x0).den) : LQ wv26x0 := iterQ (S26x0 c) big v
theorem lo26 : loopsOf (c26) = [.loop b26x0] := by kernel_rfl
noncomputable def l26 : List Loop := [.known (loopZ 0 [] ps26x0 fun x => spreadV wy26x0 je26x0 jr26x0 jp26x0 [] false (sp26x0 x).1 (L26x0 (sp26x0 x).1 (sp26x0 x).2) wy26x0.exits)]
def Q26 {α : Type} (l : Option (r26).den → α) (an : α → α → α) (x : (a26).den) : α := onExit (L26x0 x ((1 : Int), ((0 : Int), ()))) 0 (fun u0 => l (some u0)) (l none)
theorem q26 (x : (a26).den) : runFn Try.prog E0 G26 Try.f26 l26 a26 r26 x = Q26 .leaf .any x := by kernel_rfl
def M26 (x : (a26).den) : Option (r26).den := Q26 (fun r => r) (fun _ _ => none) x
theorem m26 (x : (a26).den) : (runFn Try.prog E0 G26 Try.f26 l26 a26 r26 x).sure = M26 x := by rw [q26]; unfold M26 Q26; simp only [sure_cond, Tree.sure, sure_cl, sure_onExit, sure_onRet, sure_onPanL, sure_onNext, sure_onBrk, sure_onRetO, sure_onPan, sure_onOk, sure_onGPan]
def p26 (x : (a26).den) : Bool := (M26 x).isSome
def v26 (x : (a26).den) : (r26).den := (M26 x).getD (r26).dflt
def k26 : Con := ⟨a26, r26, p26, v26⟩
theorem h26 : Holds Try.prog 26 k26 := holds_of_M' (E := E0) follows_ok g26 eqTy_sound keyTy_sound at26 bd26 (by kernel_rfl) m26 fun G' hlo hF hE => LsOK_kn (by rw [lo26]; exact .cons (loopV_ok hE hF hlo (LsOK_kn (by rw [lo26x0]; exact .nil)) (by kernel_rfl) (by kernel_rfl) sp26x0 (fun _ => rfl) (fun _ _ => rfl) (s26x0) big) (.nil))
/-- isobar/isobarref09.Choose -/
noncomputable def c68 : Code := Try.f68.body.getD .skip
theorem at68 : Try.prog.funcs[68]? = some Try.f68 := by kernel_rfl
theorem bd68 : Try.f68.body = some c68 := by kernel_rfl
theorem cl68 : Callable Try.prog 68 := callable_of at68 (by kernel_rfl) (by kernel_rfl)
abbrev a68 : Ty := T1
abbrev r68 : Ty := T0
noncomputable def G68 : Ctx := Ctx.of []
theorem g68 : Sound Try.prog (G68) := sound_of (fun _ h => by cases h)
noncomputable def b68x0 : Code := loopBody ((loopsOf (c68))[0]?)
theorem lo68x0 : loopsOf (b68x0) = [] := by kernel_rfl
abbrev cs68x0 : List Pat := [.slot 0 (.pc tI), .slot 1 (.pc tI)]
abbrev vs68x0 : List Pat := [.slot 5 (.pc tI), .slot 6 (.pc tI)]
abbrev ps68x0 : List Pat := [.slot 0 (.pc tI), .slot 1 (.pc tI), .slot 5 (.pc tI), .slot 6 (.pc tI)]
def j68x0 : (patsTy cs68x0).den → (patsTy vs68x0).den → (patsTy ps68x0).den := fun c v => (c.1, (c.2.1, v))
def sp68x0 : (patsTy ps68x0).den → (patsTy cs68x0).den × (patsTy vs68x0).den := fun x => ((x.1, (x.2.1, ())), x.2.2)
abbrev wy68x0 : Ways := ⟨[(0, [.slot 5 (.pc tI)])], [], []⟩
abbrev wv68x0 : Ways := ⟨[(0, [.slot 5 (.pc tI)])], [], []⟩
def je68x0 : (id : Nat) → (patsTy cs68x0).den → (patsTy (wayP wv68x0 id)).den → (patsTy (wayP wy68x0 id)).den := fun id => match id with | 0 => fun c y => y | id => fun _ _ => (patsTy (wayP wy68x0 id)).dflt
def jr68x0 : (patsTy cs68x0).den → (patsTy (wv68x0).ret).den → (patsTy (wy68x0).ret).den := fun c y => y
def jp68x0 : (patsTy cs68x0).den → (patsTy (wv68x0).pan).den → (patsTy (wy68x0).pan).den := fun c y => y
def Z68x0 {α : Type} (l : RQ vs68x0 wv68x0 → α) (an : α → α → α) (c : (patsTy cs68x0).den) (v : (patsTy vs68x0).den) : α := bif (decide (v.2.1 ≤ c.2.1)) then bif (decide (v.2.1 = (0 : Int))) then l .bad else l (.next ((W (Int.tdiv (W (v.1 * (W ((W (c.1 - c.2.1)) + v.2.1)))) v.2.1)), ((W (v.2.1 + (1 : Int))), ()))) else l (.out (.exit 0 (v.1, ())))
theorem z68x0 (c : (patsTy cs68x0).den) (v : (patsTy vs68x0).den) : roundQ Try.prog E0 G68 0 25 [] ps68x0 wy68x0 b68x0 [] (j68x0 c v) = Z68x0 (fun r => .leaf (r.lift j68x0 je68x0 jr68x0 jp68x0 c)) .any c v := by kernel_rfl
def S68x0 (c : (patsTy cs68x0).den) (v : (patsTy vs68x0).den) : RQ vs68x0 wv68x0 := Z68x0 (fun r => r) (fun _ _ => .bad) c v
theorem s68x0 (c : (patsTy cs68x0).den) (v : (patsTy vs68x0).den) : detQ (roundQ Try.prog E0 G68 0 25 [] ps68x0 wy68x0 b68x0 [] (j68x0 c v)) = (S68x0 c v).lift j68x0 je68x0 jr68x0 jp68x0 c := by rw [z68x0]; unfold S68x0 Z68x0; simp only [detQ_cond, lift_cond, lift_bad, detQ, detQ_cl, detQ_onExit, detQ_onRet, detQ_onPanL, detQ_onNext, detQ_onBrk, detQ_onRetO, detQ_onPan, detQ_onOk, detQ_onGPan, lift_cl, lift_onExit, lift_onRet, lift_onPanL, lift_onNext, lift_onBrk, lift_onRetO, lift_onPan, lift_onOk, lift_onGPan]
def L68x0 (c : (patsTy cs68x0).den) (v : (patsTy vs68x0).den) : LQ wv68x0 := iterQ (S68x0 c) big v
theorem lo68 : loopsOf (c68) = [.loop b68x0] := by kernel_rfl
noncomputable def l68 : List Loop := [.known (loopZ 0 [] ps68x0 fun x => spreadV wy68x0 je68x0 jr68x0 jp68x0 [] false (sp68x0 x).1 (L68x0 (sp68x0 x).1 (sp68x0 x).2) wy68x0.exits)]
def Q68 {α : Type} (l : Option (r68).den → α) (an : α → α → α) (x : (a68).den) : α := bif (decide (x.1 < x.2.1)) then l (some ((0 : Int), ())) else onExit (L68x0 x ((1 : Int), ((1 : Int), ()))) 0 (fun u0 => l (some u0)) (l none)
theorem q68 (x : (a68).den) : runFn Try.prog E0 G68 Try.f68 l68 a68 r68 x = Q68 .leaf .any x := by kernel_rfl
def M68 (x : (a68).den) : Option (r68).den := Q68 (fun r => r) (fun _ _ => none) x
theorem m68 (x : (a68).den) : (runFn Try.prog E0 G68 Try.f68 l68 a68 r68 x).sure = M68 x := by rw [q68]; unfold M68 Q68; simp only [sure_cond, Tree.sure, sure_cl, sure_onExit, sure_onRet, sure_onPanL, sure_onNext, sure_onBrk, sure_onRetO, sure_onPan, sure_onOk, sure_onGPan]
def p68 (x : (a68).den) : Bool := (M68 x).isSome
def v68 (x : (a68).den) : (r68).den := (M68 x).getD (r68).dflt
def k68 : Con := ⟨a68, r68, p68, v68⟩
theorem h68 : Holds Try.prog 68 k68 := holds_of_M' (E := E0) follows_ok g68 eqTy_sound keyTy_sound at68 bd68 (by kernel_rfl) m68 fun G' hlo hF hE => LsOK_kn (by rw [lo68]; exact .cons (loopV_ok hE hF hlo (LsOK_kn (by rw [lo68x0]; exact .nil)) (by kernel_rfl) (by kernel_rfl) sp68x0 (fun _ => rfl) (fun _ _ => rfl) (s68x0) big) (.nil))
/-- isobar/isobarref09.Chance -/
noncomputable def c23 : Code := Try.f23.body.getD .skip
theorem at23 : Try.prog.funcs[23]? = some Try.f23 := by kernel_rfl
theorem bd23 : Try.f23.body = some c23 := by kernel_rfl
theorem cl23 : Callable Try.prog 23 := callable_of at23 (by kernel_rfl) (by kernel_rfl)
abbrev a23 : Ty := T2
abbrev r23 : Ty := T0
noncomputable def G23 : Ctx := Ctx.of [(26, .pure k26), (68, .pure k68)]
theorem g23 : Sound Try.prog (G23) := sound_of (List.forall_mem_cons.2 ⟨⟨cl26, h26⟩, List.forall_mem_cons.2 ⟨⟨cl68, h68⟩, fun _ h => by cases h⟩⟩)
noncomputable def b23x0 : Code := loopBody ((loopsOf (c23))[0]?)
theorem lo23x0 : loopsOf (b23x0) = [] := by kernel_rfl
abbrev cs23x0 : List Pat := [.slot 0 (.pc tI), .slot 1 (.pc tI)]
abbrev vs23x0 : List Pat := [.slot 7 (.pc tI), .slot 8 (.pc tI)]
abbrev ps23x0 : List Pat := [.slot 0 (.pc tI), .slot 1 (.pc tI), .slot 7 (.pc tI), .slot 8 (.pc tI)]
def j23x0 : (patsTy cs23x0).den → (patsTy vs23x0).den → (patsTy ps23x0).den := fun c v => (c.1, (c.2.1, v))
def sp23x0 : (patsTy ps23x0).den → (patsTy cs23x0).den × (patsTy vs23x0).den := fun x => ((x.1, (x.2.1, ())), x.2.2)
abbrev wy23x0 : Ways := ⟨[(0, [.slot 7 (.pc tI)])], [], []⟩
abbrev wv23x0 : Ways := ⟨[(0, [.slot 7 (.pc tI)])], [], []⟩
def je23x0 : (id : Nat) → (patsTy cs23x0).den → (patsTy (wayP wv23x0 id)).den → (patsTy (wayP wy23x0 id)).den := fun id => match id with | 0 => fun c y => y | id => fun _ _ => (patsTy (wayP wy23x0 id)).dflt
def jr23x0 : (patsTy cs23x0).den → (patsTy (wv23x0).ret).den → (patsTy (wy23x0).ret).den := fun c y => y
def jp23x0 : (patsTy cs23x0).den → (patsTy (wv23x0).pan).den → (patsTy (wy23x0).pan).den := fun c y => y
def Z23x0 {α : Type} (l : RQ vs23x0 wv23x0 → α) (an : α → α → α) (c : (patsTy cs23x0).den) (v : (patsTy vs23x0).den) : α := bif (decide (v.2.1 ≤ c.2.1)) then cl (r68).dflt (M68 (c.2.1, v.2)) (fun u0 => cl (r26).dflt (M26 ((W (c.1 - (1 : Int))), ((W (c.2.1 - v.2.1)), ()))) (fun u1 => l (.next ((W (v.1 + (W (u0.1 * u1.1)))), ((W (v.2.1 + (1 : Int))), ())))) (l .bad)) (l .bad) else l (.out (.exit 0 (v.1, ())))
theorem z23x0 (c : (patsTy cs23x0).den) (v : (patsTy vs23x0).den) : roundQ Try.prog E0 G23 0 28 [] ps23x0 wy23x0 b23x0 [] (j23x0 c v) = Z23x0 (fun r => .leaf (r.lift j23x0 je23x0 jr23x0 jp23x0 c)) .any c v := by kernel_rfl
def S23x0 (c : (patsTy cs23x0).den) (v : (patsTy vs23x0).den) : RQ vs23x0 wv23x0 := Z23x0 (fun r => r) (fun _ _ => .bad) c v
theorem s23x0 (c : (patsTy cs23x0).den) (v : (patsTy vs23x0).den) : detQ (roundQ Try.prog E0 G23 0 28 [] ps23x0 wy23x0 b23x0 [] (j23x0 c v)) = (S23x0 c v).lift j23x0 je23x0 jr23x0 jp23x0 c := by rw [z23x0]; unfold S23x0 Z23x0; simp only [detQ_cond, lift_cond, lift_bad, detQ, detQ_cl, detQ_onExit, detQ_onRet, detQ_onPanL, detQ_onNext, detQ_onBrk, detQ_onRetO, detQ_onPan, detQ_onOk, detQ_onGPan, lift_cl, lift_onExit, lift_onRet, lift_onPanL, lift_onNext, lift_onBrk, lift_onRetO, lift_onPan, lift_onOk, lift_onGPan]
def L23x0 (c : (patsTy cs23x0).den) (v : (patsTy vs23x0).den) : LQ wv23x0 := iterQ (S23x0 c) big v
theorem lo23 : loopsOf (c23) = [.loop b23x0] := by kernel_rfl
noncomputable def l23 : List Loop := [.known (loopZ 0 [] ps23x0 fun x => spreadV wy23x0 je23x0 jr23x0 jp23x0 [] false (sp23x0 x).1 (L23x0 (sp23x0 x).1 (sp23x0 x).2) wy23x0.exits)]
def Q23 {α : Type} (l : Option (r23).den → α) (an : α → α → α) (x : (a23).den) : α := onExit (L23x0 (x.1, (x.2.1, ())) ((0 : Int), x.2.2)) 0 (fun u2 => l (some u2)) (l none)
theorem q23 (x : (a23).den) : runFn Try.prog E0 G23 Try.f23 l23 a23 r23 x = Q23 .leaf .any x := by kernel_rfl
def M23 (x : (a23).den) : Option (r23).den := Q23 (fun r => r) (fun _ _ => none) x
theorem m23 (x : (a23).den) : (runFn Try.prog E0 G23 Try.f23 l23 a23 r23 x).sure = M23 x := by rw [q23]; unfold M23 Q23; simp only [sure_cond, Tree.sure, sure_cl, sure_onExit, sure_onRet, sure_onPanL, sure_onNext, sure_onBrk, sure_onRetO, sure_onPan, sure_onOk, sure_onGPan]
def p23 (x : (a23).den) : Bool := (M23 x).isSome
def v23 (x : (a23).den) : (r23).den := (M23 x).getD (r23).dflt
def k23 : Con := ⟨a23, r23, p23, v23⟩
theorem h23 : Holds Try.prog 23 k23 := holds_of_M' (E := E0) follows_ok g23 eqTy_sound keyTy_sound at23 bd23 (by kernel_rfl) m23 fun G' hlo hF hE => LsOK_kn (by rw [lo23]; exact .cons (loopV_ok hE hF hlo (LsOK_kn (by rw [lo23x0]; exact .nil)) (by kernel_rfl) (by kernel_rfl) sp23x0 (fun _ => rfl) (fun _ _ => rfl) (s23x0) big) (.nil))
/-- isobar/isobarref09.Favour -/
noncomputable def c24 : Code := Try.f24.body.getD .skip
theorem at24 : Try.prog.funcs[24]? = some Try.f24 := by kernel_rfl
theorem bd24 : Try.f24.body = some c24 := by kernel_rfl
theorem cl24 : Callable Try.prog 24 := callable_of at24 (by kernel_rfl) (by kernel_rfl)
abbrev a24 : Ty := T2
abbrev r24 : Ty := T0
noncomputable def G24 : Ctx := Ctx.of [(26, .pure k26), (68, .pure k68)]
theorem g24 : Sound Try.prog (G24) := sound_of (List.forall_mem_cons.2 ⟨⟨cl26, h26⟩, List.forall_mem_cons.2 ⟨⟨cl68, h68⟩, fun _ h => by cases h⟩⟩)
noncomputable def b24x0 : Code := loopBody ((loopsOf (c24))[0]?)
noncomputable def b24x0x0 : Code := loopBody ((loopsOf (b24x0))[0]?)
noncomputable def b24x0x0x0 : Code := loopBody ((loopsOf (b24x0x0))[0]?)
theorem lo24x0x0x0 : loopsOf (b24x0x0x0) = [] := by kernel_rfl
abbrev cs24x0x0x0 : List Pat := [.slot 0 (.pc tI), .slot 1 (.pc tI), .slot 2 (.pc tI), .slot 7 (.pc (.sl T0)), .slot 8 (.pc tI), .slot 9 (.row 98), .slot 10 (.pc tI)]
abbrev vs24x0x0x0 : List Pat := [.slot 11 (.pc tI), .row 98 3 T0]
abbrev ps24x0x0x0 : List Pat := [.slot 0 (.pc tI), .slot 1 (.pc tI), .slot 2 (.pc tI), .slot 7 (.pc (.sl T0)), .slot 8 (.pc tI), .slot 9 (.row 98), .slot 10 (.pc tI), .slot 11 (.pc tI), .row 98 3 T0]
def j24x0x0x0 : (patsTy cs24x0x0x0).den → (patsTy vs24x0x0x0).den → (patsTy ps24x0x0x0).den := fun c v => (c.1, (c.2.1, (c.2.2.1, (c.2.2.2.1, (c.2.2.2.2.1, (c.2.2.2.2.2.1, (c.2.2.2.2.2.2.1, v)))))))
def sp24x0x0x0 : (patsTy ps24x0x0x0).den → (patsTy cs24x0x0x0).den × (patsTy vs24x0x0x0).den := fun x => ((x.1, (x.2.1, (x.2.2.1, (x.2.2.2.1, (x.2.2.2.2.1, (x.2.2.2.2.2.1, (x.2.2.2.2.2.2.1, ()))))))), x.2.2.2.2.2.2.2)
abbrev wy24x0x0x0 : Ways := ⟨[(4, [.slot 0 (.pc tI), .slot 1 (.pc tI), .slot 2 (.pc tI), .slot 7 (.pc (.sl T0)), .slot 8 (.pc tI), .slot 9 (.row 98), .slot 10 (.pc tI), .row 98 3 T0])], [], []⟩
abbrev wv24x0x0x0 : Ways := ⟨[(4, [.row 98 3 T0])], [], []⟩
def je24x0x0x0 : (id : Nat) → (patsTy cs24x0x0x0).den → (patsTy (wayP wv24x0x0x0 id)).den → (patsTy (wayP wy24x0x0x0 id)).den := fun id => match id with | 4 => fun c y => (c.1, (c.2.1, (c.2.2.1, (c.2.2.2.1, (c.2.2.2.2.1, (c.2.2.2.2.2.1, (c.2.2.2.2.2.2.1, y))))))) | id => fun _ _ => (patsTy (wayP wy24x0x0x0 id)).dflt
def jr24x0x0x0 : (patsTy cs24x0x0x0).den → (patsTy (wv24x0x0x0).ret).den → (patsTy (wy24x0x0x0).ret).den := fun c y => y
def jp24x0x0x0 : (patsTy cs24x0x0x0).den → (patsTy (wv24x0x0x0).pan).den → (patsTy (wy24x0x0x0).pan).den := fun c y => y
def Z24x0x0x0 {α : Type} (l : RQ vs24x0x0x0 wv24x0x0x0 → α) (an : α → α → α) (c : (patsTy cs24x0x0x0).den) (v : (patsTy vs24x0x0x0).den) : α := bif (decide (v.1 < c.2.2.1)) then bif (decide ((W (c.2.2.2.2.2.2.1 + v.1)) ≤ c.2.1)) then bif (decide (((0 : Int) ≤ (W (c.2.2.2.2.2.2.1 + v.1))) ∧ ((W (c.2.2.2.2.2.2.1 + v.1)) < ((v.2.1.n : Nat) : Int)))) then bif (decide (((0 : Int) ≤ c.2.2.2.2.2.2.1) ∧ (c.2.2.2.2.2.2.1 < ((c.2.2.2.1.n : Nat) : Int)))) then cl (r68).dflt (M68 ((W (c.2.1 - c.2.2.2.2.2.2.1)), (v.1, ()))) (fun u0 => bif (decide (((0 : Int) ≤ (W (c.2.2.2.2.2.2.1 + v.1))) ∧ ((W (c.2.2.2.2.2.2.1 + v.1)) < ((v.2.1.n : Nat) : Int)))) then l (.next ((W (v.1 + (1 : Int))), ((setSl v.2.1 (Int.toNat (W (c.2.2.2.2.2.2.1 + v.1))) ((W ((v.2.1.g (Int.toNat (W (c.2.2.2.2.2.2.1 + v.1)))).1 + (W ((c.2.2.2.1.g (Int.toNat c.2.2.2.2.2.2.1)).1 * u0.1)))), ())), ()))) else l .bad) (l .bad) else l .bad else l .bad else l (.out (.exit 4 v.2)) else l (.out (.exit 4 v.2))
theorem z24x0x0x0 (c : (patsTy cs24x0x0x0).den) (v : (patsTy vs24x0x0x0).den) : roundQ Try.prog E0 G24 0 73 [] ps24x0x0x0 wy24x0x0x0 b24x0x0x0 [] (j24x0x0x0 c v) = Z24x0x0x0 (fun r => .leaf (r.lift j24x0x0x0 je24x0x0x0 jr24x0x0x0 jp24x0x0x0 c)) .any c v := by kernel_rfl
def S24x0x0x0 (c : (patsTy cs24x0x0x0).den) (v : (patsTy vs24x0x0x0).den) : RQ vs24x0x0x0 wv24x0x0x0 := Z24x0x0x0 (fun r => r) (fun _ _ => .bad) c v
theorem s24x0x0x0 (c : (patsTy cs24x0x0x0).den) (v : (patsTy vs24x0x0x0).den) : detQ (roundQ Try.prog E0 G24 0 73 [] ps24x0x0x0 wy24x0x0x0 b24x0x0x0 [] (j24x0x0x0 c v)) = (S24x0x0x0 c v).lift j24x0x0x0 je24x0x0x0 jr24x0x0x0 jp24x0x0x0 c := by rw [z24x0x0x0]; unfold S24x0x0x0 Z24x0x0x0; simp only [detQ_cond, lift_cond, lift_bad, detQ, detQ_cl, detQ_onExit, detQ_onRet, detQ_onPanL, detQ_onNext, detQ_onBrk, detQ_onRetO, detQ_onPan, detQ_onOk, detQ_onGPan, lift_cl, lift_onExit, lift_onRet, lift_onPanL, lift_onNext, lift_onBrk, lift_onRetO, lift_onPan, lift_onOk, lift_onGPan]
def L24x0x0x0 (c : (patsTy cs24x0x0x0).den) (v : (patsTy vs24x0x0x0).den) : LQ wv24x0x0x0 := iterQ (S24x0x0x0 c) big v
theorem lo24x0x0 : loopsOf (b24x0x0) = [.loop b24x0x0x0] := by kernel_rfl
abbrev cs24x0x0 : List Pat := [.slot 0 (.pc tI), .slot 1 (.pc tI), .slot 2 (.pc tI), .slot 7 (.pc (.sl T0)), .slot 8 (.pc tI), .slot 9 (.row 98)]
abbrev vs24x0x0 : List Pat := [.slot 10 (.pc tI), .row 98 3 T0]
abbrev ps24x0x0 : List Pat := [.slot 0 (.pc tI), .slot 1 (.pc tI), .slot 2 (.pc tI), .slot 7 (.pc (.sl T0)), .slot 8 (.pc tI), .slot 9 (.row 98), .slot 10 (.pc tI), .row 98 3 T0]
def j24x0x0 : (patsTy cs24x0x0).den → (patsTy vs24x0x0).den → (patsTy ps24x0x0).den := fun c v => (c.1, (c.2.1, (c.2.2.1, (c.2.2.2.1, (c.2.2.2.2.1, (c.2.2.2.2.2.1, v))))))
def sp24x0x0 : (patsTy ps24x0x0).den → (patsTy cs24x0x0).den × (patsTy vs24x0x0).den := fun x => ((x.1, (x.2.1, (x.2.2.1, (x.2.2.2.1, (x.2.2.2.2.1, (x.2.2.2.2.2.1, ())))))), x.2.2.2.2.2.2)
abbrev wy24x0x0 : Ways := ⟨[(2, [.slot 0 (.pc tI), .slot 1 (.pc tI), .slot 2 (.pc tI), .slot 8 (.pc tI), .slot 9 (.row 98), .row 98 3 T0])], [], []⟩
abbrev wv24x0x0 : Ways := ⟨[(2, [.row 98 3 T0])], [], []⟩
def je24x0x0 : (id : Nat) → (patsTy cs24x0x0).den → (patsTy (wayP wv24x0x0 id)).den → (patsTy (wayP wy24x0x0 id)).den := fun id => match id with | 2 => fun c y => (c.1, (c.2.1, (c.2.2.1, (c.2.2.2.2.1, (c.2.2.2.2.2.1, y))))) | id => fun _ _ => (patsTy (wayP wy24x0x0 id)).dflt
def jr24x0x0 : (patsTy cs24x0x0).den → (patsTy (wv24x0x0).ret).den → (patsTy (wy24x0x0).ret).den := fun c y => y
def jp24x0x0 : (patsTy cs24x0x0).den → (patsTy (wv24x0x0).pan).den → (patsTy (wy24x0x0).pan).den := fun c y => y
def Z24x0x0 {α : Type} (l : RQ vs24x0x0 wv24x0x0 → α) (an : α → α → α) (c : (patsTy cs24x0x0).den) (v : (patsTy vs24x0x0).den) : α := bif (decide (v.1 ≤ c.2.1)) then onExit (L24x0x0x0 (c.1, (c.2.1, (c.2.2.1, (c.2.2.2.1, (c.2.2.2.2.1, ((), (v.1, ()))))))) ((0 : Int), v.2)) 4 (fun u1 => l (.next ((W (v.1 + (1 : Int))), u1))) (l .bad) else l (.out (.exit 2 v.2))
theorem z24x0x0 (c : (patsTy cs24x0x0).den) (v : (patsTy vs24x0x0).den) : roundQ Try.prog E0 G24 0 73 [] ps24x0x0 wy24x0x0 b24x0x0 [.known (loopZ 0 [] ps24x0x0x0 fun x => spreadV wy24x0x0x0 je24x0x0x0 jr24x0x0x0 jp24x0x0x0 [] false (sp24x0x0x0 x).1 (L24x0x0x0 (sp24x0x0x0 x).1 (sp24x0x0x0 x).2) wy24x0x0x0.exits)] (j24x0x0 c v) = Z24x0x0 (fun r => .leaf (r.lift j24x0x0 je24x0x0 jr24x0x0 jp24x0x0 c)) .any c v := by kernel_rfl
def S24x0x0 (c : (patsTy cs24x0x0).den) (v : (patsTy vs24x0x0).den) : RQ vs24x0x0 wv24x0x0 := Z24x0x0 (fun r => r) (fun _ _ => .bad) c v
theorem s24x0x0 (c : (patsTy cs24x0x0).den) (v : (patsTy vs24x0x0).den) : detQ (roundQ Try.prog E0 G24 0 73 [] ps24x0x0 wy24x0x0 b24x0x0 [.known (loopZ 0 [] ps24x0x0x0 fun x => spreadV wy24x0x0x0 je24x0x0x0 jr24x0x0x0 jp24x0x0x0 [] false (sp24x0x0x0 x).1 (L24x0x0x0 (sp24x0x0x0 x).1 (sp24x0x0x0 x).2) wy24x0x0x0.exits)] (j24x0x0 c v)) = (S24x0x0 c v).lift j24x0x0 je24x0x0 jr24x0x0 jp24x0x0 c := by rw [z24x0x0]; unfold S24x0x0 Z24x0x0; simp only [detQ_cond, lift_cond, lift_bad, detQ, detQ_cl, detQ_onExit, detQ_onRet, detQ_onPanL, detQ_onNext, detQ_onBrk, detQ_onRetO, detQ_onPan, detQ_onOk, detQ_onGPan, lift_cl, lift_onExit, lift_onRet, lift_onPanL, lift_onNext, lift_onBrk, lift_onRetO, lift_onPan, lift_onOk, lift_onGPan]
def L24x0x0 (c : (patsTy cs24x0x0).den) (v : (patsTy vs24x0x0).den) : LQ wv24x0x0 := iterQ (S24x0x0 c) big v
theorem lo24x0 : loopsOf (b24x0) = [.loop b24x0x0] := by kernel_rfl
abbrev cs24x0 : List Pat := [.slot 0 (.pc tI), .slot 1 (.pc tI), .slot 2 (.pc tI)]
abbrev vs24x0 : List Pat := [.slot 7 (.pc (.sl T0)), .slot 8 (.pc tI)]
abbrev ps24x0 : List Pat := [.slot 0 (.pc tI), .slot 1 (.pc tI), .slot 2 (.pc tI), .slot 7 (.pc (.sl T0)), .slot 8 (.pc tI)]
def j24x0 : (patsTy cs24x0).den → (patsTy vs24x0).den → (patsTy ps24x0).den := fun c v => (c.1, (c.2.1, (c.2.2.1, v)))
def sp24x0 : (patsTy ps24x0).den → (patsTy cs24x0).den × (patsTy vs24x0).den := fun x => ((x.1, (x.2.1, (x.2.2.1, ()))), x.2.2.2)
abbrev wy24x0 : Ways := ⟨[(0, [.slot 0 (.pc tI), .slot 1 (.pc tI), .slot 7 (.pc (.sl T0))])], [], []⟩
abbrev wv24x0 : Ways := ⟨[(0, [.slot 7 (.pc (.sl T0))])], [], []⟩
def je24x0 : (id : Nat) → (patsTy cs24x0).den → (patsTy (wayP wv24x0 id)).den → (patsTy (wayP wy24x0 id)).den := fun id => match id with | 0 => fun c y => (c.1, (c.2.1, y)) | id => fun _ _ => (patsTy (wayP wy24x0 id)).dflt
def jr24x0 : (patsTy cs24x0).den → (patsTy (wv24x0).ret).den → (patsTy (wy24x0).ret).den := fun c y => y
def jp24x0 : (patsTy cs24x0).den → (patsTy (wv24x0).pan).den → (patsTy (wy24x0).pan).den := fun c y => y
def Z24x0 {α : Type} (l : RQ vs24x0 wv24x0 → α) (an : α → α → α) (c : (patsTy cs24x0).den) (v : (patsTy vs24x0).den) : α := bif (decide (v.2.1 < c.1)) then bif (decide (((0 : Int) ≤ (W (c.2.1 + (1 : Int)))) ∧ (((W (c.2.1 + (1 : Int))) ≤ (281474976710656 : Int)) ∧ (((W (c.2.1 + (1 : Int))) * (8 : Int)) ≤ (281474976710656 : Int))))) then onExit (L24x0x0 (c.1, (c.2.1, (c.2.2.1, (v.1, (v.2.1, ((), ())))))) ((0 : Int), ((⟨(Int.toNat (W (c.2.1 + (1 : Int)))), fun i => ((0 : Int), ())⟩ : Sl _), ()))) 2 (fun u2 => l (.next (u2.1, ((W (v.2.1 + (1 : Int))), ())))) (l .bad) else l .bad else l (.out (.exit 0 (v.1, ())))
theorem z24x0 (c : (patsTy cs24x0).den) (v : (patsTy vs24x0).den) : roundQ Try.prog E0 G24 0 73 [] ps24x0 wy24x0 b24x0 [.known (loopZ 0 [] ps24x0x0 fun x => spreadV wy24x0x0 je24x0x0 jr24x0x0 jp24x0x0 [] false (sp24x0x0 x).1 (L24x0x0 (sp24x0x0 x).1 (sp24x0x0 x).2) wy24x0x0.exits)] (j24x0 c v) = Z24x0 (fun r => .leaf (r.lift j24x0 je24x0 jr24x0 jp24x0 c)) .any c v := by kernel_rfl
def S24x0 (c : (patsTy cs24x0).den) (v : (patsTy vs24x0).den) : RQ vs24x0 wv24x0 := Z24x0 (fun r => r) (fun _ _ => .bad) c v
theorem s24x0 (c : (patsTy cs24x0).den) (v : (patsTy vs24x0).den) : detQ (roundQ Try.prog E0 G24 0 73 [] ps24x0 wy24x0 b24x0 [.known (loopZ 0 [] ps24x0x0 fun x => spreadV wy24x0x0 je24x0x0 jr24x0x0 jp24x0x0 [] false (sp24x0x0 x).1 (L24x0x0 (sp24x0x0 x).1 (sp24x0x0 x).2) wy24x0x0.exits)] (j24x0 c v)) = (S24x0 c v).lift j24x0 je24x0 jr24x0 jp24x0 c := by rw [z24x0]; unfold S24x0 Z24x0; simp only [detQ_cond, lift_cond, lift_bad, detQ, detQ_cl, detQ_onExit, detQ_onRet, detQ_onPanL, detQ_onNext, detQ_onBrk, detQ_onRetO, detQ_onPan, detQ_onOk, detQ_onGPan, lift_cl, lift_onExit, lift_onRet, lift_onPanL, lift_onNext, lift_onBrk, lift_onRetO, lift_onPan, lift_onOk, lift_onGPan]
def L24x0 (c : (patsTy cs24x0).den) (v : (patsTy vs24x0).den) : LQ wv24x0 := iterQ (S24x0 c) big v
theorem lo24 : loopsOf (c24) = [.loop b24x0] := by kernel_rfl
noncomputable def l24 : List Loop := [.known (loopZ 0 [] ps24x0 fun x => spreadV wy24x0 je24x0 jr24x0 jp24x0 [] false (sp24x0 x).1 (L24x0 (sp24x0 x).1 (sp24x0 x).2) wy24x0.exits)]
def Q24 {α : Type} (l : Option (r24).den → α) (an : α → α → α) (x : (a24).den) : α := bif (decide (((0 : Int) ≤ (W (x.2.1 + (1 : Int)))) ∧ (((W (x.2.1 + (1 : Int))) ≤ (281474976710656 : Int)) ∧ (((W (x.2.1 + (1 : Int))) * (8 : Int)) ≤ (281474976710656 : Int))))) then bif (decide (((0 : Int) ≤ (0 : Int)) ∧ ((0 : Int) < (((Int.toNat (W (x.2.1 + (1 : Int)))) : Nat) : Int)))) then onExit (L24x0 x ((setSl (⟨(Int.toNat (W (x.2.1 + (1 : Int)))), fun i => ((0 : Int), ())⟩ : Sl (Ty.den T0)) 0 ((1 : Int), ())), ((0 : Int), ()))) 0 (fun u3 => cl (r26).dflt (M26 (x.1, (x.2.1, ()))) (fun u4 => bif (decide (((0 : Int) ≤ x.2.1) ∧ (x.2.1 < ((u3.1.n : Nat) : Int)))) then l (some ((W (u4.1 - (u3.1.g (Int.toNat x.2.1)).1)), ())) else l none) (l none)) (l none) else l none else l none
theorem q24 (x : (a24).den) : runFn Try.prog E0 G24 Try.f24 l24 a24 r24 x = Q24 .leaf .any x := by kernel_rfl
def M24 (x : (a24).den) : Option (r24).den := Q24 (fun r => r) (fun _ _ => none) x
theorem m24 (x : (a24).den) : (runFn Try.prog E0 G24 Try.f24 l24 a24 r24 x).sure = M24 x := by rw [q24]; unfold M24 Q24; simp only [sure_cond, Tree.sure, sure_cl, sure_onExit, sure_onRet, sure_onPanL, sure_onNext, sure_onBrk, sure_onRetO, sure_onPan, sure_onOk, sure_onGPan]
def p24 (x : (a24).den) : Bool := (M24 x).isSome
def v24 (x : (a24).den) : (r24).den := (M24 x).getD (r24).dflt
def k24 : Con := ⟨a24, r24, p24, v24⟩
theorem h24 : Holds Try.prog 24 k24 := holds_of_M' (E := E0) follows_ok g24 eqTy_sound keyTy_sound at24 bd24 (by kernel_rfl) m24 fun G' hlo hF hE => LsOK_kn (by rw [lo24]; exact .cons (loopV_ok hE hF hlo (LsOK_kn (by rw [lo24x0]; exact .cons (loopV_ok hE hF hlo (LsOK_kn (by rw [lo24x0x0]; exact .cons (loopV_ok hE hF hlo (LsOK_kn (by rw [lo24x0x0x0]; exact .nil)) (by kernel_rfl) (by kernel_rfl) sp24x0x0x0 (fun _ => rfl) (fun _ _ => rfl) (s24x0x0x0) big) (.nil))) (by kernel_rfl) (by kernel_rfl) sp24x0x0 (fun _ => rfl) (fun _ _ => rfl) (s24x0x0) big) (.nil))) (by kernel_rfl) (by kernel_rfl) sp24x0 (fun _ => rfl) (fun _ _ => rfl) (s24x0) big) (.nil))
/-- isobar/isobarlaw09.WatchChances -/
noncomputable def c3 : Code := Try.f3.body.getD .skip
theorem at3 : Try.prog.funcs[3]? = some Try.f3 := by kernel_rfl
theorem bd3 : Try.f3.body = some c3 := by kernel_rfl
theorem cl3 : Callable Try.prog 3 := callable_of at3 (by kernel_rfl) (by kernel_rfl)
abbrev a3 : Ty := T2
abbrev r3 : Ty := T3
noncomputable def G3 : Ctx := Ctx.of [(17, .pure k17), (18, .pure k18), (19, .pure k19), (20, .pure k20), (21, .pure k21), (22, .pure k22), (23, .pure k23), (24, .pure k24)]
theorem g3 : Sound Try.prog (G3) := sound_of (List.forall_mem_cons.2 ⟨⟨cl17, h17⟩, List.forall_mem_cons.2 ⟨⟨cl18, h18⟩, List.forall_mem_cons.2 ⟨⟨cl19, h19⟩, List.forall_mem_cons.2 ⟨⟨cl20, h20⟩, List.forall_mem_cons.2 ⟨⟨cl21, h21⟩, List.forall_mem_cons.2 ⟨⟨cl22, h22⟩, List.forall_mem_cons.2 ⟨⟨cl23, h23⟩, List.forall_mem_cons.2 ⟨⟨cl24, h24⟩, fun _ h => by cases h⟩⟩⟩⟩⟩⟩⟩⟩)
theorem lo3 : loopsOf (c3) = [] := by kernel_rfl
noncomputable def l3 : List Loop := []
def Q3 {α : Type} (l : Option (r3).den → α) (an : α → α → α) (x : (a3).den) : α := cl (r17).dflt (M17 x) (fun u0 => cl (r18).dflt (M18 x) (fun u1 => cl (r19).dflt (M19 (x.1, ())) (fun u2 => bif (!u2.1) then bif (decide (u0.2.1 = (2 : Int))) then bif (decide (u0.1 = (0 : Int))) then bif (decide (u1.2.1 = (2 : Int))) then bif (decide (u1.1 = (0 : Int))) then cl (r22).dflt (M22 ()) (fun u3 => l (some u3)) (l none) else l (some (false, ())) else l (some (false, ())) else l (some (false, ())) else l (some (false, ())) else cl (r20).dflt (M20 (x.2.1, ())) (fun u4 => bif (!u4.1) then bif (decide (u0.2.1 = (2 : Int))) then bif (decide (u0.1 = (0 : Int))) then bif (decide (u1.2.1 = (2 : Int))) then bif (decide (u1.1 = (0 : Int))) then cl (r22).dflt (M22 ()) (fun u5 => l (some u5)) (l none) else l (some (false, ())) else l (some (false, ())) else l (some (false, ())) else l (some (false, ())) else cl (r21).dflt (M21 x.2.2) (fun u6 => bif (!u6.1) then bif (decide (u0.2.1 = (2 : Int))) then bif (decide (u0.1 = (0 : Int))) then bif (decide (u1.2.1 = (2 : Int))) then bif (decide (u1.1 = (0 : Int))) then cl (r22).dflt (M22 ()) (fun u7 => l (some u7)) (l none) else l (some (false, ())) else l (some (false, ())) else l (some (false, ())) else l (some (false, ())) else bif (decide (u0.2.1 = (0 : Int))) then cl (r23).dflt (M23 x) (fun u8 => bif (decide (u0.1 = u8.1)) then bif (decide (u1.2.1 = (0 : Int))) then cl (r24).dflt (M24 x) (fun u9 => bif (decide (u1.1 = u9.1)) then cl (r22).dflt (M22 ()) (fun u10 => l (some u10)) (l none) else l (some (false, ()))) (l none) else l (some (false, ())) else l (some (false, ()))) (l none) else l (some (false, ()))) (l none)) (l none)) (l none)) (l none)) (l none)
theorem q3 (x : (a3).den) : runFn Try.prog E0 G3 Try.f3 l3 a3 r3 x = Q3 .leaf .any x := by kernel_rfl
def M3 (x : (a3).den) : Option (r3).den := Q3 (fun r => r) (fun _ _ => none) x
theorem m3 (x : (a3).den) : (runFn Try.prog E0 G3 Try.f3 l3 a3 r3 x).sure = M3 x := by rw [q3]; unfold M3 Q3; simp only [sure_cond, Tree.sure, sure_cl, sure_onExit, sure_onRet, sure_onPanL, sure_onNext, sure_onBrk, sure_onRetO, sure_onPan, sure_onOk, sure_onGPan]
def p3 (x : (a3).den) : Bool := (M3 x).isSome
def v3 (x : (a3).den) : (r3).den := (M3 x).getD (r3).dflt
def k3 : Con := ⟨a3, r3, p3, v3⟩
theorem h3 : Holds Try.prog 3 k3 := holds_of_M' (E := E0) follows_ok g3 eqTy_sound keyTy_sound at3 bd3 (by kernel_rfl) m3 fun G' hlo hF hE => LsOK_kn (by rw [lo3]; exact .nil)
/-- isobar/isobarref09.Excluded -/
noncomputable def c73 : Code := Try.f73.body.getD .skip
theorem at73 : Try.prog.funcs[73]? = some Try.f73 := by kernel_rfl
theorem bd73 : Try.f73.body = some c73 := by kernel_rfl
theorem cl73 : Callable Try.prog 73 := callable_of at73 (by kernel_rfl) (by kernel_rfl)
abbrev a73 : Ty := T39
abbrev r73 : Ty := T3
noncomputable def G73 : Ctx := Ctx.of [(26, .pure k26)]
theorem g73 : Sound Try.prog (G73) := sound_of (List.forall_mem_cons.2 ⟨⟨cl26, h26⟩, fun _ h => by cases h⟩)
theorem lo73 : loopsOf (c73) = [] := by kernel_rfl
noncomputable def l73 : List Loop := []
def Q73 {α : Type} (l : Option (r73).den → α) (an : α → α → α) (x : (a73).den) : α := cl (r26).dflt (M26 (x.1, (x.2.1, ()))) (fun u0 => bif (decide ((W ((2 : Int) * x.2.2.1)) = (0 : Int))) then l none else l (some ((decide (x.2.2.2.1 ≤ (W (Int.tdiv u0.1 (W ((2 : Int) * x.2.2.1)))))), ()))) (l none)
theorem q73 (x : (a73).den) : runFn Try.prog E0 G73 Try.f73 l73 a73 r73 x = Q73 .leaf .any x := by kernel_rfl
def M73 (x : (a73).den) : Option (r73).den := Q73 (fun r => r) (fun _ _ => none) x
theorem m73 (x : (a73).den) : (runFn Try.prog E0 G73 Try.f73 l73 a73 r73 x).sure = M73 x := by rw [q73]; unfold M73 Q73; simp only [sure_cond, Tree.sure, sure_cl, sure_onExit, sure_onRet, sure_onPanL, sure_onNext, sure_onBrk, sure_onRetO, sure_onPan, sure_onOk, sure_onGPan]
def p73 (x : (a73).den) : Bool := (M73 x).isSome
def v73 (x : (a73).den) : (r73).den := (M73 x).getD (r73).dflt
def k73 : Con := ⟨a73, r73, p73, v73⟩
theorem h73 : Holds Try.prog 73 k73 := holds_of_M' (E := E0) follows_ok g73 eqTy_sound keyTy_sound at73 bd73 (by kernel_rfl) m73 fun G' hlo hF hE => LsOK_kn (by rw [lo73]; exact .nil)
/-- isobar/isobarref09.Need -/
noncomputable def c32 : Code := Try.f32.body.getD .skip
theorem at32 : Try.prog.funcs[32]? = some Try.f32 := by kernel_rfl
theorem bd32 : Try.f32.body = some c32 := by kernel_rfl
theorem cl32 : Callable Try.prog 32 := callable_of at32 (by kernel_rfl) (by kernel_rfl)
abbrev a32 : Ty := T2
abbrev r32 : Ty := T1
noncomputable def G32 : Ctx := Ctx.of [(23, .pure k23), (24, .pure k24), (73, .pure k73)]
theorem g32 : Sound Try.prog (G32) := sound_of (List.forall_mem_cons.2 ⟨⟨cl23, h23⟩, List.forall_mem_cons.2 ⟨⟨cl24, h24⟩, List.forall_mem_cons.2 ⟨⟨cl73, h73⟩, fun _ h => by cases h⟩⟩⟩)
noncomputable def b32x0 : Code := loopBody ((loopsOf (c32))[0]?)
theorem lo32x0 : loopsOf (b32x0) = [] := by kernel_rfl
abbrev cs32x0 : List Pat := [.slot 0 (.pc tI), .slot 1 (.pc tI), .slot 2 (.pc tI), .slot 9 (.pc tI)]
abbrev vs32x0 : List Pat := [.slot 8 (.pc tI)]
abbrev ps32x0 : List Pat := [.slot 0 (.pc tI), .slot 1 (.pc tI), .slot 2 (.pc tI), .slot 9 (.pc tI), .slot 8 (.pc tI)]
def j32x0 : (patsTy cs32x0).den → (patsTy vs32x0).den → (patsTy ps32x0).den := fun c v => (c.1, (c.2.1, (c.2.2.1, (c.2.2.2.1, v))))
def sp32x0 : (patsTy ps32x0).den → (patsTy cs32x0).den × (patsTy vs32x0).den := fun x => ((x.1, (x.2.1, (x.2.2.1, (x.2.2.2.1, ())))), x.2.2.2.2)
abbrev wy32x0 : Ways := ⟨[(0, [.slot 0 (.pc tI), .slot 1 (.pc tI), .slot 2 (.pc tI), .slot 9 (.pc tI), .slot 8 (.pc tI)])], [], []⟩
abbrev wv32x0 : Ways := ⟨[(0, [.slot 8 (.pc tI)])], [], []⟩
def je32x0 : (id : Nat) → (patsTy cs32x0).den → (patsTy (wayP wv32x0 id)).den → (patsTy (wayP wy32x0 id)).den := fun id => match id with | 0 => fun c y => (c.1, (c.2.1, (c.2.2.1, (c.2.2.2.1, y)))) | id => fun _ _ => (patsTy (wayP wy32x0 id)).dflt
def jr32x0 : (patsTy cs32x0).den → (patsTy (wv32x0).ret).den → (patsTy (wy32x0).ret).den := fun c y => y
def jp32x0 : (patsTy cs32x0).den → (patsTy (wv32x0).pan).den → (patsTy (wy32x0).pan).den := fun c y => y
def Z32x0 {α : Type} (l : RQ vs32x0 wv32x0 → α) (an : α → α → α) (c : (patsTy cs32x0).den) (v : (patsTy vs32x0).den) : α := bif (decide (v.1 ≤ c.2.1)) then cl (r23).dflt (M23 (c.1, (c.2.1, v))) (fun u0 => cl (r73).dflt (M73 (c.1, (c.2.1, (c.2.2.1, u0)))) (fun u1 => bif (!u1.1) then l (.next ((W (v.1 + (1 : Int))), ())) else l (.out (.exit 0 v))) (l .bad)) (l .bad) else l (.out (.exit 0 v))
theorem z32x0 (c : (patsTy cs32x0).den) (v : (patsTy vs32x0).den) : roundQ Try.prog E0 G32 0 44 [] ps32x0 wy32x0 b32x0 [] (j32x0 c v) = Z32x0 (fun r => .leaf (r.lift j32x0 je32x0 jr32x0 jp32x0 c)) .any c v := by kernel_rfl
def S32x0 (c : (patsTy cs32x0).den) (v : (patsTy vs32x0).den) : RQ vs32x0 wv32x0 := Z32x0 (fun r => r) (fun _ _ => .bad) c v
theorem s32x0 (c : (patsTy cs32x0).den) (v : (patsTy vs32x0).den) : detQ (roundQ Try.prog E0 G32 0 44 [] ps32x0 wy32x0 b32x0 [] (j32x0 c v)) = (S32x0 c v).lift j32x0 je32x0 jr32x0 jp32x0 c := by rw [z32x0]; unfold S32x0 Z32x0; simp only [detQ_cond, lift_cond, lift_bad, detQ, detQ_cl, detQ_onExit, detQ_onRet, detQ_onPanL, detQ_onNext, detQ_onBrk, detQ_onRetO, detQ_onPan, detQ_onOk, detQ_onGPan, lift_cl, lift_onExit, lift_onRet, lift_onPanL, lift_onNext, lift_onBrk, lift_onRetO, lift_onPan, lift_onOk, lift_onGPan]
def L32x0 (c : (patsTy cs32x0).den) (v : (patsTy vs32x0).den) : LQ wv32x0 := iterQ (S32x0 c) big v
noncomputable def b32x1 : Code := loopBody ((loopsOf (c32))[1]?)
theorem lo32x1 : loopsOf (b32x1) = [] := by kernel_rfl
abbrev cs32x1 : List Pat := [.slot 0 (.pc tI), .slot 1 (.pc tI), .slot 2 (.pc tI), .slot 8 (.pc tI)]
abbrev vs32x1 : List Pat := [.slot 9 (.pc tI)]
abbrev ps32x1 : List Pat := [.slot 0 (.pc tI), .slot 1 (.pc tI), .slot 2 (.pc tI), .slot 8 (.pc tI), .slot 9 (.pc tI)]
def j32x1 : (patsTy cs32x1).den → (patsTy vs32x1).den → (patsTy ps32x1).den := fun c v => (c.1, (c.2.1, (c.2.2.1, (c.2.2.2.1, v))))
def sp32x1 : (patsTy ps32x1).den → (patsTy cs32x1).den × (patsTy vs32x1).den := fun x => ((x.1, (x.2.1, (x.2.2.1, (x.2.2.2.1, ())))), x.2.2.2.2)
abbrev wy32x1 : Ways := ⟨[(2, [.slot 8 (.pc tI), .slot 9 (.pc tI)])], [], []⟩
abbrev wv32x1 : Ways := ⟨[(2, [.slot 9 (.pc tI)])], [], []⟩
def je32x1 : (id : Nat) → (patsTy cs32x1).den → (patsTy (wayP wv32x1 id)).den → (patsTy (wayP wy32x1 id)).den := fun id => match id with | 2 => fun c y => (c.2.2.2.1, y) | id => fun _ _ => (patsTy (wayP wy32x1 id)).dflt
def jr32x1 : (patsTy cs32x1).den → (patsTy (wv32x1).ret).den → (patsTy (wy32x1).ret).den := fun c y => y
def jp32x1 : (patsTy cs32x1).den → (patsTy (wv32x1).pan).den → (patsTy (wy32x1).pan).den := fun c y => y
def Z32x1 {α : Type} (l : RQ vs32x1 wv32x1 → α) (an : α → α → α) (c : (patsTy cs32x1).den) (v : (patsTy vs32x1).den) : α := bif (decide (v.1 ≤ c.2.1)) then cl (r24).dflt (M24 (c.1, (c.2.1, v))) (fun u2 => cl (r73).dflt (M73 (c.1, (c.2.1, (c.2.2.1, u2)))) (fun u3 => bif (!u3.1) then l (.next ((W (v.1 + (1 : Int))), ())) else l (.out (.exit 2 v))) (l .bad)) (l .bad) else l (.out (.exit 2 v))
theorem z32x1 (c : (patsTy cs32x1).den) (v : (patsTy vs32x1).den) : roundQ Try.prog E0 G32 0 44 [] ps32x1 wy32x1 b32x1 [] (j32x1 c v) = Z32x1 (fun r => .leaf (r.lift j32x1 je32x1 jr32x1 jp32x1 c)) .any c v := by kernel_rfl
def S32x1 (c : (patsTy cs32x1).den) (v : (patsTy vs32x1).den) : RQ vs32x1 wv32x1 := Z32x1 (fun r => r) (fun _ _ => .bad) c v
theorem s32x1 (c : (patsTy cs32x1).den) (v : (patsTy vs32x1).den) : detQ (roundQ Try.prog E0 G32 0 44 [] ps32x1 wy32x1 b32x1 [] (j32x1 c v)) = (S32x1 c v).lift j32x1 je32x1 jr32x1 jp32x1 c := by rw [z32x1]; unfold S32x1 Z32x1; simp only [detQ_cond, lift_cond, lift_bad, detQ, detQ_cl, detQ_onExit, detQ_onRet, detQ_onPanL, detQ_onNext, detQ_onBrk, detQ_onRetO, detQ_onPan, detQ_onOk, detQ_onGPan, lift_cl, lift_onExit, lift_onRet, lift_onPanL, lift_onNext, lift_onBrk, lift_onRetO, lift_onPan, lift_onOk, lift_onGPan]
def L32x1 (c : (patsTy cs32x1).den) (v : (patsTy vs32x1).den) : LQ wv32x1 := iterQ (S32x1 c) big v
theorem lo32 : loopsOf (c32) = [.loop b32x0, .loop b32x1] := by kernel_rfl
noncomputable def l32 : List Loop := [.known (loopZ 0 [] ps32x0 fun x => spreadV wy32x0 je32x0 jr32x0 jp32x0 [] false (sp32x0 x).1 (L32x0 (sp32x0 x).1 (sp32x0 x).2) wy32x0.exits), .known (loopZ 0 [] ps32x1 fun x => spreadV wy32x1 je32x1 jr32x1 jp32x1 [] false (sp32x1 x).1 (L32x1 (sp32x1 x).1 (sp32x1 x).2) wy32x1.exits)]
def Q32 {α : Type} (l : Option (r32).den → α) (an : α → α → α) (x : (a32).den) : α := onExit (L32x0 (x.1, (x.2.1, (x.2.2.1, ((0 : Int), ())))) ((0 : Int), ())) 0 (fun u4 => onExit (L32x1 (x.1, (x.2.1, (x.2.2.1, u4))) ((0 : Int), ())) 2 (fun u5 => l (some (u4.1, u5))) (l none)) (l none)
theorem q32 (x : (a32).den) : runFn Try.prog E0 G32 Try.f32 l32 a32 r32 x = Q32 .leaf .any x := by kernel_rfl
def M32 (x : (a32).den) : Option (r32).den := Q32 (fun r => r) (fun _ _ => none) x
theorem m32 (x : (a32).den) : (runFn Try.prog E0 G32 Try.f32 l32 a32 r32 x).sure = M32 x := by rw [q32]; unfold M32 Q32; simp only [sure_cond, Tree.sure, sure_cl, sure_onExit, sure_onRet, sure_onPanL, sure_onNext, sure_onBrk, sure_onRetO, sure_onPan, sure_onOk, sure_onGPan]
def p32 (x : (a32).den) : Bool := (M32 x).isSome
def v32 (x : (a32).den) : (r32).den := (M32 x).getD (r32).dflt
def k32 : Con := ⟨a32, r32, p32, v32⟩
theorem h32 : Holds Try.prog 32 k32 := holds_of_M' (E := E0) follows_ok g32 eqTy_sound keyTy_sound at32 bd32 (by kernel_rfl) m32 fun G' hlo hF hE => LsOK_kn (by rw [lo32]; exact .cons (loopV_ok hE hF hlo (LsOK_kn (by rw [lo32x0]; exact .nil)) (by kernel_rfl) (by kernel_rfl) sp32x0 (fun _ => rfl) (fun _ _ => rfl) (s32x0) big) (.cons (loopV_ok hE hF hlo (LsOK_kn (by rw [lo32x1]; exact .nil)) (by kernel_rfl) (by kernel_rfl) sp32x1 (fun _ => rfl) (fun _ _ => rfl) (s32x1) big) (.nil)))
/-- isobar/isobarlaw09.WatchNeeds -/
noncomputable def c5 : Code := Try.f5.body.getD .skip
theorem at5 : Try.prog.funcs[5]? = some Try.f5 := by kernel_rfl
theorem bd5 : Try.f5.body = some c5 := by kernel_rfl
theorem cl5 : Callable Try.prog 5 := callable_of at5 (by kernel_rfl) (by kernel_rfl)
abbrev a5 : Ty := T2
abbrev r5 : Ty := T3
noncomputable def G5 : Ctx := Ctx.of [(19, .pure k19), (20, .pure k20), (22, .pure k22), (30, .pure k30), (31, .pure k31), (32, .pure k32)]
theorem g5 : Sound Try.prog (G5) := sound_of (List.forall_mem_cons.2 ⟨⟨cl19, h19⟩, List.forall_mem_cons.2 ⟨⟨cl20, h20⟩, List.forall_mem_cons.2 ⟨⟨cl22, h22⟩, List.forall_mem_cons.2 ⟨⟨cl30, h30⟩, List.forall_mem_cons.2 ⟨⟨cl31, h31⟩, List.forall_mem_cons.2 ⟨⟨cl32, h32⟩, fun _ h => by cases h⟩⟩⟩⟩⟩⟩)
theorem lo5 : loopsOf (c5) = [] := by kernel_rfl
noncomputable def l5 : List Loop := []
def Q5 {α : Type} (l : Option (r5).den → α) (an : α → α → α) (x : (a5).den) : α := cl (r30).dflt (M30 x) (fun u0 => cl (r19).dflt (M19 (x.1, ())) (fun u1 => bif (!u1.1) then bif (decide (u0.2.2.1 = (2 : Int))) then bif (decide (u0.1 = (0 : Int))) then bif (decide (u0.2.1 = (0 : Int))) then cl (r22).dflt (M22 ()) (fun u2 => l (some u2)) (l none) else l (some (false, ())) else l (some (false, ())) else l (some (false, ())) else cl (r20).dflt (M20 (x.2.1, ())) (fun u3 => bif (!u3.1) then bif (decide (u0.2.2.1 = (2 : Int))) then bif (decide (u0.1 = (0 : Int))) then bif (decide (u0.2.1 = (0 : Int))) then cl (r22).dflt (M22 ()) (fun u4 => l (some u4)) (l none) else l (some (false, ())) else l (some (false, ())) else l (some (false, ())) else cl (r31).dflt (M31 x.2.2) (fun u5 => bif (!u5.1) then bif (decide (u0.2.2.1 = (2 : Int))) then bif (decide (u0.1 = (0 : Int))) then bif (decide (u0.2.1 = (0 : Int))) then cl (r22).dflt (M22 ()) (fun u6 => l (some u6)) (l none) else l (some (false, ())) else l (some (false, ())) else l (some (false, ())) else cl (r32).dflt (M32 x) (fun u7 => bif (decide (u0.2.2.1 = (0 : Int))) then bif (decide (u0.1 = u7.1)) then bif (decide (u0.2.1 = u7.2.1)) then cl (r22).dflt (M22 ()) (fun u8 => l (some u8)) (l none) else l (some (false, ())) else l (some (false, ())) else l (some (false, ()))) (l none)) (l none)) (l none)) (l none)) (l none)
theorem q5 (x : (a5).den) : runFn Try.prog E0 G5 Try.f5 l5 a5 r5 x = Q5 .leaf .any x := by kernel_rfl
def M5 (x : (a5).den) : Option (r5).den := Q5 (fun r => r) (fun _ _ => none) x
theorem m5 (x : (a5).den) : (runFn Try.prog E0 G5 Try.f5 l5 a5 r5 x).sure = M5 x := by rw [q5]; unfold M5 Q5; simp only [sure_cond, Tree.sure, sure_cl, sure_onExit, sure_onRet, sure_onPanL, sure_onNext, sure_onBrk, sure_onRetO, sure_onPan, sure_onOk, sure_onGPan]
def p5 (x : (a5).den) : Bool := (M5 x).isSome
def v5 (x : (a5).den) : (r5).den := (M5 x).getD (r5).dflt
def k5 : Con := ⟨a5, r5, p5, v5⟩
theorem h5 : Holds Try.prog 5 k5 := holds_of_M' (E := E0) follows_ok g5 eqTy_sound keyTy_sound at5 bd5 (by kernel_rfl) m5 fun G' hlo hF hE => LsOK_kn (by rw [lo5]; exact .nil)
/-- isobar/isobarref09.Judge -/
noncomputable def c36 : Code := Try.f36.body.getD .skip
theorem at36 : Try.prog.funcs[36]? = some Try.f36 := by kernel_rfl
theorem bd36 : Try.f36.body = some c36 := by kernel_rfl
theorem cl36 : Callable Try.prog 36 := callable_of at36 (by kernel_rfl) (by kernel_rfl)
abbrev a36 : Ty := T28
abbrev r36 : Ty := T0
noncomputable def G36 : Ctx := Ctx.of [(23, .pure k23), (24, .pure k24), (28, .pure k28), (29, .pure k29), (45, .pure k45), (73, .pure k73)]
theorem g36 : Sound Try.prog (G36) := sound_of (List.forall_mem_cons.2 ⟨⟨cl23, h23⟩, List.forall_mem_cons.2 ⟨⟨cl24, h24⟩, List.forall_mem_cons.2 ⟨⟨cl28, h28⟩, List.forall_mem_cons.2 ⟨⟨cl29, h29⟩, List.forall_mem_cons.2 ⟨⟨cl45, h45⟩, List.forall_mem_cons.2 ⟨⟨cl73, h73⟩, fun _ h => by cases h⟩⟩⟩⟩⟩⟩)
theorem lo36 : loopsOf (c36) = [] := by kernel_rfl
noncomputable def l36 : List Loop := []
def Q36 {α : Type} (l : Option (r36).den → α) (an : α → α → α) (x : (a36).den) : α := cl (r45).dflt (M45 (x.1, ())) (fun u0 => cl (r28).dflt (M28 (x.1, ())) (fun u1 => cl (r23).dflt (M23 (x.1.1, (u0.1, u1))) (fun u2 => cl (r73).dflt (M73 (x.1.1, (u0.1, (x.1.2.1, u2)))) (fun u3 => bif u3.1 then l (some ((3 : Int), ())) else cl (r29).dflt (M29 (x.1, ())) (fun u4 => cl (r24).dflt (M24 (x.1.1, (u0.1, u4))) (fun u5 => cl (r73).dflt (M73 (x.1.1, (u0.1, (x.1.2.1, u5)))) (fun u6 => bif u6.1 then l (some ((2 : Int), ())) else l (some ((1 : Int), ()))) (l none)) (l none)) (l none)) (l none)) (l none)) (l none)) (l none)
theorem q36 (x : (a36).den) : runFn Try.prog E0 G36 Try.f36 l36 a36 r36 x = Q36 .leaf .any x := by kernel_rfl
def M36 (x : (a36).den) : Option (r36).den := Q36 (fun r => r) (fun _ _ => none) x
theorem m36 (x : (a36).den) : (runFn Try.prog E0 G36 Try.f36 l36 a36 r36 x).sure = M36 x := by rw [q36]; unfold M36 Q36; simp only [sure_cond, Tree.sure, sure_cl, sure_onExit, sure_onRet, sure_onPanL, sure_onNext, sure_onBrk, sure_onRetO, sure_onPan, sure_onOk, sure_onGPan]
def p36 (x : (a36).den) : Bool := (M36 x).isSome
def v36 (x : (a36).den) : (r36).den := (M36 x).getD (r36).dflt
def k36 : Con := ⟨a36, r36, p36, v36⟩
theorem h36 : Holds Try.prog 36 k36 := holds_of_M' (E := E0) follows_ok g36 eqTy_sound keyTy_sound at36 bd36 (by kernel_rfl) m36 fun G' hlo hF hE => LsOK_kn (by rw [lo36]; exact .nil)
/-- isobar/isobarlaw09.WatchJudges -/
noncomputable def c7 : Code := Try.f7.body.getD .skip
theorem at7 : Try.prog.funcs[7]? = some Try.f7 := by kernel_rfl
theorem bd7 : Try.f7.body = some c7 := by kernel_rfl
theorem cl7 : Callable Try.prog 7 := callable_of at7 (by kernel_rfl) (by kernel_rfl)
abbrev a7 : Ty := T28
abbrev r7 : Ty := T3
noncomputable def G7 : Ctx := Ctx.of [(22, .pure k22), (33, .pure k33), (34, .pure k34), (35, .pure k35), (36, .pure k36)]
theorem g7 : Sound Try.prog (G7) := sound_of (List.forall_mem_cons.2 ⟨⟨cl22, h22⟩, List.forall_mem_cons.2 ⟨⟨cl33, h33⟩, List.forall_mem_cons.2 ⟨⟨cl34, h34⟩, List.forall_mem_cons.2 ⟨⟨cl35, h35⟩, List.forall_mem_cons.2 ⟨⟨cl36, h36⟩, fun _ h => by cases h⟩⟩⟩⟩⟩)
theorem lo7 : loopsOf (c7) = [] := by kernel_rfl
noncomputable def l7 : List Loop := []
def Q7 {α : Type} (l : Option (r7).den → α) (an : α → α → α) (x : (a7).den) : α := cl (r33).dflt (M33 (x.1, ())) (fun u0 => bif (!u0.1) then cl (r22).dflt (M22 ()) (fun u1 => l (some u1)) (l none) else cl (r34).dflt (M34 (x.1, ())) (fun u2 => cl (r35).dflt (M35 (x.1, ())) (fun u3 => bif (!u3.1) then bif (decide (u2.2.1 = (2 : Int))) then bif (decide (u2.1 = (0 : Int))) then cl (r22).dflt (M22 ()) (fun u4 => l (some u4)) (l none) else l (some (false, ())) else l (some (false, ())) else bif (decide (u2.2.1 = (0 : Int))) then cl (r36).dflt (M36 (x.1, ())) (fun u5 => bif (decide (u2.1 = u5.1)) then cl (r22).dflt (M22 ()) (fun u6 => l (some u6)) (l none) else l (some (false, ()))) (l none) else l (some (false, ()))) (l none)) (l none)) (l none)
theorem q7 (x : (a7).den) : runFn Try.prog E0 G7 Try.f7 l7 a7 r7 x = Q7 .leaf .any x := by kernel_rfl
def M7 (x : (a7).den) : Option (r7).den := Q7 (fun r => r) (fun _ _ => none) x
theorem m7 (x : (a7).den) : (runFn Try.prog E0 G7 Try.f7 l7 a7 r7 x).sure = M7 x := by rw [q7]; unfold M7 Q7; simp only [sure_cond, Tree.sure, sure_cl, sure_onExit, sure_onRet, sure_onPanL, sure_onNext, sure_onBrk, sure_onRetO, sure_onPan, sure_onOk, sure_onGPan]
def p7 (x : (a7).den) : Bool := (M7 x).isSome
def v7 (x : (a7).den) : (r7).den := (M7 x).getD (r7).dflt
def k7 : Con := ⟨a7, r7, p7, v7⟩
theorem h7 : Holds Try.prog 7 k7 := holds_of_M' (E := E0) follows_ok g7 eqTy_sound keyTy_sound at7 bd7 (by kernel_rfl) m7 fun G' hlo hF hE => LsOK_kn (by rw [lo7]; exact .nil)
abbrev T77 : Ty := (.cons T27 T1)
/-- isobar/isobarlaw09.few -/
noncomputable def c25 : Code := Try.f25.body.getD .skip
theorem at25 : Try.prog.funcs[25]? = some Try.f25 := by kernel_rfl
theorem bd25 : Try.f25.body = some c25 := by kernel_rfl
theorem cl25 : Callable Try.prog 25 := callable_of at25 (by kernel_rfl) (by kernel_rfl)
abbrev a25 : Ty := T1
abbrev r25 : Ty := T3
noncomputable def G25 : Ctx := Ctx.of [(19, .pure k19), (26, .pure k26)]
theorem g25 : Sound Try.prog (G25) := sound_of (List.forall_mem_cons.2 ⟨⟨cl19, h19⟩, List.forall_mem_cons.2 ⟨⟨cl26, h26⟩, fun _ h => by cases h⟩⟩)
theorem lo25 : loopsOf (c25) = [] := by kernel_rfl
noncomputable def l25 : List Loop := []
def Q25 {α : Type} (l : Option (r25).den → α) (an : α → α → α) (x : (a25).den) : α := cl (r19).dflt (M19 (x.1, ())) (fun u0 => bif u0.1 then bif (decide ((0 : Int) ≤ x.2.1)) then bif (decide (x.2.1 ≤ (11 : Int))) then cl (r26).dflt (M26 x) (fun u1 => l (some ((decide (u1.1 ≤ (2500 : Int))), ()))) (l none) else l (some (false, ())) else l (some (false, ())) else l (some (false, ()))) (l none)
theorem q25 (x : (a25).den) : runFn Try.prog E0 G25 Try.f25 l25 a25 r25 x = Q25 .leaf .any x := by kernel_rfl
def M25 (x : (a25).den) : Option (r25).den := Q25 (fun r => r) (fun _ _ => none) x
theorem m25 (x : (a25).den) : (runFn Try.prog E0 G25 Try.f25 l25 a25 r25 x).sure = M25 x := by rw [q25]; unfold M25 Q25; simp only [sure_cond, Tree.sure, sure_cl, sure_onExit, sure_onRet, sure_onPanL, sure_onNext, sure_onBrk, sure_onRetO, sure_onPan, sure_onOk, sure_onGPan]
def p25 (x : (a25).den) : Bool := (M25 x).isSome
def v25 (x : (a25).den) : (r25).den := (M25 x).getD (r25).dflt
def k25 : Con := ⟨a25, r25, p25, v25⟩
theorem h25 : Holds Try.prog 25 k25 := holds_of_M' (E := E0) follows_ok g25 eqTy_sound keyTy_sound at25 bd25 (by kernel_rfl) m25 fun G' hlo hF hE => LsOK_kn (by rw [lo25]; exact .nil)
/-- isobar/isobarlaw09.list -/
noncomputable def c27 : Code := Try.f27.body.getD .skip
theorem at27 : Try.prog.funcs[27]? = some Try.f27 := by kernel_rfl
theorem bd27 : Try.f27.body = some c27 := by kernel_rfl
theorem cl27 : Callable Try.prog 27 := callable_of at27 (by kernel_rfl) (by kernel_rfl)
abbrev a27 : Ty := T2
abbrev r27 : Ty := T4
noncomputable def G27 : Ctx := Ctx.of []
theorem g27 : Sound Try.prog (G27) := sound_of (fun _ h => by cases h)
noncomputable def b27x0 : Code := loopBody ((loopsOf (c27))[0]?)
theorem lo27x0 : loopsOf (b27x0) = [] := by kernel_rfl
abbrev cs27x0 : List Pat := [.slot 0 (.pc tI), .slot 1 (.pc tI)]
abbrev vs27x0 : List Pat := [.slot 2 (.pc tI), .slot 7 (.own 1000007 3 T0), .slot 8 (.pc tI)]
abbrev ps27x0 : List Pat := [.slot 0 (.pc tI), .slot 1 (.pc tI), .slot 2 (.pc tI), .slot 7 (.own 1000007 3 T0), .slot 8 (.pc tI)]
def j27x0 : (patsTy cs27x0).den → (patsTy vs27x0).den → (patsTy ps27x0).den := fun c v => (c.1, (c.2.1, v))
def sp27x0 : (patsTy ps27x0).den → (patsTy cs27x0).den × (patsTy vs27x0).den := fun x => ((x.1, (x.2.1, ())), x.2.2)
abbrev wy27x0 : Ways := ⟨[(0, [.slot 7 (.pc (.sl T0))])], [], []⟩
abbrev wv27x0 : Ways := ⟨[(0, [.slot 7 (.pc (.sl T0))])], [], []⟩
def je27x0 : (id : Nat) → (patsTy cs27x0).den → (patsTy (wayP wv27x0 id)).den → (patsTy (wayP wy27x0 id)).den := fun id => match id with | 0 => fun c y => y | id => fun _ _ => (patsTy (wayP wy27x0 id)).dflt
def jr27x0 : (patsTy cs27x0).den → (patsTy (wv27x0).ret).den → (patsTy (wy27x0).ret).den := fun c y => y
def jp27x0 : (patsTy cs27x0).den → (patsTy (wv27x0).pan).den → (patsTy (wy27x0).pan).den := fun c y => y
def Z27x0 {α : Type} (l : RQ vs27x0 wv27x0 → α) (an : α → α → α) (c : (patsTy cs27x0).den) (v : (patsTy vs27x0).den) : α := bif (decide (v.2.2.1 < c.2.1)) then bif (decide (c.1 = (0 : Int))) then l .bad else bif (decide (((v.2.1.n + 1) * 8) ≤ 140737488355328)) then bif (decide (c.1 = (0 : Int))) then l .bad else l (.next ((W (Int.tdiv v.1 c.1)), ((catSl v.2.1 (⟨1, fun i => List.getD [((Int.tmod v.1 c.1), ())] i ((Int.tmod v.1 c.1), ())⟩ : Sl (Ty.den T0))), ((W (v.2.2.1 + (1 : Int))), ())))) else l .bad else l (.out (.exit 0 (v.2.1, ())))
theorem z27x0 (c : (patsTy cs27x0).den) (v : (patsTy vs27x0).den) : roundQ Try.prog E0 G27 0 24 [] ps27x0 wy27x0 b27x0 [] (j27x0 c v) = Z27x0 (fun r => .leaf (r.lift j27x0 je27x0 jr27x0 jp27x0 c)) .any c v := by kernel_rfl
def S27x0 (c : (patsTy cs27x0).den) (v : (patsTy vs27x0).den) : RQ vs27x0 wv27x0 := Z27x0 (fun r => r) (fun _ _ => .bad) c v
theorem s27x0 (c : (patsTy cs27x0).den) (v : (patsTy vs27x0).den) : detQ (roundQ Try.prog E0 G27 0 24 [] ps27x0 wy27x0 b27x0 [] (j27x0 c v)) = (S27x0 c v).lift j27x0 je27x0 jr27x0 jp27x0 c := by rw [z27x0]; unfold S27x0 Z27x0; simp only [detQ_cond, lift_cond, lift_bad, detQ, detQ_cl, detQ_onExit, detQ_onRet, detQ_onPanL, detQ_onNext, detQ_onBrk, detQ_onRetO, detQ_onPan, detQ_onOk, detQ_onGPan, lift_cl, lift_onExit, lift_onRet, lift_onPanL, lift_onNext, lift_onBrk, lift_onRetO, lift_onPan, lift_onOk, lift_onGPan]
def L27x0 (c : (patsTy cs27x0).den) (v : (patsTy vs27x0).den) : LQ wv27x0 := iterQ (S27x0 c) big v
theorem lo27 : loopsOf (c27) = [.loop b27x0] := by kernel_rfl
noncomputable def l27 : List Loop := [.known (loopZ 0 [] ps27x0 fun x => spreadV wy27x0 je27x0 jr27x0 jp27x0 [] false (sp27x0 x).1 (L27x0 (sp27x0 x).1 (sp27x0 x).2) wy27x0.exits)]
def Q27 {α : Type} (l : Option (r27).den → α) (an : α → α → α) (x : (a27).den) : α := onExit (L27x0 (x.1, (x.2.1, ())) (x.2.2.1, ((⟨0, fun i => ((0 : Int), ())⟩ : Sl _), ((0 : Int), ())))) 0 (fun u0 => l (some u0)) (l none)
theorem q27 (x : (a27).den) : runFn Try.prog E0 G27 Try.f27 l27 a27 r27 x = Q27 .leaf .any x := by kernel_rfl
def M27 (x : (a27).den) : Option (r27).den := Q27 (fun r => r) (fun _ _ => none) x
theorem m27 (x : (a27).den) : (runFn Try.prog E0 G27 Try.f27 l27 a27 r27 x).sure = M27 x := by rw [q27]; unfold M27 Q27; simp only [sure_cond, Tree.sure, sure_cl, sure_onExit, sure_onRet, sure_onPanL, sure_onNext, sure_onBrk, sure_onRetO, sure_onPan, sure_onOk, sure_onGPan]
def p27 (x : (a27).den) : Bool := (M27 x).isSome
def v27 (x : (a27).den) : (r27).den := (M27 x).getD (r27).dflt
def k27 : Con := ⟨a27, r27, p27, v27⟩
theorem h27 : Holds Try.prog 27 k27 := holds_of_M' (E := E0) follows_ok g27 eqTy_sound keyTy_sound at27 bd27 (by kernel_rfl) m27 fun G' hlo hF hE => LsOK_kn (by rw [lo27]; exact .cons (loopV_ok hE hF hlo (LsOK_kn (by rw [lo27x0]; exact .nil)) (by kernel_rfl) (by kernel_rfl) sp27x0 (fun _ => rfl) (fun _ _ => rfl) (s27x0) big) (.nil))
/-- isobar/isobarlaw09.WatchCounted -/
noncomputable def c4 : Code := Try.f4.body.getD .skip
theorem at4 : Try.prog.funcs[4]? = some Try.f4 := by kernel_rfl
theorem bd4 : Try.f4.body = some c4 := by kernel_rfl
theorem cl4 : Callable Try.prog 4 := callable_of at4 (by kernel_rfl) (by kernel_rfl)
abbrev a4 : Ty := T39
abbrev r4 : Ty := T3
noncomputable def G4 : Ctx := Ctx.of [(17, .pure k17), (18, .pure k18), (21, .pure k21), (22, .pure k22), (25, .pure k25), (26, .pure k26), (27, .pure k27), (28, .pure k28), (29, .pure k29)]
theorem g4 : Sound Try.prog (G4) := sound_of (List.forall_mem_cons.2 ⟨⟨cl17, h17⟩, List.forall_mem_cons.2 ⟨⟨cl18, h18⟩, List.forall_mem_cons.2 ⟨⟨cl21, h21⟩, List.forall_mem_cons.2 ⟨⟨cl22, h22⟩, List.forall_mem_cons.2 ⟨⟨cl25, h25⟩, List.forall_mem_cons.2 ⟨⟨cl26, h26⟩, List.forall_mem_cons.2 ⟨⟨cl27, h27⟩, List.forall_mem_cons.2 ⟨⟨cl28, h28⟩, List.forall_mem_cons.2 ⟨⟨cl29, h29⟩, fun _ h => by cases h⟩⟩⟩⟩⟩⟩⟩⟩⟩)
noncomputable def b4x0 : Code := loopBody ((loopsOf (c4))[0]?)
theorem lo4x0 : loopsOf (b4x0) = [] := by kernel_rfl
abbrev cs4x0 : List Pat := [.slot 0 (.pc tI), .slot 1 (.pc tI), .slot 2 (.pc tI), .slot 9 (.pc tI), .slot 11 (.pc tI), .slot 15 (.pc (.sl T0))]
abbrev vs4x0 : List Pat := [.slot 13 (.pc tI), .slot 14 (.pc tI), .slot 16 (.pc tI)]
abbrev ps4x0 : List Pat := [.slot 0 (.pc tI), .slot 1 (.pc tI), .slot 2 (.pc tI), .slot 9 (.pc tI), .slot 11 (.pc tI), .slot 15 (.pc (.sl T0)), .slot 13 (.pc tI), .slot 14 (.pc tI), .slot 16 (.pc tI)]
def j4x0 : (patsTy cs4x0).den → (patsTy vs4x0).den → (patsTy ps4x0).den := fun c v => (c.1, (c.2.1, (c.2.2.1, (c.2.2.2.1, (c.2.2.2.2.1, (c.2.2.2.2.2.1, v))))))
def sp4x0 : (patsTy ps4x0).den → (patsTy cs4x0).den × (patsTy vs4x0).den := fun x => ((x.1, (x.2.1, (x.2.2.1, (x.2.2.2.1, (x.2.2.2.2.1, (x.2.2.2.2.2.1, ())))))), x.2.2.2.2.2.2)
abbrev wy4x0 : Ways := ⟨[(0, [.slot 9 (.pc tI), .slot 11 (.pc tI), .slot 13 (.pc tI), .slot 14 (.pc tI)])], [], []⟩
abbrev wv4x0 : Ways := ⟨[(0, [.slot 13 (.pc tI), .slot 14 (.pc tI)])], [], []⟩
def je4x0 : (id : Nat) → (patsTy cs4x0).den → (patsTy (wayP wv4x0 id)).den → (patsTy (wayP wy4x0 id)).den := fun id => match id with | 0 => fun c y => (c.2.2.2.1, (c.2.2.2.2.1, y)) | id => fun _ _ => (patsTy (wayP wy4x0 id)).dflt
def jr4x0 : (patsTy cs4x0).den → (patsTy (wv4x0).ret).den → (patsTy (wy4x0).ret).den := fun c y => y
def jp4x0 : (patsTy cs4x0).den → (patsTy (wv4x0).pan).den → (patsTy (wy4x0).pan).den := fun c y => y
def Z4x0 {α : Type} (l : RQ vs4x0 wv4x0 → α) (an : α → α → α) (c : (patsTy cs4x0).den) (v : (patsTy vs4x0).den) : α := cl (r26).dflt (M26 (c.1, (c.2.1, ()))) (fun u0 => bif (decide (v.2.2.1 < u0.1)) then cl (r27).dflt (M27 (c.1, (c.2.1, v.2.2))) (fun u1 => cl (r28).dflt (M28 ((c.1, ((0 : Int), (u1.1, c.2.2.2.2.2))), ())) (fun u2 => bif (decide (c.2.2.1 ≤ u2.1)) then cl (r29).dflt (M29 ((c.1, ((0 : Int), (u1.1, c.2.2.2.2.2))), ())) (fun u3 => bif (decide (c.2.2.1 ≤ u3.1)) then l (.next ((W (v.1 + (1 : Int))), ((W (v.2.1 + (1 : Int))), ((W (v.2.2.1 + (1 : Int))), ())))) else l (.next ((W (v.1 + (1 : Int))), (v.2.1, ((W (v.2.2.1 + (1 : Int))), ()))))) (l .bad) else cl (r29).dflt (M29 ((c.1, ((0 : Int), (u1.1, c.2.2.2.2.2))), ())) (fun u4 => bif (decide (c.2.2.1 ≤ u4.1)) then l (.next (v.1, ((W (v.2.1 + (1 : Int))), ((W (v.2.2.1 + (1 : Int))), ())))) else l (.next (v.1, (v.2.1, ((W (v.2.2.1 + (1 : Int))), ()))))) (l .bad)) (l .bad)) (l .bad) else l (.out (.exit 0 (v.1, (v.2.1, ()))))) (l .bad)
theorem z4x0 (c : (patsTy cs4x0).den) (v : (patsTy vs4x0).den) : roundQ Try.prog E0 G4 0 100 [] ps4x0 wy4x0 b4x0 [] (j4x0 c v) = Z4x0 (fun r => .leaf (r.lift j4x0 je4x0 jr4x0 jp4x0 c)) .any c v := by kernel_rfl
def S4x0 (c : (patsTy cs4x0).den) (v : (patsTy vs4x0).den) : RQ vs4x0 wv4x0 := Z4x0 (fun r => r) (fun _ _ => .bad) c v
theorem s4x0 (c : (patsTy cs4x0).den) (v : (patsTy vs4x0).den) : detQ (roundQ Try.prog E0 G4 0 100 [] ps4x0 wy4x0 b4x0 [] (j4x0 c v)) = (S4x0 c v).lift j4x0 je4x0 jr4x0 jp4x0 c := by rw [z4x0]; unfold S4x0 Z4x0; simp only [detQ_cond, lift_cond, lift_bad, detQ, detQ_cl, detQ_onExit, detQ_onRet, detQ_onPanL, detQ_onNext, detQ_onBrk, detQ_onRetO, detQ_onPan, detQ_onOk, detQ_onGPan, lift_cl, lift_onExit, lift_onRet, lift_onPanL, lift_onNext, lift_onBrk, lift_onRetO, lift_onPan, lift_onOk, lift_onGPan]
def L4x0 (c : (patsTy cs4x0).den) (v : (patsTy vs4x0).den) : LQ wv4x0 := iterQ (S4x0 c) big v
theorem lo4 : loopsOf (c4) = [.loop b4x0] := by kernel_rfl
noncomputable def l4 : List Loop := [.known (loopZ 0 [] ps4x0 fun x => spreadV wy4x0 je4x0 jr4x0 jp4x0 [] false (sp4x0 x).1 (L4x0 (sp4x0 x).1 (sp4x0 x).2) wy4x0.exits)]
def Q4 {α : Type} (l : Option (r4).den → α) (an : α → α → α) (x : (a4).den) : α := cl (r25).dflt (M25 (x.1, (x.2.1, ()))) (fun u5 => bif (!u5.1) then cl (r22).dflt (M22 ()) (fun u6 => l (some u6)) (l none) else cl (r21).dflt (M21 (x.2.2.1, ())) (fun u7 => bif (!u7.1) then cl (r22).dflt (M22 ()) (fun u8 => l (some u8)) (l none) else bif (decide (x.2.2.2.1 < (0 : Int))) then cl (r22).dflt (M22 ()) (fun u9 => l (some u9)) (l none) else cl (r26).dflt (M26 (x.1, (x.2.1, ()))) (fun u10 => bif (decide (u10.1 ≤ x.2.2.2.1)) then cl (r22).dflt (M22 ()) (fun u11 => l (some u11)) (l none) else cl (r17).dflt (M17 (x.1, (x.2.1, (x.2.2.1, ())))) (fun u12 => cl (r18).dflt (M18 (x.1, (x.2.1, (x.2.2.1, ())))) (fun u13 => bif (!(decide (u12.2.1 = (0 : Int)))) then l (some (false, ())) else bif (!(decide (u13.2.1 = (0 : Int)))) then l (some (false, ())) else cl (r27).dflt (M27 (x.1, (x.2.1, x.2.2.2))) (fun u14 => onExit (L4x0 (x.1, (x.2.1, (x.2.2.1, (u12.1, (u13.1, u14))))) ((0 : Int), ((0 : Int), ((0 : Int), ())))) 0 (fun u15 => bif (decide (u12.1 = u15.1)) then bif (decide (u13.1 = u15.2.1)) then cl (r22).dflt (M22 ()) (fun u16 => l (some u16)) (l none) else l (some (false, ())) else l (some (false, ()))) (l none)) (l none)) (l none)) (l none)) (l none)) (l none)) (l none)
theorem q4 (x : (a4).den) : runFn Try.prog E0 G4 Try.f4 l4 a4 r4 x = Q4 .leaf .any x := by kernel_rfl
def M4 (x : (a4).den) : Option (r4).den := Q4 (fun r => r) (fun _ _ => none) x
theorem m4 (x : (a4).den) : (runFn Try.prog E0 G4 Try.f4 l4 a4 r4 x).sure = M4 x := by rw [q4]; unfold M4 Q4; simp only [sure_cond, Tree.sure, sure_cl, sure_onExit, sure_onRet, sure_onPanL, sure_onNext, sure_onBrk, sure_onRetO, sure_onPan, sure_onOk, sure_onGPan]
def p4 (x : (a4).den) : Bool := (M4 x).isSome
def v4 (x : (a4).den) : (r4).den := (M4 x).getD (r4).dflt
def k4 : Con := ⟨a4, r4, p4, v4⟩
theorem h4 : Holds Try.prog 4 k4 := holds_of_M' (E := E0) follows_ok g4 eqTy_sound keyTy_sound at4 bd4 (by kernel_rfl) m4 fun G' hlo hF hE => LsOK_kn (by rw [lo4]; exact .cons (loopV_ok hE hF hlo (LsOK_kn (by rw [lo4x0]; exact .nil)) (by kernel_rfl) (by kernel_rfl) sp4x0 (fun _ => rfl) (fun _ _ => rfl) (s4x0) big) (.nil))
/-- isobar/isobarlaw09.WatchHonest -/
noncomputable def c8 : Code := Try.f8.body.getD .skip
theorem at8 : Try.prog.funcs[8]? = some Try.f8 := by kernel_rfl
theorem bd8 : Try.f8.body = some c8 := by kernel_rfl
theorem cl8 : Callable Try.prog 8 := callable_of at8 (by kernel_rfl) (by kernel_rfl)
abbrev a8 : Ty := T39
abbrev r8 : Ty := T3
noncomputable def G8 : Ctx := Ctx.of [(22, .pure k22), (25, .pure k25), (26, .pure k26), (27, .pure k27), (31, .pure k31), (34, .pure k34), (37, .pure k37)]
theorem g8 : Sound Try.prog (G8) := sound_of (List.forall_mem_cons.2 ⟨⟨cl22, h22⟩, List.forall_mem_cons.2 ⟨⟨cl25, h25⟩, List.forall_mem_cons.2 ⟨⟨cl26, h26⟩, List.forall_mem_cons.2 ⟨⟨cl27, h27⟩, List.forall_mem_cons.2 ⟨⟨cl31, h31⟩, List.forall_mem_cons.2 ⟨⟨cl34, h34⟩, List.forall_mem_cons.2 ⟨⟨cl37, h37⟩, fun _ h => by cases h⟩⟩⟩⟩⟩⟩⟩)
noncomputable def b8x0 : Code := loopBody ((loopsOf (c8))[0]?)
theorem lo8x0 : loopsOf (b8x0) = [] := by kernel_rfl
abbrev cs8x0 : List Pat := [.slot 0 (.pc tI), .slot 1 (.pc tI), .slot 2 (.pc tI), .slot 12 (.pc (.sl T0))]
abbrev vs8x0 : List Pat := [.slot 9 (.pc tI), .slot 10 (.pc tI), .slot 11 (.pc tI), .slot 13 (.pc tI)]
abbrev ps8x0 : List Pat := [.slot 0 (.pc tI), .slot 1 (.pc tI), .slot 2 (.pc tI), .slot 12 (.pc (.sl T0)), .slot 9 (.pc tI), .slot 10 (.pc tI), .slot 11 (.pc tI), .slot 13 (.pc tI)]
def j8x0 : (patsTy cs8x0).den → (patsTy vs8x0).den → (patsTy ps8x0).den := fun c v => (c.1, (c.2.1, (c.2.2.1, (c.2.2.2.1, v))))
def sp8x0 : (patsTy ps8x0).den → (patsTy cs8x0).den × (patsTy vs8x0).den := fun x => ((x.1, (x.2.1, (x.2.2.1, (x.2.2.2.1, ())))), x.2.2.2.2)
abbrev wy8x0 : Ways := ⟨[(0, [.slot 0 (.pc tI), .slot 1 (.pc tI), .slot 2 (.pc tI), .slot 9 (.pc tI), .slot 10 (.pc tI), .slot 11 (.pc tI)])], [.slot 8 (.pc .bool)], []⟩
abbrev wv8x0 : Ways := ⟨[(0, [.slot 9 (.pc tI), .slot 10 (.pc tI), .slot 11 (.pc tI)])], [.slot 8 (.pc .bool)], []⟩
def je8x0 : (id : Nat) → (patsTy cs8x0).den → (patsTy (wayP wv8x0 id)).den → (patsTy (wayP wy8x0 id)).den := fun id => match id with | 0 => fun c y => (c.1, (c.2.1, (c.2.2.1, y))) | id => fun _ _ => (patsTy (wayP wy8x0 id)).dflt
def jr8x0 : (patsTy cs8x0).den → (patsTy (wv8x0).ret).den → (patsTy (wy8x0).ret).den := fun c y => y
def jp8x0 : (patsTy cs8x0).den → (patsTy (wv8x0).pan).den → (patsTy (wy8x0).pan).den := fun c y => y
def Z8x0 {α : Type} (l : RQ vs8x0 wv8x0 → α) (an : α → α → α) (c : (patsTy cs8x0).den) (v : (patsTy vs8x0).den) : α := cl (r26).dflt (M26 (c.1, (c.2.1, ()))) (fun u0 => bif (decide (v.2.2.2.1 < u0.1)) then cl (r27).dflt (M27 (c.1, (c.2.1, v.2.2.2))) (fun u1 => cl (r34).dflt (M34 ((c.1, (c.2.2.1, (u1.1, c.2.2.2))), ())) (fun u2 => cl (r37).dflt (M37 ((c.1, (c.2.2.1, (u1.1, c.2.2.2))), ())) (fun u3 => bif (!(decide (u2.2.1 = (0 : Int)))) then l (.out (.ret (false, ()))) else bif (!(decide (u3.2.2.2.1 = (0 : Int)))) then l (.out (.ret (false, ()))) else bif (decide (u2.1 < (1 : Int))) then l (.out (.ret (false, ()))) else bif (decide ((3 : Int) < u2.1)) then l (.out (.ret (false, ()))) else bif (!(decide (u2.1 = (1 : Int)))) then bif (decide (u2.1 = (3 : Int))) then l (.next ((W (v.1 + (1 : Int))), ((mn v.2.1 u3.2.1), (v.2.2.1, ((W (v.2.2.2.1 + (1 : Int))), ()))))) else l (.next ((W (v.1 + (1 : Int))), (v.2.1, ((mx v.2.2.1 u3.2.1), ((W (v.2.2.2.1 + (1 : Int))), ()))))) else bif (decide (u2.1 = (3 : Int))) then l (.next (v.1, ((mn v.2.1 u3.2.1), (v.2.2.1, ((W (v.2.2.2.1 + (1 : Int))), ()))))) else l (.next (v.1, (v.2.1, ((mx v.2.2.1 u3.2.1), ((W (v.2.2.2.1 + (1 : Int))), ())))))) (l .bad)) (l .bad)) (l .bad) else l (.out (.exit 0 (v.1, (v.2.1, (v.2.2.1, ())))))) (l .bad)
theorem z8x0 (c : (patsTy cs8x0).den) (v : (patsTy vs8x0).den) : roundQ Try.prog E0 G8 0 116 [] ps8x0 wy8x0 b8x0 [] (j8x0 c v) = Z8x0 (fun r => .leaf (r.lift j8x0 je8x0 jr8x0 jp8x0 c)) .any c v := by kernel_rfl
def S8x0 (c : (patsTy cs8x0).den) (v : (patsTy vs8x0).den) : RQ vs8x0 wv8x0 := Z8x0 (fun r => r) (fun _ _ => .bad) c v
theorem s8x0 (c : (patsTy cs8x0).den) (v : (patsTy vs8x0).den) : detQ (roundQ Try.prog E0 G8 0 116 [] ps8x0 wy8x0 b8x0 [] (j8x0 c v)) = (S8x0 c v).lift j8x0 je8x0 jr8x0 jp8x0 c := by rw [z8x0]; unfold S8x0 Z8x0; simp only [detQ_cond, lift_cond, lift_bad, detQ, detQ_cl, detQ_onExit, detQ_onRet, detQ_onPanL, detQ_onNext, detQ_onBrk, detQ_onRetO, detQ_onPan, detQ_onOk, detQ_onGPan, lift_cl, lift_onExit, lift_onRet, lift_onPanL, lift_onNext, lift_onBrk, lift_onRetO, lift_onPan, lift_onOk, lift_onGPan]
def L8x0 (c : (patsTy cs8x0).den) (v : (patsTy vs8x0).den) : LQ wv8x0 := iterQ (S8x0 c) big v
theorem lo8 : loopsOf (c8) = [.loop b8x0] := by kernel_rfl
noncomputable def l8 : List Loop := [.known (loopZ 0 [] ps8x0 fun x => spreadV wy8x0 je8x0 jr8x0 jp8x0 [] true (sp8x0 x).1 (L8x0 (sp8x0 x).1 (sp8x0 x).2) wy8x0.exits)]
def Q8 {α : Type} (l : Option (r8).den → α) (an : α → α → α) (x : (a8).den) : α := cl (r25).dflt (M25 (x.1, (x.2.1, ()))) (fun u4 => bif (!u4.1) then cl (r22).dflt (M22 ()) (fun u5 => l (some u5)) (l none) else cl (r31).dflt (M31 (x.2.2.1, ())) (fun u6 => bif (!u6.1) then cl (r22).dflt (M22 ()) (fun u7 => l (some u7)) (l none) else bif (decide (x.2.2.2.1 < (0 : Int))) then cl (r22).dflt (M22 ()) (fun u8 => l (some u8)) (l none) else cl (r26).dflt (M26 (x.1, (x.2.1, ()))) (fun u9 => bif (decide (u9.1 ≤ x.2.2.2.1)) then cl (r22).dflt (M22 ()) (fun u10 => l (some u10)) (l none) else cl (r27).dflt (M27 (x.1, (x.2.1, x.2.2.2))) (fun u11 => onExit (L8x0 (x.1, (x.2.1, (x.2.2.1, u11))) ((0 : Int), ((W (x.2.1 + (1 : Int))), ((-1 : Int), ((0 : Int), ()))))) 0 (fun u12 => cl (r26).dflt (M26 (x.1, (x.2.1, ()))) (fun u13 => bif (decide (x.2.2.1 = (0 : Int))) then l none else bif (decide (u12.1 ≤ (W (Int.tdiv u9.1 x.2.2.1)))) then bif (decide (u12.2.2.1 < u12.2.1)) then cl (r22).dflt (M22 ()) (fun u14 => l (some u14)) (l none) else l (some (false, ())) else l (some (false, ()))) (l none)) (onRet (L8x0 (x.1, (x.2.1, (x.2.2.1, u11))) ((0 : Int), ((W (x.2.1 + (1 : Int))), ((-1 : Int), ((0 : Int), ()))))) (fun u15 => l (some u15)) (l none))) (l none)) (l none)) (l none)) (l none)
theorem q8 (x : (a8).den) : runFn Try.prog E0 G8 Try.f8 l8 a8 r8 x = Q8 .leaf .any x := by kernel_rfl
def M8 (x : (a8).den) : Option (r8).den := Q8 (fun r => r) (fun _ _ => none) x
theorem m8 (x : (a8).den) : (runFn Try.prog E0 G8 Try.f8 l8 a8 r8 x).sure = M8 x := by rw [q8]; unfold M8 Q8; simp only [sure_cond, Tree.sure, sure_cl, sure_onExit, sure_onRet, sure_onPanL, sure_onNext, sure_onBrk, sure_onRetO, sure_onPan, sure_onOk, sure_onGPan]
def p8 (x : (a8).den) : Bool := (M8 x).isSome
def v8 (x : (a8).den) : (r8).den := (M8 x).getD (r8).dflt
def k8 : Con := ⟨a8, r8, p8, v8⟩
theorem h8 : Holds Try.prog 8 k8 := holds_of_M' (E := E0) follows_ok g8 eqTy_sound keyTy_sound at8 bd8 (by kernel_rfl) m8 fun G' hlo hF hE => LsOK_kn (by rw [lo8]; exact .cons (loopV_ok hE hF hlo (LsOK_kn (by rw [lo8x0]; exact .nil)) (by kernel_rfl) (by kernel_rfl) sp8x0 (fun _ => rfl) (fun _ _ => rfl) (s8x0) big) (.nil))
abbrev T78 : Ty := (.cons (.sl T4) .nil)
abbrev T79 : Ty := (.cons T48 T33)

end Go.Dm

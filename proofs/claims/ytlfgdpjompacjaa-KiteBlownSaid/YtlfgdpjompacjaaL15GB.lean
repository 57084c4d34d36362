/-
  Each function of the program as a Lean function, and that its calls come to what that says.
-/
import Derived.Test.YtlfgdpjompacjaaL15GA
set_option linter.unusedVariables false
set_option linter.unusedSimpArgs false
namespace Go.Dm
open Go.RowKit Go.Proofs
set_option maxRecDepth 100000
/-- (isobar/kite.flight).blow -/
noncomputable def c122 : Code := Try.f122.body.getD .skip
theorem at122 : Try.prog.funcs[122]? = some Try.f122 := by kernel_rfl
theorem bd122 : Try.f122.body = some c122 := by kernel_rfl
theorem cl122 : Callable Try.prog 122 := callable_of at122 (by kernel_rfl) (by kernel_rfl)
abbrev T77 : Ty := (.cons tI T51)
abbrev T78 : Ty := (.cons T57 T77)
abbrev T79 : Ty := (.cons (.sl T0) T3)
abbrev a122 : Ty := T78
abbrev r122 : Ty := T79
noncomputable def G122 : Ctx := Ctx.of [(123, .pure k123), (124, .gen (gappD Try.f124.ntmps r124 ps124 pans124 (F124 6)))]
theorem g122 : Sound Try.prog (G122) := sound_of (List.forall_mem_cons.2 ⟨⟨cl123, h123⟩, List.forall_mem_cons.2 ⟨⟨cl124, h124 6⟩, fun _ h => by cases h⟩⟩)
theorem lo122 : loopsOf (c122) = [] := by kernel_rfl
noncomputable def l122 : List Loop := []
def Q122 {α : Type} (l : Option (r122).den → α) (an : α → α → α) (x : (a122).den) : α := cl (r123).dflt (M123 (x.1, (x.2.1, ()))) (fun u0 => bif (decide (((0 : Int) ≤ ((x.2.2.1.n : Nat) : Int)) ∧ ((((x.2.2.1.n : Nat) : Int) ≤ (281474976710656 : Int)) ∧ ((((x.2.2.1.n : Nat) : Int) * (8 : Int)) ≤ (281474976710656 : Int))))) then onOk (F124 6 (((0 : Int), ((0 : Int), ())), ((), ((), ((), ((), ((), ((), (x.2.2, (u0.1, (((), ()), (x.1, (((), ()), (((), ()), ((⟨(Int.toNat ((x.2.2.1.n : Nat) : Int)), fun i => ((0 : Int), ())⟩ : Sl _), ((fun y1 => none), ())))))))))))))))) (fun u1 => l (some (u1.2.2.2.2.2.2.2.1, u1.1))) (l none) else l none) (l none)
theorem q122 (x : (a122).den) : runFn Try.prog E0 G122 Try.f122 l122 a122 r122 x = Q122 .leaf .any x := by kernel_rfl
def M122 (x : (a122).den) : Option (r122).den := Q122 (fun r => r) (fun _ _ => none) x
theorem m122 (x : (a122).den) : (runFn Try.prog E0 G122 Try.f122 l122 a122 r122 x).sure = M122 x := by rw [q122]; unfold M122 Q122; simp only [sure_cond, Tree.sure, sure_cl, sure_onExit, sure_onRet, sure_onPanL, sure_onNext, sure_onBrk, sure_onRetO, sure_onPan, sure_onOk, sure_onGPan]
def p122 (x : (a122).den) : Bool := (M122 x).isSome
def v122 (x : (a122).den) : (r122).den := (M122 x).getD (r122).dflt
def k122 : Con := ⟨a122, r122, p122, v122⟩
theorem h122 : Holds Try.prog 122 k122 := holds_of_M' (E := E0) follows_ok g122 eqTy_sound keyTy_sound at122 bd122 (by kernel_rfl) m122 fun G' hlo hF hE => LsOK_kn (by rw [lo122]; exact .nil)
def X94 {α : Type} (l : Option FR → α) (an : α → α → α) (x : (a94).den) : α := bif (decide ((x.2.1 < (2 : Int)) ∧ ((0 : Int) ≤ x.2.1))) then bif (decide (((Int.toNat x.2.1) * 1) < 2)) then onExit (L94x0 ((List.getD [(fun y1 => ((p116 (x.1, y1)), (v116 (x.1, y1)))), (fun y1 => ((p117 (x.1, y1)), (v117 (x.1, y1))))] ((Int.toNat x.2.1) * 1) (fun y1 => ((p116 (x.1, y1)), (v116 (x.1, y1))))), (((x.1.1.n : Nat) : Int), ())) ((⟨0, fun i => ((0 : Int), ((0 : Int), ()))⟩ : Sl _), ((0 : Int), ()))) 0 (fun u0 => l (some ⟨23, T1, u0.1⟩)) (l none) else l none else l none
theorem x94 (x : (a94).den) : runF Try.prog E0 G94 Try.f94 l94 4 a94 x = X94 .leaf .any x := by kernel_rfl
def R94 (x : (a94).den) : Option (Sl (Ty.den T1)) := frOf 23 T1 (X94 (fun r => r) (fun _ _ => none) x)
theorem r94xeq (x : (a94).den) : frOf 23 T1 (runF Try.prog E0 G94 Try.f94 l94 4 a94 x).sure = R94 x := by rw [x94]; unfold R94 X94; simp only [sure_cond, Tree.sure, sure_cl, sure_onExit, sure_onRet, sure_onPanL, sure_onNext, sure_onBrk, sure_onRetO, sure_onPan, sure_onOk, sure_onGPan]
theorem hw94 : GHolds Try.prog 94 (rowD Try.f94.ntmps a94 23 T1 R94) := rowD_holds (E := E0) follows_ok g94 eqTy_sound keyTy_sound at94 bd94 (by kernel_rfl) (fun G' hlo hF hE => LsOK_kn (by rw [lo94]; exact .cons (loopV_ok hE hF hlo (LsOK_kn (by rw [lo94x0]; exact .nil)) (by kernel_rfl) (by kernel_rfl) sp94x0 (fun _ => rfl) (fun _ _ => rfl) (s94x0) big) (.nil))) r94xeq
/-- (isobar/kite.flight).try -/
noncomputable def c109 : Code := Try.f109.body.getD .skip
theorem at109 : Try.prog.funcs[109]? = some Try.f109 := by kernel_rfl
theorem bd109 : Try.f109.body = some c109 := by kernel_rfl
theorem cl109 : Callable Try.prog 109 := callable_of at109 (by kernel_rfl) (by kernel_rfl)
abbrev r109 : Ty := .nil
abbrev ps109 : List Pat := [.agg 0 (.cons (.sl (.cons tI (.cons tI (.cons tI (.cons tI (.cons tI .nil)))))) (.cons tI (.cons tI (.cons tI (.cons tI (.cons tI (.cons tI (.cons tI (.cons tI (.cons tI (.cons tI (.cons tI (.cons tI (.cons tI (.cons tI (.cons tI .nil)))))))))))))))), .agg 1 (.cons tI (.cons tI (.cons tI (.cons tI .nil))))]
abbrev pans109 : List (Nat × Ty) := [(152, .agg (.cons tI (.cons tI (.cons tI (.cons tL (.cons tL .nil))))))]
noncomputable def G109 : Ctx := Ctx.of [(73, .pure k73), (94, .gen (rowD Try.f94.ntmps a94 23 T1 R94)), (96, .pure k96), (122, .pure k122)]
theorem g109 : Sound Try.prog (G109) := sound_of (List.forall_mem_cons.2 ⟨⟨cl73, h73⟩, List.forall_mem_cons.2 ⟨⟨cl94, hw94⟩, List.forall_mem_cons.2 ⟨⟨cl96, h96⟩, List.forall_mem_cons.2 ⟨⟨cl122, h122⟩, fun _ h => by cases h⟩⟩⟩⟩)
noncomputable def b109x0 : Code := loopBody ((loopsOf (c109))[0]?)
theorem lo109x0 : loopsOf (b109x0) = [] := by kernel_rfl
theorem lo109 : loopsOf (c109) = [.loop b109x0] := by kernel_rfl
noncomputable def l109 : List Loop := [.unroll 3 []]
def Q109 {α : Type} (l : GO r109 (objPats ps109) → α) (an : α → α → α) (x : (patsTy ps109).den) : α := cl (r96).dflt (M96 (x.1, ())) (fun u0 => cl (r73).dflt (M73 (u0.1, ((x.1.2.2.2.2.2.2.2.2.2.2.2.1, (x.1.2.2.2.2.2.2.2.2.2.2.2.2.1, ())), ()))) (fun u1 => bif (!u1.1) then l (.ok () ()) else cl (⟨0, fun _ => Ty.dflt T1⟩ : Sl (Ty.den T1)) (R94 (x.1, ((0 : Int), ()))) (fun u2 => bif (Nat.blt 0 u2.n) then bif (decide ((0 : Int) = x.2.1.2.1)) then bif (decide (((0 : Int) ≤ x.2.1.1) ∧ (x.2.1.1 < ((u2.n : Nat) : Int)))) then cl (r122).dflt (M122 (x.1, ((0 : Int), ((setSl u2 (Int.toNat x.2.1.1) x.2.1.2.2), ())))) (fun u3 => bif (!u3.2.1) then l (.ok () ()) else cl (⟨0, fun _ => Ty.dflt T1⟩ : Sl (Ty.den T1)) (R94 (x.1, ((1 : Int), ()))) (fun u4 => bif (Nat.blt 0 u4.n) then bif (decide ((1 : Int) = x.2.1.2.1)) then bif (decide (((0 : Int) ≤ x.2.1.1) ∧ (x.2.1.1 < ((u4.n : Nat) : Int)))) then cl (r122).dflt (M122 (x.1, ((1 : Int), ((setSl u4 (Int.toNat x.2.1.1) x.2.1.2.2), ())))) (fun u5 => bif (!u5.2.1) then l (.ok () ()) else l (.pan 152 T71 (x.1.2.2.2.2.2.2.2.2.2.2.2.2.2.1, (x.1.2.2.2.2.2.2.2.2.2.2.2.2.2.2.1, (x.1.2.2.2.2.2.2.2.2.2.2.2.2.2.2.2.1, (u3.1, (u5.1, ()))))) ())) (l .bad) else l .bad else cl (r122).dflt (M122 (x.1, ((1 : Int), (u4, ())))) (fun u6 => bif (!u6.2.1) then l (.ok () ()) else l (.pan 152 T71 (x.1.2.2.2.2.2.2.2.2.2.2.2.2.2.1, (x.1.2.2.2.2.2.2.2.2.2.2.2.2.2.2.1, (x.1.2.2.2.2.2.2.2.2.2.2.2.2.2.2.2.1, (u3.1, (u6.1, ()))))) ())) (l .bad) else l .bad) (l .bad)) (l .bad) else l .bad else cl (r122).dflt (M122 (x.1, ((0 : Int), (u2, ())))) (fun u7 => bif (!u7.2.1) then l (.ok () ()) else cl (⟨0, fun _ => Ty.dflt T1⟩ : Sl (Ty.den T1)) (R94 (x.1, ((1 : Int), ()))) (fun u8 => bif (Nat.blt 0 u8.n) then bif (decide ((1 : Int) = x.2.1.2.1)) then bif (decide (((0 : Int) ≤ x.2.1.1) ∧ (x.2.1.1 < ((u8.n : Nat) : Int)))) then cl (r122).dflt (M122 (x.1, ((1 : Int), ((setSl u8 (Int.toNat x.2.1.1) x.2.1.2.2), ())))) (fun u9 => bif (!u9.2.1) then l (.ok () ()) else l (.pan 152 T71 (x.1.2.2.2.2.2.2.2.2.2.2.2.2.2.1, (x.1.2.2.2.2.2.2.2.2.2.2.2.2.2.2.1, (x.1.2.2.2.2.2.2.2.2.2.2.2.2.2.2.2.1, (u7.1, (u9.1, ()))))) ())) (l .bad) else l .bad else cl (r122).dflt (M122 (x.1, ((1 : Int), (u8, ())))) (fun u10 => bif (!u10.2.1) then l (.ok () ()) else l (.pan 152 T71 (x.1.2.2.2.2.2.2.2.2.2.2.2.2.2.1, (x.1.2.2.2.2.2.2.2.2.2.2.2.2.2.2.1, (x.1.2.2.2.2.2.2.2.2.2.2.2.2.2.2.2.1, (u7.1, (u10.1, ()))))) ())) (l .bad) else l .bad) (l .bad)) (l .bad) else l .bad) (l .bad)) (l .bad)) (l .bad)
theorem q109 (x : (patsTy ps109).den) : runG Try.prog E0 G109 Try.f109 l109 0 r109 ps109 x = Q109 .leaf .any x := by kernel_rfl
def U109 (x : (patsTy ps109).den) : GO r109 (objPats ps109) := Q109 (fun r => r) (fun _ _ => .bad) x
theorem m109 (x : (patsTy ps109).den) : (runG Try.prog E0 G109 Try.f109 l109 0 r109 ps109 x).detB .bad = U109 x := by rw [q109]; unfold U109 Q109; simp only [detB_cond, Tree.detB, detB_cl, detB_onExit, detB_onRet, detB_onPanL, detB_onNext, detB_onBrk, detB_onRetO, detB_onPan, detB_onOk, detB_onGPan]
theorem h109 : GHolds Try.prog 109 (gappD Try.f109.ntmps r109 ps109 pans109 U109) := gappD_holds (E := E0) follows_ok g109 eqTy_sound keyTy_sound at109 bd109 (by kernel_rfl) (fun G' hlo hF hE => LsOK_kn (by rw [lo109]; exact .unr (LsOK_kn (by rw [lo109x0]; exact .nil)) (.nil))) pans109 m109
/-- isobar/kite.first$1 -/
noncomputable def c108 : Code := Try.f108.body.getD .skip
theorem at108 : Try.prog.funcs[108]? = some Try.f108 := by kernel_rfl
theorem bd108 : Try.f108.body = some c108 := by kernel_rfl
theorem cl108 : Callable Try.prog 108 := callable_of at108 (by kernel_rfl) (by kernel_rfl)
abbrev ps108 : List Pat := [.slot 0 (.ptr 6), .slot 1 (.ptr 7), .box 6 [.pc tI, .pc tI, .pc tI, .pc tL, .pc tL], .box 7 [.pc .bool]]
noncomputable def G108 : Ctx := Ctx.of []
theorem g108 : Sound Try.prog (G108) := sound_of (fun _ h => by cases h)
noncomputable def rest108 : Code := match c108 with | .seq _ r => r | _ => .skip
theorem gbad108 : GHolds Try.prog 108 (fun _ _ _ _ => .leaf .bad) := fun _ _ _ _ _ _ _ _ _ _ _ _ _ _ _ _ hall => absurd rfl (hall .bad rfl)
noncomputable def d108 : DApp := dapp Try.f108.ntmps ps108 (runD Try.prog E0 G108 Try.f108.ntmps rest108 [] 100 ps108 5)
noncomputable def op108 : Oper := match c108 with | .seq (.region _ ops _) _ => ops.toList.headD default | _ => default
noncomputable def rid108 : Nat := match c108 with | .seq (.region r _ _) _ => r | _ => 0
noncomputable def cal108 : Call := match op108.op with | .call c => c | _ => default
theorem dh108 : DHolds Try.prog 108 d108 := dholds_of_run (E := E0) (o := op108) (rid := rid108) (c := cal108) follows_ok g108 eqTy_sound keyTy_sound at108 (rest := rest108) (by kernel_rfl) (by kernel_rfl) (by kernel_rfl) (by kernel_rfl) (by kernel_rfl) (by kernel_rfl) (by kernel_rfl) (by kernel_rfl) (by kernel_rfl) fun G' _ _ _ => LsOK_nil
/-- isobar/kite.first -/
noncomputable def c79 : Code := Try.f79.body.getD .skip
theorem at79 : Try.prog.funcs[79]? = some Try.f79 := by kernel_rfl
theorem bd79 : Try.f79.body = some c79 := by kernel_rfl
theorem cl79 : Callable Try.prog 79 := callable_of at79 (by kernel_rfl) (by kernel_rfl)
abbrev T80 : Ty := (.agg T8)
abbrev T81 : Ty := (.cons T80 T6)
abbrev T82 : Ty := (.cons T42 T81)
abbrev T83 : Ty := (.cons T71 T3)
abbrev a79 : Ty := T82
abbrev r79 : Ty := T83
noncomputable def G79 : Ctx := Ctx.of [(93, .pure k93), (108, .gen (fun _ _ _ _ => .leaf .bad)), (109, .gen (gappD Try.f109.ntmps r109 ps109 pans109 U109))]
theorem g79 : Sound Try.prog (G79) := sound_of (List.forall_mem_cons.2 ⟨⟨cl93, h93⟩, List.forall_mem_cons.2 ⟨⟨cl108, gbad108⟩, List.forall_mem_cons.2 ⟨⟨cl109, h109⟩, fun _ h => by cases h⟩⟩⟩)
noncomputable def b79x0 : Code := rangeBody ((loopsOf (c79))[0]?)
noncomputable def as79x0 : Code := rangeAs ((loopsOf (c79))[0]?)
abbrev mp79x0 : List Pat := [.slot 4 (.ptr 4), .slot 6 (.ptr 6), .slot 7 (.ptr 7), .box 4 [.pc tI, .pc tI, .pc tI, .pc tI], .box 6 [.pc tI, .pc tI, .pc tI, .own 1007003 3 T0, .own 1007004 3 T0], .box 7 [.pc .bool]]
theorem lo79x0 : loopsOf (b79x0) = [] := by kernel_rfl
def Z79x0 {α : Type} (l : RO mp79x0 → α) (an : α → α → α) (x : (patsTy mp79x0).den) (it : Ty.den T58) : α := onGPan (U109 (it.1, (x.2.2.2.1, ()))) 152 T71 (fun u0 => l (.pan 152 T71 u0.1 ((), ((), ((), (x.2.2.2.1, (x.2.2.2.2.1, (x.2.2.2.2.2.1, ())))))))) (onOk (U109 (it.1, (x.2.2.2.1, ()))) (fun u1 => l (.next ((), ((), ((), (x.2.2.2.1, (x.2.2.2.2.1, (x.2.2.2.2.2.1, ())))))))) (l .bad))
theorem z79x0 (x : (patsTy mp79x0).den) (it : Ty.den T58) : stepR Try.prog E0 G79 0 500000 19 [14] as79x0 b79x0 [] [] T58 mp79x0 x it = Z79x0 .leaf .any x it := by kernel_rfl
def S79x0 (x : (patsTy mp79x0).den) (it : Ty.den T58) : RO mp79x0 := Z79x0 (fun r => r) (fun _ _ => .bad) x it
theorem s79x0 (x : (patsTy mp79x0).den) (it : Ty.den T58) : (stepR Try.prog E0 G79 0 500000 19 [14] as79x0 b79x0 [] [] T58 mp79x0 x it).detB .bad = S79x0 x it := by rw [z79x0]; unfold S79x0 Z79x0; simp only [detB_cond, Tree.detB, detB_cl, detB_onExit, detB_onRet, detB_onPanL, detB_onNext, detB_onBrk, detB_onRetO, detB_onPan, detB_onOk, detB_onGPan]
def L79x0 (x : (patsTy mp79x0).den) (l : List (Ty.den T58)) : RO mp79x0 := runAllD S79x0 x l
theorem lo79 : loopsOf (c79) = [.rangeFunc (.tmp 13) #[14] as79x0 b79x0] := by kernel_rfl
noncomputable def l79 : List Loop := [.known (rangeD 0 [.clo 108 [6, 7]] 13 T58 mp79x0 [] [(152, T71)] (fun x l => L79x0 x l))]
noncomputable def D79 : DCtx := DCtx.of [(108, d108)]
theorem ds79 : DSound Try.prog D79 := dsound_of (List.forall_mem_cons.2 ⟨⟨cl108, dh108⟩, fun _ h => by cases h⟩)
def Q79 {α : Type} (l : Option (r79).den → α) (an : α → α → α) (x : (a79).den) : α := cl (r93).dflt (M93 ((x.1.1, (x.1.2.1, (x.1.2.2.1, (x.1.2.2.2.1, (x.1.2.2.2.2.1, (x.2.2.1.1, (x.2.2.1.2.1, x.1.2.2.2.2.2.2.2))))))), ())) (fun u2 => onNext (L79x0 ((), ((), ((), (x.2.1, (((0 : Int), ((0 : Int), ((0 : Int), ((⟨0, fun i => ((0 : Int), ())⟩ : Sl _), ((⟨0, fun i => ((0 : Int), ())⟩ : Sl _), ()))))), ((false, ()), ())))))) (Sl.list u2.1)) (fun u3 => l (some (((0 : Int), ((0 : Int), ((0 : Int), ((⟨0, fun i => ((0 : Int), ())⟩ : Sl _), ((⟨0, fun i => ((0 : Int), ())⟩ : Sl _), ()))))), (false, ())))) (onRetO (L79x0 ((), ((), ((), (x.2.1, (((0 : Int), ((0 : Int), ((0 : Int), ((⟨0, fun i => ((0 : Int), ())⟩ : Sl _), ((⟨0, fun i => ((0 : Int), ())⟩ : Sl _), ()))))), ((false, ()), ())))))) (Sl.list u2.1)) (fun u4 => l (some (u4.2.2.2.2.1, u4.2.2.2.2.2.1))) (onPan (L79x0 ((), ((), ((), (x.2.1, (((0 : Int), ((0 : Int), ((0 : Int), ((⟨0, fun i => ((0 : Int), ())⟩ : Sl _), ((⟨0, fun i => ((0 : Int), ())⟩ : Sl _), ()))))), ((false, ()), ())))))) (Sl.list u2.1)) 152 T71 (fun u5 => l (some (u5.1, (true, ())))) (l none)))) (l none)
theorem q79 (x : (a79).den) : runFnD Try.prog E0 G79 D79 Try.f79 l79 a79 r79 x = Q79 .leaf .any x := by kernel_rfl
def M79 (x : (a79).den) : Option (r79).den := Q79 (fun r => r) (fun _ _ => none) x
theorem m79 (x : (a79).den) : (runFnD Try.prog E0 G79 D79 Try.f79 l79 a79 r79 x).sure = M79 x := by rw [q79]; unfold M79 Q79; simp only [sure_cond, Tree.sure, sure_cl, sure_onExit, sure_onRet, sure_onPanL, sure_onNext, sure_onBrk, sure_onRetO, sure_onPan, sure_onOk, sure_onGPan]
def p79 (x : (a79).den) : Bool := (M79 x).isSome
def v79 (x : (a79).den) : (r79).den := (M79 x).getD (r79).dflt
def k79 : Con := ⟨a79, r79, p79, v79⟩
theorem h79 : Holds Try.prog 79 k79 := holds_of_MD (E := E0) follows_ok g79 ds79 eqTy_sound keyTy_sound at79 bd79 (by kernel_rfl) m79 fun G' hlo hF hE => LsOK_kn (by rw [lo79]; exact .cons (rangeD_ok hE hF hlo at79 (by kernel_rfl) (by kernel_rfl) (by kernel_rfl) (by kernel_rfl) (by kernel_rfl) (fun G' hlo hF l hE => LsOK_nil) (fun G' hlo hF l hE => LsOK_kn (by rw [lo79x0]; exact .nil)) s79x0) (.nil))
/-- isobar/kite.anything -/
noncomputable def c80 : Code := Try.f80.body.getD .skip
theorem at80 : Try.prog.funcs[80]? = some Try.f80 := by kernel_rfl
theorem bd80 : Try.f80.body = some c80 := by kernel_rfl
theorem cl80 : Callable Try.prog 80 := callable_of at80 (by kernel_rfl) (by kernel_rfl)
abbrev T84 : Ty := (.cons T42 T1)
abbrev T85 : Ty := (.cons T80 .nil)
abbrev a80 : Ty := T84
abbrev r80 : Ty := T85
noncomputable def G80 : Ctx := Ctx.of [(94, .gen (rowD Try.f94.ntmps a94 23 T1 R94))]
theorem g80 : Sound Try.prog (G80) := sound_of (List.forall_mem_cons.2 ⟨⟨cl94, hw94⟩, fun _ h => by cases h⟩)
theorem lo80 : loopsOf (c80) = [] := by kernel_rfl
noncomputable def l80 : List Loop := []
def Q80 {α : Type} (l : Option (r80).den → α) (an : α → α → α) (x : (a80).den) : α := cl (⟨0, fun _ => Ty.dflt T1⟩ : Sl (Ty.den T1)) (R94 ((x.1.1, (x.1.2.1, (x.1.2.2.1, (x.1.2.2.2.1, (x.1.2.2.2.2.1, (x.1.2.2.2.2.2.1, (x.1.2.2.2.2.2.2.1, (x.1.2.2.2.2.2.2.2.1, (x.1.2.2.2.2.2.2.2.2.1, (x.1.2.2.2.2.2.2.2.2.2.1, (x.1.2.2.2.2.2.2.2.2.2.2.1, (x.1.2.2.2.2.2.2.2.2.2.2.2.1, (x.1.2.2.2.2.2.2.2.2.2.2.2.2.1, ((0 : Int), ((0 : Int), ((0 : Int), ())))))))))))))))), x.2.2)) (fun u0 => bif (Nat.blt 0 u0.n) then bif (decide (((0 : Int) ≤ x.2.1) ∧ (x.2.1 < ((u0.n : Nat) : Int)))) then l (some ((x.2.1, (x.2.2.1, (u0.g (Int.toNat x.2.1)))), ())) else l none else l none) (l none)
theorem q80 (x : (a80).den) : runFn Try.prog E0 G80 Try.f80 l80 a80 r80 x = Q80 .leaf .any x := by kernel_rfl
def M80 (x : (a80).den) : Option (r80).den := Q80 (fun r => r) (fun _ _ => none) x
theorem m80 (x : (a80).den) : (runFn Try.prog E0 G80 Try.f80 l80 a80 r80 x).sure = M80 x := by rw [q80]; unfold M80 Q80; simp only [sure_cond, Tree.sure, sure_cl, sure_onExit, sure_onRet, sure_onPanL, sure_onNext, sure_onBrk, sure_onRetO, sure_onPan, sure_onOk, sure_onGPan]
def p80 (x : (a80).den) : Bool := (M80 x).isSome
def v80 (x : (a80).den) : (r80).den := (M80 x).getD (r80).dflt
def k80 : Con := ⟨a80, r80, p80, v80⟩
theorem h80 : Holds Try.prog 80 k80 := holds_of_M' (E := E0) follows_ok g80 eqTy_sound keyTy_sound at80 bd80 (by kernel_rfl) m80 fun G' hlo hF hE => LsOK_kn (by rw [lo80]; exact .nil)
/-- isobar/kite.one -/
noncomputable def c81 : Code := Try.f81.body.getD .skip
theorem at81 : Try.prog.funcs[81]? = some Try.f81 := by kernel_rfl
theorem bd81 : Try.f81.body = some c81 := by kernel_rfl
theorem cl81 : Callable Try.prog 81 := callable_of at81 (by kernel_rfl) (by kernel_rfl)
abbrev a81 : Ty := T0
abbrev r81 : Ty := T6
noncomputable def G81 : Ctx := Ctx.of []
theorem g81 : Sound Try.prog (G81) := sound_of (fun _ h => by cases h)
theorem lo81 : loopsOf (c81) = [] := by kernel_rfl
noncomputable def l81 : List Loop := []
def Q81 {α : Type} (l : Option (r81).den → α) (an : α → α → α) (x : (a81).den) : α := l (some ((x.1, x), ()))
theorem q81 (x : (a81).den) : runFn Try.prog E0 G81 Try.f81 l81 a81 r81 x = Q81 .leaf .any x := by kernel_rfl
def M81 (x : (a81).den) : Option (r81).den := Q81 (fun r => r) (fun _ _ => none) x
theorem m81 (x : (a81).den) : (runFn Try.prog E0 G81 Try.f81 l81 a81 r81 x).sure = M81 x := by rw [q81]; unfold M81 Q81; simp only [sure_cond, Tree.sure, sure_cl, sure_onExit, sure_onRet, sure_onPanL, sure_onNext, sure_onBrk, sure_onRetO, sure_onPan, sure_onOk, sure_onGPan]
def p81 (x : (a81).den) : Bool := (M81 x).isSome
def v81 (x : (a81).den) : (r81).den := (M81 x).getD (r81).dflt
def k81 : Con := ⟨a81, r81, p81, v81⟩
theorem h81 : Holds Try.prog 81 k81 := holds_of_M' (E := E0) follows_ok g81 eqTy_sound keyTy_sound at81 bd81 (by kernel_rfl) m81 fun G' hlo hF hE => LsOK_kn (by rw [lo81]; exact .nil)
/-- isobar/kite.possible -/
noncomputable def c76 : Code := Try.f76.body.getD .skip
theorem at76 : Try.prog.funcs[76]? = some Try.f76 := by kernel_rfl
theorem bd76 : Try.f76.body = some c76 := by kernel_rfl
theorem cl76 : Callable Try.prog 76 := callable_of at76 (by kernel_rfl) (by kernel_rfl)
abbrev T86 : Ty := (.cons T42 T0)
abbrev T87 : Ty := (.cons T71 T0)
abbrev a76 : Ty := T86
abbrev r76 : Ty := T87
noncomputable def G76 : Ctx := Ctx.of [(79, .pure k79), (80, .pure k80), (92, .pure k92), (102, .pure k102)]
theorem g76 : Sound Try.prog (G76) := sound_of (List.forall_mem_cons.2 ⟨⟨cl79, h79⟩, List.forall_mem_cons.2 ⟨⟨cl80, h80⟩, List.forall_mem_cons.2 ⟨⟨cl92, h92⟩, List.forall_mem_cons.2 ⟨⟨cl102, h102⟩, fun _ h => by cases h⟩⟩⟩⟩)
theorem lo76 : loopsOf (c76) = [] := by kernel_rfl
noncomputable def l76 : List Loop := []
def Q76 {α : Type} (l : Option (r76).den → α) (an : α → α → α) (x : (a76).den) : α := cl (r92).dflt (M92 (x.1, ())) (fun u0 => bif (!u0.1) then l (some (((0 : Int), ((0 : Int), ((0 : Int), ((⟨0, fun i => ((0 : Int), ())⟩ : Sl _), ((⟨0, fun i => ((0 : Int), ())⟩ : Sl _), ()))))), ((2 : Int), ()))) else cl (r102).dflt (M102 (x.2.1, ((0 : Int), ((W (((x.1.1.n : Nat) : Int) - (1 : Int))), ())))) (fun u1 => bif (!u1.1) then l (some (((0 : Int), ((0 : Int), ((0 : Int), ((⟨0, fun i => ((0 : Int), ())⟩ : Sl _), ((⟨0, fun i => ((0 : Int), ())⟩ : Sl _), ()))))), ((2 : Int), ()))) else cl (r80).dflt (M80 (x.1, ((0 : Int), ((0 : Int), ())))) (fun u2 => cl (r79).dflt (M79 (x.1, (u2.1, ((x.1.2.2.2.2.2.1, (x.1.2.2.2.2.2.2.1, ())), ())))) (fun u3 => bif (!u3.2.1) then l (some (((0 : Int), ((0 : Int), ((0 : Int), ((⟨0, fun i => ((0 : Int), ())⟩ : Sl _), ((⟨0, fun i => ((0 : Int), ())⟩ : Sl _), ()))))), ((7 : Int), ()))) else l (some (u3.1, ((0 : Int), ())))) (l none)) (l none)) (l none)) (l none)
theorem q76 (x : (a76).den) : runFn Try.prog E0 G76 Try.f76 l76 a76 r76 x = Q76 .leaf .any x := by kernel_rfl
def M76 (x : (a76).den) : Option (r76).den := Q76 (fun r => r) (fun _ _ => none) x
theorem m76 (x : (a76).den) : (runFn Try.prog E0 G76 Try.f76 l76 a76 r76 x).sure = M76 x := by rw [q76]; unfold M76 Q76; simp only [sure_cond, Tree.sure, sure_cl, sure_onExit, sure_onRet, sure_onPanL, sure_onNext, sure_onBrk, sure_onRetO, sure_onPan, sure_onOk, sure_onGPan]
def p76 (x : (a76).den) : Bool := (M76 x).isSome
def v76 (x : (a76).den) : (r76).den := (M76 x).getD (r76).dflt
def k76 : Con := ⟨a76, r76, p76, v76⟩
theorem h76 : Holds Try.prog 76 k76 := holds_of_M' (E := E0) follows_ok g76 eqTy_sound keyTy_sound at76 bd76 (by kernel_rfl) m76 fun G' hlo hF hE => LsOK_kn (by rw [lo76]; exact .nil)
/-- isobar/kite.First -/
noncomputable def c32 : Code := Try.f32.body.getD .skip
theorem at32 : Try.prog.funcs[32]? = some Try.f32 := by kernel_rfl
theorem bd32 : Try.f32.body = some c32 := by kernel_rfl
theorem cl32 : Callable Try.prog 32 := callable_of at32 (by kernel_rfl) (by kernel_rfl)
abbrev a32 : Ty := T43
abbrev r32 : Ty := T87
noncomputable def G32 : Ctx := Ctx.of [(76, .pure k76)]
theorem g32 : Sound Try.prog (G32) := sound_of (List.forall_mem_cons.2 ⟨⟨cl76, h76⟩, fun _ h => by cases h⟩)
theorem lo32 : loopsOf (c32) = [] := by kernel_rfl
noncomputable def l32 : List Loop := []
def Q32 {α : Type} (l : Option (r32).den → α) (an : α → α → α) (x : (a32).den) : α := cl (r76).dflt (M76 (x.1, ((0 : Int), ()))) (fun u0 => l (some (u0.1, u0.2))) (l none)
theorem q32 (x : (a32).den) : runFn Try.prog E0 G32 Try.f32 l32 a32 r32 x = Q32 .leaf .any x := by kernel_rfl
def M32 (x : (a32).den) : Option (r32).den := Q32 (fun r => r) (fun _ _ => none) x
theorem m32 (x : (a32).den) : (runFn Try.prog E0 G32 Try.f32 l32 a32 r32 x).sure = M32 x := by rw [q32]; unfold M32 Q32; simp only [sure_cond, Tree.sure, sure_cl, sure_onExit, sure_onRet, sure_onPanL, sure_onNext, sure_onBrk, sure_onRetO, sure_onPan, sure_onOk, sure_onGPan]
def p32 (x : (a32).den) : Bool := (M32 x).isSome
def v32 (x : (a32).den) : (r32).den := (M32 x).getD (r32).dflt
def k32 : Con := ⟨a32, r32, p32, v32⟩
theorem h32 : Holds Try.prog 32 k32 := holds_of_M' (E := E0) follows_ok g32 eqTy_sound keyTy_sound at32 bd32 (by kernel_rfl) m32 fun G' hlo hF hE => LsOK_kn (by rw [lo32]; exact .nil)
/-- isobar/kite.blows$1 -/
noncomputable def c110 : Code := Try.f110.body.getD .skip
theorem at110 : Try.prog.funcs[110]? = some Try.f110 := by kernel_rfl
theorem bd110 : Try.f110.body = some c110 := by kernel_rfl
theorem cl110 : Callable Try.prog 110 := callable_of at110 (by kernel_rfl) (by kernel_rfl)
abbrev T88 : Ty := (.ptr T0)
abbrev T89 : Ty := (.cons T88 .nil)
abbrev T90 : Ty := (.cons T88 T89)
abbrev T91 : Ty := (.cons T54 T90)
abbrev T92 : Ty := (.cons tI T91)
abbrev a110 : Ty := T92
abbrev r110 : Ty := T3
noncomputable def G110 : Ctx := Ctx.of [(79, .pure k79), (81, .pure k81)]
theorem g110 : Sound Try.prog (G110) := sound_of (List.forall_mem_cons.2 ⟨⟨cl79, h79⟩, List.forall_mem_cons.2 ⟨⟨cl81, h81⟩, fun _ h => by cases h⟩⟩)
theorem lo110 : loopsOf (c110) = [] := by kernel_rfl
noncomputable def l110 : List Loop := []
def Q110 {α : Type} (l : Option (r110).den → α) (an : α → α → α) (x : (a110).den) : α := cl (r81).dflt (M81 (x.1, ())) (fun u0 => cl (r79).dflt (M79 (x.2.1, ((x.2.2.1.1, (x.2.2.2.1.1, u0.1)), ((x.2.1.2.2.2.2.2.1, (x.2.1.2.2.2.2.2.2.1, ())), ())))) (fun u1 => l (some u1.2)) (l none)) (l none)
theorem q110 (x : (a110).den) : runFn Try.prog E0 G110 Try.f110 l110 a110 r110 x = Q110 .leaf .any x := by kernel_rfl
def M110 (x : (a110).den) : Option (r110).den := Q110 (fun r => r) (fun _ _ => none) x
theorem m110 (x : (a110).den) : (runFn Try.prog E0 G110 Try.f110 l110 a110 r110 x).sure = M110 x := by rw [q110]; unfold M110 Q110; simp only [sure_cond, Tree.sure, sure_cl, sure_onExit, sure_onRet, sure_onPanL, sure_onNext, sure_onBrk, sure_onRetO, sure_onPan, sure_onOk, sure_onGPan]
def p110 (x : (a110).den) : Bool := (M110 x).isSome
def v110 (x : (a110).den) : (r110).den := (M110 x).getD (r110).dflt
def k110 : Con := ⟨a110, r110, p110, v110⟩
theorem h110 : Holds Try.prog 110 k110 := holds_of_M' (E := E0) follows_ok g110 eqTy_sound keyTy_sound at110 bd110 (by kernel_rfl) m110 fun G' hlo hF hE => LsOK_kn (by rw [lo110]; exact .nil)
/-- isobar/kite.blows -/
noncomputable def c82 : Code := Try.f82.body.getD .skip
theorem at82 : Try.prog.funcs[82]? = some Try.f82 := by kernel_rfl
theorem bd82 : Try.f82.body = some c82 := by kernel_rfl
theorem cl82 : Callable Try.prog 82 := callable_of at82 (by kernel_rfl) (by kernel_rfl)
abbrev T93 : Ty := (.fn T0 T3)
abbrev T94 : Ty := (.cons T93 .nil)
abbrev a82 : Ty := T84
abbrev r82 : Ty := T94
noncomputable def G82 : Ctx := Ctx.of [(110, .pure k110)]
theorem g82 : Sound Try.prog (G82) := sound_of (List.forall_mem_cons.2 ⟨⟨cl110, h110⟩, fun _ h => by cases h⟩)
theorem lo82 : loopsOf (c82) = [] := by kernel_rfl
noncomputable def l82 : List Loop := []
def Q82 {α : Type} (l : Option (r82).den → α) (an : α → α → α) (x : (a82).den) : α := l (some ((fun y1 => ((p110 (y1.1, (x.1, ((x.2.1, ()), (x.2.2, ()))))), (v110 (y1.1, (x.1, ((x.2.1, ()), (x.2.2, ()))))))), ()))
theorem q82 (x : (a82).den) : runFn Try.prog E0 G82 Try.f82 l82 a82 r82 x = Q82 .leaf .any x := by kernel_rfl
def M82 (x : (a82).den) : Option (r82).den := Q82 (fun r => r) (fun _ _ => none) x
theorem m82 (x : (a82).den) : (runFn Try.prog E0 G82 Try.f82 l82 a82 r82 x).sure = M82 x := by rw [q82]; unfold M82 Q82; simp only [sure_cond, Tree.sure, sure_cl, sure_onExit, sure_onRet, sure_onPanL, sure_onNext, sure_onBrk, sure_onRetO, sure_onPan, sure_onOk, sure_onGPan]
def p82 (x : (a82).den) : Bool := (M82 x).isSome
def v82 (x : (a82).den) : (r82).den := (M82 x).getD (r82).dflt
def k82 : Con := ⟨a82, r82, p82, v82⟩
theorem h82 : Holds Try.prog 82 k82 := holds_of_M' (E := E0) follows_ok g82 eqTy_sound keyTy_sound at82 bd82 (by kernel_rfl) m82 fun G' hlo hF hE => LsOK_kn (by rw [lo82]; exact .nil)
/-- isobar/kite.end -/
noncomputable def c87 : Code := Try.f87.body.getD .skip
theorem at87 : Try.prog.funcs[87]? = some Try.f87 := by kernel_rfl
theorem bd87 : Try.f87.body = some c87 := by kernel_rfl
theorem cl87 : Callable Try.prog 87 := callable_of at87 (by kernel_rfl) (by kernel_rfl)
abbrev T95 : Ty := (.cons .bool T94)
abbrev T96 : Ty := (.cons T4 T95)
abbrev T97 : Ty := (.cons tI T3)
abbrev a87 : Ty := T96
abbrev r87 : Ty := T97
noncomputable def G87 : Ctx := Ctx.of []
theorem g87 : Sound Try.prog (G87) := sound_of (fun _ h => by cases h)
noncomputable def b87x0 : Code := loopBody ((loopsOf (c87))[0]?)
theorem lo87x0 : loopsOf (b87x0) = [] := by kernel_rfl
abbrev cs87x0 : List Pat := [.slot 1 (.pc .bool), .slot 2 (.pc T93), .slot 3 (.ptr 3), .slot 15 (.pc tI), .box 3 [.pc tI, .pc tI]]
abbrev vs87x0 : List Pat := [.slot 16 (.pc tI)]
abbrev ps87x0 : List Pat := [.slot 1 (.pc .bool), .slot 2 (.pc T93), .slot 3 (.ptr 3), .slot 15 (.pc tI), .box 3 [.pc tI, .pc tI], .slot 16 (.pc tI)]
def j87x0 : (patsTy cs87x0).den → (patsTy vs87x0).den → (patsTy ps87x0).den := fun c v => (c.1, (c.2.1, (c.2.2.1, (c.2.2.2.1, (c.2.2.2.2.1, v)))))
def sp87x0 : (patsTy ps87x0).den → (patsTy cs87x0).den × (patsTy vs87x0).den := fun x => ((x.1, (x.2.1, (x.2.2.1, (x.2.2.2.1, (x.2.2.2.2.1, ()))))), x.2.2.2.2.2)
abbrev wy87x0 : Ways := ⟨[(0, [])], [.slot 6 (.pc tI), .slot 7 (.pc .bool)], []⟩
abbrev wv87x0 : Ways := ⟨[(0, [])], [.slot 6 (.pc tI), .slot 7 (.pc .bool)], []⟩
def je87x0 : (id : Nat) → (patsTy cs87x0).den → (patsTy (wayP wv87x0 id)).den → (patsTy (wayP wy87x0 id)).den := fun id => match id with | 0 => fun c y => y | id => fun _ _ => (patsTy (wayP wy87x0 id)).dflt
def jr87x0 : (patsTy cs87x0).den → (patsTy (wv87x0).ret).den → (patsTy (wy87x0).ret).den := fun c y => y
def jp87x0 : (patsTy cs87x0).den → (patsTy (wv87x0).pan).den → (patsTy (wy87x0).pan).den := fun c y => y
def Z87x0 {α : Type} (l : RQ vs87x0 wv87x0 → α) (an : α → α → α) (c : (patsTy cs87x0).den) (v : (patsTy vs87x0).den) : α := bif (decide (v.1 < c.2.2.2.1)) then bif c.1 then bif (c.2.1 ((W (c.2.2.2.2.1.2.1 - v.1)), ())).1 then bif (c.2.1 ((W (c.2.2.2.2.1.2.1 - v.1)), ())).2.1 then l (.out (.ret ((W (c.2.2.2.2.1.2.1 - v.1)), (true, ())))) else l (.next ((W (v.1 + (1 : Int))), ())) else l .bad else bif (c.2.1 ((W (c.2.2.2.2.1.1 + v.1)), ())).1 then bif (c.2.1 ((W (c.2.2.2.2.1.1 + v.1)), ())).2.1 then l (.out (.ret ((W (c.2.2.2.2.1.1 + v.1)), (true, ())))) else l (.next ((W (v.1 + (1 : Int))), ())) else l .bad else l (.out (.exit 0 ()))
theorem z87x0 (c : (patsTy cs87x0).den) (v : (patsTy vs87x0).den) : roundQ Try.prog E0 G87 0 33 [] ps87x0 wy87x0 b87x0 [] (j87x0 c v) = Z87x0 (fun r => .leaf (r.lift j87x0 je87x0 jr87x0 jp87x0 c)) .any c v := by kernel_rfl
def S87x0 (c : (patsTy cs87x0).den) (v : (patsTy vs87x0).den) : RQ vs87x0 wv87x0 := Z87x0 (fun r => r) (fun _ _ => .bad) c v
theorem s87x0 (c : (patsTy cs87x0).den) (v : (patsTy vs87x0).den) : detQ (roundQ Try.prog E0 G87 0 33 [] ps87x0 wy87x0 b87x0 [] (j87x0 c v)) = (S87x0 c v).lift j87x0 je87x0 jr87x0 jp87x0 c := by rw [z87x0]; unfold S87x0 Z87x0; simp only [detQ_cond, lift_cond, lift_bad, detQ, detQ_cl, detQ_onExit, detQ_onRet, detQ_onPanL, detQ_onNext, detQ_onBrk, detQ_onRetO, detQ_onPan, detQ_onOk, detQ_onGPan, lift_cl, lift_onExit, lift_onRet, lift_onPanL, lift_onNext, lift_onBrk, lift_onRetO, lift_onPan, lift_onOk, lift_onGPan]
def L87x0 (c : (patsTy cs87x0).den) (v : (patsTy vs87x0).den) : LQ wv87x0 := iterQ (S87x0 c) big v
theorem lo87 : loopsOf (c87) = [.loop b87x0] := by kernel_rfl
noncomputable def l87 : List Loop := [.known (loopZ 0 [] ps87x0 fun x => spreadV wy87x0 je87x0 jr87x0 jp87x0 [] true (sp87x0 x).1 (L87x0 (sp87x0 x).1 (sp87x0 x).2) wy87x0.exits)]
def Q87 {α : Type} (l : Option (r87).den → α) (an : α → α → α) (x : (a87).den) : α := onExit (L87x0 (x.2.1, (x.2.2.1, ((), ((W ((W (x.1.2.1 - x.1.1)) + (1 : Int))), (x.1, ()))))) ((0 : Int), ())) 0 (fun u0 => l (some ((0 : Int), (false, ())))) (onRet (L87x0 (x.2.1, (x.2.2.1, ((), ((W ((W (x.1.2.1 - x.1.1)) + (1 : Int))), (x.1, ()))))) ((0 : Int), ())) (fun u1 => l (some u1)) (l none))
theorem q87 (x : (a87).den) : runFn Try.prog E0 G87 Try.f87 l87 a87 r87 x = Q87 .leaf .any x := by kernel_rfl
def M87 (x : (a87).den) : Option (r87).den := Q87 (fun r => r) (fun _ _ => none) x
theorem m87 (x : (a87).den) : (runFn Try.prog E0 G87 Try.f87 l87 a87 r87 x).sure = M87 x := by rw [q87]; unfold M87 Q87; simp only [sure_cond, Tree.sure, sure_cl, sure_onExit, sure_onRet, sure_onPanL, sure_onNext, sure_onBrk, sure_onRetO, sure_onPan, sure_onOk, sure_onGPan]
def p87 (x : (a87).den) : Bool := (M87 x).isSome
def v87 (x : (a87).den) : (r87).den := (M87 x).getD (r87).dflt
def k87 : Con := ⟨a87, r87, p87, v87⟩
theorem h87 : Holds Try.prog 87 k87 := holds_of_M' (E := E0) follows_ok g87 eqTy_sound keyTy_sound at87 bd87 (by kernel_rfl) m87 fun G' hlo hF hE => LsOK_kn (by rw [lo87]; exact .cons (loopV_ok hE hF hlo (LsOK_kn (by rw [lo87x0]; exact .nil)) (by kernel_rfl) (by kernel_rfl) sp87x0 (fun _ => rfl) (fun _ _ => rfl) (s87x0) big) (.nil))
/-- isobar/kite.ends$1 -/
noncomputable def c107 : Code := Try.f107.body.getD .skip
theorem at107 : Try.prog.funcs[107]? = some Try.f107 := by kernel_rfl
theorem bd107 : Try.f107.body = some c107 := by kernel_rfl
theorem cl107 : Callable Try.prog 107 := callable_of at107 (by kernel_rfl) (by kernel_rfl)
abbrev T98 : Ty := (.ptr T1)
abbrev T99 : Ty := (.ptr T94)
abbrev T100 : Ty := (.cons T99 .nil)
abbrev T101 : Ty := (.cons T98 T100)
abbrev T102 : Ty := (.cons .bool T101)
abbrev a107 : Ty := T102
abbrev r107 : Ty := T0
noncomputable def G107 : Ctx := Ctx.of [(87, .pure k87)]
theorem g107 : Sound Try.prog (G107) := sound_of (List.forall_mem_cons.2 ⟨⟨cl87, h87⟩, fun _ h => by cases h⟩)
theorem lo107 : loopsOf (c107) = [] := by kernel_rfl
noncomputable def l107 : List Loop := []
def Q107 {α : Type} (l : Option (r107).den → α) (an : α → α → α) (x : (a107).den) : α := cl (r87).dflt (M87 (x.2.1, (x.1, x.2.2.1))) (fun u0 => l (some (u0.1, ()))) (l none)
theorem q107 (x : (a107).den) : runFn Try.prog E0 G107 Try.f107 l107 a107 r107 x = Q107 .leaf .any x := by kernel_rfl
def M107 (x : (a107).den) : Option (r107).den := Q107 (fun r => r) (fun _ _ => none) x
theorem m107 (x : (a107).den) : (runFn Try.prog E0 G107 Try.f107 l107 a107 r107 x).sure = M107 x := by rw [q107]; unfold M107 Q107; simp only [sure_cond, Tree.sure, sure_cl, sure_onExit, sure_onRet, sure_onPanL, sure_onNext, sure_onBrk, sure_onRetO, sure_onPan, sure_onOk, sure_onGPan]
def p107 (x : (a107).den) : Bool := (M107 x).isSome
def v107 (x : (a107).den) : (r107).den := (M107 x).getD (r107).dflt
def k107 : Con := ⟨a107, r107, p107, v107⟩
theorem h107 : Holds Try.prog 107 k107 := holds_of_M' (E := E0) follows_ok g107 eqTy_sound keyTy_sound at107 bd107 (by kernel_rfl) m107 fun G' hlo hF hE => LsOK_kn (by rw [lo107]; exact .nil)
/-- isobar/kite.both[bool] -/
noncomputable def c106 : Code := Try.f106.body.getD .skip
theorem at106 : Try.prog.funcs[106]? = some Try.f106 := by kernel_rfl
theorem bd106 : Try.f106.body = some c106 := by kernel_rfl
theorem cl106 : Callable Try.prog 106 := callable_of at106 (by kernel_rfl) (by kernel_rfl)
abbrev T103 : Ty := (.fn T3 T0)
abbrev T104 : Ty := (.cons T103 .nil)
abbrev T105 : Ty := (.cons .bool T104)
abbrev T106 : Ty := (.cons .bool T105)
abbrev a106 : Ty := T106
abbrev r106 : Ty := T6
noncomputable def G106 : Ctx := Ctx.of []
theorem g106 : Sound Try.prog (G106) := sound_of (fun _ h => by cases h)
theorem lo106 : loopsOf (c106) = [] := by kernel_rfl
noncomputable def l106 : List Loop := []
def Q106 {α : Type} (l : Option (r106).den → α) (an : α → α → α) (x : (a106).den) : α := bif (x.2.2.1 (x.1, ())).1 then bif (x.2.2.1 (x.2.1, ())).1 then l (some (((x.2.2.1 (x.1, ())).2.1, (x.2.2.1 (x.2.1, ())).2), ())) else l none else l none
theorem q106 (x : (a106).den) : runFn Try.prog E0 G106 Try.f106 l106 a106 r106 x = Q106 .leaf .any x := by kernel_rfl
def M106 (x : (a106).den) : Option (r106).den := Q106 (fun r => r) (fun _ _ => none) x
theorem m106 (x : (a106).den) : (runFn Try.prog E0 G106 Try.f106 l106 a106 r106 x).sure = M106 x := by rw [q106]; unfold M106 Q106; simp only [sure_cond, Tree.sure, sure_cl, sure_onExit, sure_onRet, sure_onPanL, sure_onNext, sure_onBrk, sure_onRetO, sure_onPan, sure_onOk, sure_onGPan]
def p106 (x : (a106).den) : Bool := (M106 x).isSome
def v106 (x : (a106).den) : (r106).den := (M106 x).getD (r106).dflt
def k106 : Con := ⟨a106, r106, p106, v106⟩
theorem h106 : Holds Try.prog 106 k106 := holds_of_M' (E := E0) follows_ok g106 eqTy_sound keyTy_sound at106 bd106 (by kernel_rfl) m106 fun G' hlo hF hE => LsOK_kn (by rw [lo106]; exact .nil)
/-- isobar/kite.ends -/
noncomputable def c77 : Code := Try.f77.body.getD .skip
theorem at77 : Try.prog.funcs[77]? = some Try.f77 := by kernel_rfl
theorem bd77 : Try.f77.body = some c77 := by kernel_rfl
theorem cl77 : Callable Try.prog 77 := callable_of at77 (by kernel_rfl) (by kernel_rfl)
abbrev T107 : Ty := (.cons T4 T94)
abbrev a77 : Ty := T107
abbrev r77 : Ty := T6
noncomputable def G77 : Ctx := Ctx.of [(106, .pure k106), (107, .pure k107)]
theorem g77 : Sound Try.prog (G77) := sound_of (List.forall_mem_cons.2 ⟨⟨cl106, h106⟩, List.forall_mem_cons.2 ⟨⟨cl107, h107⟩, fun _ h => by cases h⟩⟩)
theorem lo77 : loopsOf (c77) = [] := by kernel_rfl
noncomputable def l77 : List Loop := []
def Q77 {α : Type} (l : Option (r77).den → α) (an : α → α → α) (x : (a77).den) : α := cl (r106).dflt (M106 (false, (true, ((fun y1 => ((p107 (y1.1, (x.1, (x.2, ())))), (v107 (y1.1, (x.1, (x.2, ())))))), ())))) (fun u0 => l (some (u0.1, ()))) (l none)
theorem q77 (x : (a77).den) : runFn Try.prog E0 G77 Try.f77 l77 a77 r77 x = Q77 .leaf .any x := by kernel_rfl
def M77 (x : (a77).den) : Option (r77).den := Q77 (fun r => r) (fun _ _ => none) x
theorem m77 (x : (a77).den) : (runFn Try.prog E0 G77 Try.f77 l77 a77 r77 x).sure = M77 x := by rw [q77]; unfold M77 Q77; simp only [sure_cond, Tree.sure, sure_cl, sure_onExit, sure_onRet, sure_onPanL, sure_onNext, sure_onBrk, sure_onRetO, sure_onPan, sure_onOk, sure_onGPan]
def p77 (x : (a77).den) : Bool := (M77 x).isSome
def v77 (x : (a77).den) : (r77).den := (M77 x).getD (r77).dflt
def k77 : Con := ⟨a77, r77, p77, v77⟩
theorem h77 : Holds Try.prog 77 k77 := holds_of_M' (E := E0) follows_ok g77 eqTy_sound keyTy_sound at77 bd77 (by kernel_rfl) m77 fun G' hlo hF hE => LsOK_kn (by rw [lo77]; exact .nil)
/-- isobar/kite.Winds$1 -/
noncomputable def c78 : Code := Try.f78.body.getD .skip
theorem at78 : Try.prog.funcs[78]? = some Try.f78 := by kernel_rfl
theorem bd78 : Try.f78.body = some c78 := by kernel_rfl
theorem cl78 : Callable Try.prog 78 := callable_of at78 (by kernel_rfl) (by kernel_rfl)
abbrev T108 : Ty := (.cons tI T55)
abbrev a78 : Ty := T108
abbrev r78 : Ty := T3
noncomputable def G78 : Ctx := Ctx.of [(79, .pure k79), (80, .pure k80), (81, .pure k81)]
theorem g78 : Sound Try.prog (G78) := sound_of (List.forall_mem_cons.2 ⟨⟨cl79, h79⟩, List.forall_mem_cons.2 ⟨⟨cl80, h80⟩, List.forall_mem_cons.2 ⟨⟨cl81, h81⟩, fun _ h => by cases h⟩⟩⟩)
theorem lo78 : loopsOf (c78) = [] := by kernel_rfl
noncomputable def l78 : List Loop := []
def Q78 {α : Type} (l : Option (r78).den → α) (an : α → α → α) (x : (a78).den) : α := cl (r80).dflt (M80 (x.2.1, ((0 : Int), ((0 : Int), ())))) (fun u0 => cl (r81).dflt (M81 (x.1, ())) (fun u1 => cl (r79).dflt (M79 (x.2.1, (u0.1, (u1.1, ())))) (fun u2 => l (some u2.2)) (l none)) (l none)) (l none)
theorem q78 (x : (a78).den) : runFn Try.prog E0 G78 Try.f78 l78 a78 r78 x = Q78 .leaf .any x := by kernel_rfl
def M78 (x : (a78).den) : Option (r78).den := Q78 (fun r => r) (fun _ _ => none) x
theorem m78 (x : (a78).den) : (runFn Try.prog E0 G78 Try.f78 l78 a78 r78 x).sure = M78 x := by rw [q78]; unfold M78 Q78; simp only [sure_cond, Tree.sure, sure_cl, sure_onExit, sure_onRet, sure_onPanL, sure_onNext, sure_onBrk, sure_onRetO, sure_onPan, sure_onOk, sure_onGPan]
def p78 (x : (a78).den) : Bool := (M78 x).isSome
def v78 (x : (a78).den) : (r78).den := (M78 x).getD (r78).dflt
def k78 : Con := ⟨a78, r78, p78, v78⟩
theorem h78 : Holds Try.prog 78 k78 := holds_of_M' (E := E0) follows_ok g78 eqTy_sound keyTy_sound at78 bd78 (by kernel_rfl) m78 fun G' hlo hF hE => LsOK_kn (by rw [lo78]; exact .nil)
/-- isobar/kite.Winds -/
noncomputable def c28 : Code := Try.f28.body.getD .skip
theorem at28 : Try.prog.funcs[28]? = some Try.f28 := by kernel_rfl
theorem bd28 : Try.f28.body = some c28 := by kernel_rfl
theorem cl28 : Callable Try.prog 28 := callable_of at28 (by kernel_rfl) (by kernel_rfl)
abbrev T109 : Ty := (.cons tI T53)
abbrev T110 : Ty := (.cons tI T109)
abbrev T111 : Ty := (.agg T110)
abbrev T112 : Ty := (.cons T111 T0)
abbrev a28 : Ty := T43
abbrev r28 : Ty := T112
noncomputable def G28 : Ctx := Ctx.of [(76, .pure k76), (77, .pure k77), (78, .pure k78), (82, .pure k82)]
theorem g28 : Sound Try.prog (G28) := sound_of (List.forall_mem_cons.2 ⟨⟨cl76, h76⟩, List.forall_mem_cons.2 ⟨⟨cl77, h77⟩, List.forall_mem_cons.2 ⟨⟨cl78, h78⟩, List.forall_mem_cons.2 ⟨⟨cl82, h82⟩, fun _ h => by cases h⟩⟩⟩⟩)
noncomputable def b28x0 : Code := loopBody ((loopsOf (c28))[0]?)
theorem lo28x0 : loopsOf (b28x0) = [] := by kernel_rfl
abbrev cs28x0 : List Pat := [.slot 1 (.pc T54), .slot 2 (.ptr 2), .slot 6 (.ptr 183), .slot 26 (.pc (.sl T9)), .slot 27 (.pc tI), .box 2 [.pc tI, .pc tI, .own 1003002 23 T1, .own 1003003 23 T1]]
abbrev vs28x0 : List Pat := [.slot 28 (.pc tI), .box 183 [.pc tI, .pc tI, .own 1184002 23 T1, .own 1184003 23 T1]]
abbrev ps28x0 : List Pat := [.slot 1 (.pc T54), .slot 2 (.ptr 2), .slot 6 (.ptr 183), .slot 26 (.pc (.sl T9)), .slot 27 (.pc tI), .box 2 [.pc tI, .pc tI, .own 1003002 23 T1, .own 1003003 23 T1], .slot 28 (.pc tI), .box 183 [.pc tI, .pc tI, .own 1184002 23 T1, .own 1184003 23 T1]]
def j28x0 : (patsTy cs28x0).den → (patsTy vs28x0).den → (patsTy ps28x0).den := fun c v => (c.1, (c.2.1, (c.2.2.1, (c.2.2.2.1, (c.2.2.2.2.1, (c.2.2.2.2.2.1, v))))))
def sp28x0 : (patsTy ps28x0).den → (patsTy cs28x0).den × (patsTy vs28x0).den := fun x => ((x.1, (x.2.1, (x.2.2.1, (x.2.2.2.1, (x.2.2.2.2.1, (x.2.2.2.2.2.1, ())))))), x.2.2.2.2.2.2)
abbrev wy28x0 : Ways := ⟨[(0, [.slot 2 (.ptr 2), .slot 6 (.ptr 183), .box 2 [.pc tI, .pc tI, .own 1003002 23 T1, .own 1003003 23 T1], .box 183 [.pc tI, .pc tI, .own 1184002 23 T1, .own 1184003 23 T1]])], [], []⟩
abbrev wv28x0 : Ways := ⟨[(0, [.box 183 [.pc tI, .pc tI, .own 1184002 23 T1, .own 1184003 23 T1]])], [], []⟩
def je28x0 : (id : Nat) → (patsTy cs28x0).den → (patsTy (wayP wv28x0 id)).den → (patsTy (wayP wy28x0 id)).den := fun id => match id with | 0 => fun c y => (c.2.1, (c.2.2.1, (c.2.2.2.2.2.1, y))) | id => fun _ _ => (patsTy (wayP wy28x0 id)).dflt
def jr28x0 : (patsTy cs28x0).den → (patsTy (wv28x0).ret).den → (patsTy (wy28x0).ret).den := fun c y => y
def jp28x0 : (patsTy cs28x0).den → (patsTy (wv28x0).pan).den → (patsTy (wy28x0).pan).den := fun c y => y
def Z28x0 {α : Type} (l : RQ vs28x0 wv28x0 → α) (an : α → α → α) (c : (patsTy cs28x0).den) (v : (patsTy vs28x0).den) : α := bif (decide (v.1 < c.2.2.2.2.1)) then bif (decide (((0 : Int) ≤ v.1) ∧ (v.1 < ((c.2.2.2.1.n : Nat) : Int)))) then cl (r82).dflt (M82 (c.1, (v.1, ((0 : Int), ())))) (fun u0 => cl (r77).dflt (M77 (((c.2.2.2.1.g (Int.toNat v.1)).2.1, ((c.2.2.2.1.g (Int.toNat v.1)).2.2.1, ())), u0)) (fun u1 => cl (r82).dflt (M82 (c.1, (v.1, ((1 : Int), ())))) (fun u2 => cl (r77).dflt (M77 ((c.2.2.2.1.g (Int.toNat v.1)).2.2.2, u2)) (fun u3 => bif (decide (((v.2.1.2.2.1.n + 1) * 16) ≤ 140737488355328)) then bif (decide (((v.2.1.2.2.2.1.n + 1) * 16) ≤ 140737488355328)) then l (.next ((W (v.1 + (1 : Int))), ((v.2.1.1, (v.2.1.2.1, ((catSl v.2.1.2.2.1 (⟨1, fun i => List.getD [u1.1] i u1.1⟩ : Sl (Ty.den T1))), ((catSl v.2.1.2.2.2.1 (⟨1, fun i => List.getD [u3.1] i u3.1⟩ : Sl (Ty.den T1))), ())))), ()))) else l .bad else l .bad) (l .bad)) (l .bad)) (l .bad)) (l .bad) else l .bad else l (.out (.exit 0 (v.2.1, ())))
theorem z28x0 (c : (patsTy cs28x0).den) (v : (patsTy vs28x0).den) : roundQ Try.prog E0 G28 0 59 [] ps28x0 wy28x0 b28x0 [] (j28x0 c v) = Z28x0 (fun r => .leaf (r.lift j28x0 je28x0 jr28x0 jp28x0 c)) .any c v := by kernel_rfl
def S28x0 (c : (patsTy cs28x0).den) (v : (patsTy vs28x0).den) : RQ vs28x0 wv28x0 := Z28x0 (fun r => r) (fun _ _ => .bad) c v
theorem s28x0 (c : (patsTy cs28x0).den) (v : (patsTy vs28x0).den) : detQ (roundQ Try.prog E0 G28 0 59 [] ps28x0 wy28x0 b28x0 [] (j28x0 c v)) = (S28x0 c v).lift j28x0 je28x0 jr28x0 jp28x0 c := by rw [z28x0]; unfold S28x0 Z28x0; simp only [detQ_cond, lift_cond, lift_bad, detQ, detQ_cl, detQ_onExit, detQ_onRet, detQ_onPanL, detQ_onNext, detQ_onBrk, detQ_onRetO, detQ_onPan, detQ_onOk, detQ_onGPan, lift_cl, lift_onExit, lift_onRet, lift_onPanL, lift_onNext, lift_onBrk, lift_onRetO, lift_onPan, lift_onOk, lift_onGPan]
def L28x0 (c : (patsTy cs28x0).den) (v : (patsTy vs28x0).den) : LQ wv28x0 := iterQ (S28x0 c) big v
theorem lo28 : loopsOf (c28) = [.loop b28x0] := by kernel_rfl
noncomputable def l28 : List Loop := [.known (loopZ 0 [] ps28x0 fun x => spreadV wy28x0 je28x0 jr28x0 jp28x0 [] false (sp28x0 x).1 (L28x0 (sp28x0 x).1 (sp28x0 x).2) wy28x0.exits)]
def Q28 {α : Type} (l : Option (r28).den → α) (an : α → α → α) (x : (a28).den) : α := cl (r76).dflt (M76 (x.1, ((0 : Int), ()))) (fun u4 => bif (!(decide (u4.2.1 = (0 : Int)))) then l (some (((0 : Int), ((0 : Int), ((⟨0, fun i => ((0 : Int), ((0 : Int), ()))⟩ : Sl _), ((⟨0, fun i => ((0 : Int), ((0 : Int), ()))⟩ : Sl _), ())))), u4.2)) else cl (r77).dflt (M77 ((x.1.2.2.2.2.2.1, (x.1.2.2.2.2.2.2.1, ())), ((fun y1 => ((p78 (y1.1, (x.1, ()))), (v78 (y1.1, (x.1, ()))))), ()))) (fun u5 => onExit (L28x0 (x.1, ((), ((), (x.1.1, (((x.1.1.n : Nat) : Int), (((0 : Int), ((0 : Int), ((⟨0, fun i => ((0 : Int), ((0 : Int), ()))⟩ : Sl _), ((⟨0, fun i => ((0 : Int), ((0 : Int), ()))⟩ : Sl _), ())))), ())))))) ((0 : Int), ((u5.1.1, (u5.1.2.1, ((⟨0, fun i => ((0 : Int), ((0 : Int), ()))⟩ : Sl _), ((⟨0, fun i => ((0 : Int), ((0 : Int), ()))⟩ : Sl _), ())))), ()))) 0 (fun u6 => l (some (u6.1, ((0 : Int), ())))) (l none)) (l none)) (l none)
theorem q28 (x : (a28).den) : runFn Try.prog E0 G28 Try.f28 l28 a28 r28 x = Q28 .leaf .any x := by kernel_rfl
def M28 (x : (a28).den) : Option (r28).den := Q28 (fun r => r) (fun _ _ => none) x
theorem m28 (x : (a28).den) : (runFn Try.prog E0 G28 Try.f28 l28 a28 r28 x).sure = M28 x := by rw [q28]; unfold M28 Q28; simp only [sure_cond, Tree.sure, sure_cl, sure_onExit, sure_onRet, sure_onPanL, sure_onNext, sure_onBrk, sure_onRetO, sure_onPan, sure_onOk, sure_onGPan]
def p28 (x : (a28).den) : Bool := (M28 x).isSome
def v28 (x : (a28).den) : (r28).den := (M28 x).getD (r28).dflt
def k28 : Con := ⟨a28, r28, p28, v28⟩
theorem h28 : Holds Try.prog 28 k28 := holds_of_M' (E := E0) follows_ok g28 eqTy_sound keyTy_sound at28 bd28 (by kernel_rfl) m28 fun G' hlo hF hE => LsOK_kn (by rw [lo28]; exact .cons (loopV_ok hE hF hlo (LsOK_kn (by rw [lo28x0]; exact .nil)) (by kernel_rfl) (by kernel_rfl) sp28x0 (fun _ => rfl) (fun _ _ => rfl) (s28x0) big) (.nil))
/-- isobar/kite.Show -/
noncomputable def c35 : Code := Try.f35.body.getD .skip
theorem at35 : Try.prog.funcs[35]? = some Try.f35 := by kernel_rfl
theorem bd35 : Try.f35.body = some c35 := by kernel_rfl
theorem cl35 : Callable Try.prog 35 := callable_of at35 (by kernel_rfl) (by kernel_rfl)
abbrev T113 : Ty := (.cons .bool T3)
abbrev T114 : Ty := (.cons tI T113)
abbrev T115 : Ty := (.cons T42 T114)
abbrev a35 : Ty := T115
abbrev r35 : Ty := T87
noncomputable def G35 : Ctx := Ctx.of [(76, .pure k76), (79, .pure k79), (81, .pure k81), (82, .pure k82), (87, .pure k87)]
theorem g35 : Sound Try.prog (G35) := sound_of (List.forall_mem_cons.2 ⟨⟨cl76, h76⟩, List.forall_mem_cons.2 ⟨⟨cl79, h79⟩, List.forall_mem_cons.2 ⟨⟨cl81, h81⟩, List.forall_mem_cons.2 ⟨⟨cl82, h82⟩, List.forall_mem_cons.2 ⟨⟨cl87, h87⟩, fun _ h => by cases h⟩⟩⟩⟩⟩)
theorem lo35 : loopsOf (c35) = [] := by kernel_rfl
noncomputable def l35 : List Loop := []
def Q35 {α : Type} (l : Option (r35).den → α) (an : α → α → α) (x : (a35).den) : α := cl (r76).dflt (M76 (x.1, (x.2.1, ()))) (fun u0 => bif (!(decide (u0.2.1 = (0 : Int)))) then l (some (((0 : Int), ((0 : Int), ((0 : Int), ((⟨0, fun i => ((0 : Int), ())⟩ : Sl _), ((⟨0, fun i => ((0 : Int), ())⟩ : Sl _), ()))))), u0.2)) else bif (decide (((0 : Int) ≤ x.2.1) ∧ (x.2.1 < ((x.1.1.n : Nat) : Int)))) then bif x.2.2.1 then bif (decide (((0 : Int) ≤ x.2.1) ∧ (x.2.1 < ((x.1.1.n : Nat) : Int)))) then cl (r82).dflt (M82 (x.1, (x.2.1, ((1 : Int), ())))) (fun u1 => cl (r87).dflt (M87 ((x.1.1.g (Int.toNat x.2.1)).2.2.2, (x.2.2.2.1, u1))) (fun u2 => cl (r81).dflt (M81 (u2.1, ())) (fun u3 => cl (r79).dflt (M79 (x.1, ((x.2.1, ((1 : Int), u3.1)), ((x.1.2.2.2.2.2.1, (x.1.2.2.2.2.2.2.1, ())), ())))) (fun u4 => l (some (u4.1, ((0 : Int), ())))) (l none)) (l none)) (l none)) (l none) else l none else cl (r82).dflt (M82 (x.1, (x.2.1, ((0 : Int), ())))) (fun u5 => cl (r87).dflt (M87 (((x.1.1.g (Int.toNat x.2.1)).2.1, ((x.1.1.g (Int.toNat x.2.1)).2.2.1, ())), (x.2.2.2.1, u5))) (fun u6 => cl (r81).dflt (M81 (u6.1, ())) (fun u7 => cl (r79).dflt (M79 (x.1, ((x.2.1, ((0 : Int), u7.1)), ((x.1.2.2.2.2.2.1, (x.1.2.2.2.2.2.2.1, ())), ())))) (fun u8 => l (some (u8.1, ((0 : Int), ())))) (l none)) (l none)) (l none)) (l none) else l none) (l none)
theorem q35 (x : (a35).den) : runFn Try.prog E0 G35 Try.f35 l35 a35 r35 x = Q35 .leaf .any x := by kernel_rfl
def M35 (x : (a35).den) : Option (r35).den := Q35 (fun r => r) (fun _ _ => none) x
theorem m35 (x : (a35).den) : (runFn Try.prog E0 G35 Try.f35 l35 a35 r35 x).sure = M35 x := by rw [q35]; unfold M35 Q35; simp only [sure_cond, Tree.sure, sure_cl, sure_onExit, sure_onRet, sure_onPanL, sure_onNext, sure_onBrk, sure_onRetO, sure_onPan, sure_onOk, sure_onGPan]
def p35 (x : (a35).den) : Bool := (M35 x).isSome
def v35 (x : (a35).den) : (r35).den := (M35 x).getD (r35).dflt
def k35 : Con := ⟨a35, r35, p35, v35⟩
theorem h35 : Holds Try.prog 35 k35 := holds_of_M' (E := E0) follows_ok g35 eqTy_sound keyTy_sound at35 bd35 (by kernel_rfl) m35 fun G' hlo hF hE => LsOK_kn (by rw [lo35]; exact .nil)
/-- isobar/isobarref07.SameTruth -/
noncomputable def c33 : Code := Try.f33.body.getD .skip
theorem at33 : Try.prog.funcs[33]? = some Try.f33 := by kernel_rfl
theorem bd33 : Try.f33.body = some c33 := by kernel_rfl
theorem cl33 : Callable Try.prog 33 := callable_of at33 (by kernel_rfl) (by kernel_rfl)
abbrev T116 : Ty := (.cons T71 T72)
abbrev a33 : Ty := T116
abbrev r33 : Ty := T3
noncomputable def G33 : Ctx := Ctx.of [(25, .pure k25)]
theorem g33 : Sound Try.prog (G33) := sound_of (List.forall_mem_cons.2 ⟨⟨cl25, h25⟩, fun _ h => by cases h⟩)
theorem lo33 : loopsOf (c33) = [] := by kernel_rfl
noncomputable def l33 : List Loop := []
def Q33 {α : Type} (l : Option (r33).den → α) (an : α → α → α) (x : (a33).den) : α := bif (decide (x.1.1 = x.2.1.1)) then bif (decide (x.1.2.1 = x.2.1.2.1)) then bif (decide (x.1.2.2.1 = x.2.1.2.2.1)) then cl (r25).dflt (M25 (x.1.2.2.2.1, (x.2.1.2.2.2.1, ()))) (fun u0 => bif u0.1 then cl (r25).dflt (M25 (x.1.2.2.2.2.1, x.2.1.2.2.2.2)) (fun u1 => l (some u1)) (l none) else l (some (false, ()))) (l none) else l (some (false, ())) else l (some (false, ())) else l (some (false, ()))
theorem q33 (x : (a33).den) : runFn Try.prog E0 G33 Try.f33 l33 a33 r33 x = Q33 .leaf .any x := by kernel_rfl
def M33 (x : (a33).den) : Option (r33).den := Q33 (fun r => r) (fun _ _ => none) x
theorem m33 (x : (a33).den) : (runFn Try.prog E0 G33 Try.f33 l33 a33 r33 x).sure = M33 x := by rw [q33]; unfold M33 Q33; simp only [sure_cond, Tree.sure, sure_cl, sure_onExit, sure_onRet, sure_onPanL, sure_onNext, sure_onBrk, sure_onRetO, sure_onPan, sure_onOk, sure_onGPan]
def p33 (x : (a33).den) : Bool := (M33 x).isSome
def v33 (x : (a33).den) : (r33).den := (M33 x).getD (r33).dflt
def k33 : Con := ⟨a33, r33, p33, v33⟩
theorem h33 : Holds Try.prog 33 k33 := holds_of_M' (E := E0) follows_ok g33 eqTy_sound keyTy_sound at33 bd33 (by kernel_rfl) m33 fun G' hlo hF hE => LsOK_kn (by rw [lo33]; exact .nil)
/-- isobar/isobarref07.SameWinds -/
noncomputable def c30 : Code := Try.f30.body.getD .skip
theorem at30 : Try.prog.funcs[30]? = some Try.f30 := by kernel_rfl
theorem bd30 : Try.f30.body = some c30 := by kernel_rfl
theorem cl30 : Callable Try.prog 30 := callable_of at30 (by kernel_rfl) (by kernel_rfl)
abbrev T117 : Ty := (.cons T111 .nil)
abbrev T118 : Ty := (.cons T111 T117)
abbrev a30 : Ty := T118
abbrev r30 : Ty := T3
noncomputable def G30 : Ctx := Ctx.of [(51, .pure k51)]
theorem g30 : Sound Try.prog (G30) := sound_of (List.forall_mem_cons.2 ⟨⟨cl51, h51⟩, fun _ h => by cases h⟩)
theorem lo30 : loopsOf (c30) = [] := by kernel_rfl
noncomputable def l30 : List Loop := []
def Q30 {α : Type} (l : Option (r30).den → α) (an : α → α → α) (x : (a30).den) : α := bif ((decide (x.1.1 = x.2.1.1)) && ((decide (x.1.2.1 = x.2.1.2.1)) && true)) then cl (r51).dflt (M51 (x.1.2.2.1, (x.2.1.2.2.1, ()))) (fun u0 => bif u0.1 then cl (r51).dflt (M51 (x.1.2.2.2.1, x.2.1.2.2.2)) (fun u1 => l (some u1)) (l none) else l (some (false, ()))) (l none) else l (some (false, ()))
theorem q30 (x : (a30).den) : runFn Try.prog E0 G30 Try.f30 l30 a30 r30 x = Q30 .leaf .any x := by kernel_rfl
def M30 (x : (a30).den) : Option (r30).den := Q30 (fun r => r) (fun _ _ => none) x
theorem m30 (x : (a30).den) : (runFn Try.prog E0 G30 Try.f30 l30 a30 r30 x).sure = M30 x := by rw [q30]; unfold M30 Q30; simp only [sure_cond, Tree.sure, sure_cl, sure_onExit, sure_onRet, sure_onPanL, sure_onNext, sure_onBrk, sure_onRetO, sure_onPan, sure_onOk, sure_onGPan]
def p30 (x : (a30).den) : Bool := (M30 x).isSome
def v30 (x : (a30).den) : (r30).den := (M30 x).getD (r30).dflt
def k30 : Con := ⟨a30, r30, p30, v30⟩
theorem h30 : Holds Try.prog 30 k30 := holds_of_M' (E := E0) follows_ok g30 eqTy_sound keyTy_sound at30 bd30 (by kernel_rfl) m30 fun G' hlo hF hE => LsOK_kn (by rw [lo30]; exact .nil)
/-- isobar/isobarlaw07.known -/
noncomputable def c19 : Code := Try.f19.body.getD .skip
theorem at19 : Try.prog.funcs[19]? = some Try.f19 := by kernel_rfl
theorem bd19 : Try.f19.body = some c19 := by kernel_rfl
theorem cl19 : Callable Try.prog 19 := callable_of at19 (by kernel_rfl) (by kernel_rfl)
abbrev a19 : Ty := .nil
abbrev r19 : Ty := T3
noncomputable def G19 : Ctx := Ctx.of [(17, .pure k17), (22, .pure k22), (25, .pure k25), (28, .pure k28), (30, .pure k30), (32, .pure k32), (33, .pure k33), (35, .pure k35), (40, .pure k40), (46, .pure k46), (48, .pure k48), (51, .pure k51), (69, .pure k69), (70, .pure k70), (71, .pure k71)]
theorem g19 : Sound Try.prog (G19) := sound_of (List.forall_mem_cons.2 ⟨⟨cl17, h17⟩, List.forall_mem_cons.2 ⟨⟨cl22, h22⟩, List.forall_mem_cons.2 ⟨⟨cl25, h25⟩, List.forall_mem_cons.2 ⟨⟨cl28, h28⟩, List.forall_mem_cons.2 ⟨⟨cl30, h30⟩, List.forall_mem_cons.2 ⟨⟨cl32, h32⟩, List.forall_mem_cons.2 ⟨⟨cl33, h33⟩, List.forall_mem_cons.2 ⟨⟨cl35, h35⟩, List.forall_mem_cons.2 ⟨⟨cl40, h40⟩, List.forall_mem_cons.2 ⟨⟨cl46, h46⟩, List.forall_mem_cons.2 ⟨⟨cl48, h48⟩, List.forall_mem_cons.2 ⟨⟨cl51, h51⟩, List.forall_mem_cons.2 ⟨⟨cl69, h69⟩, List.forall_mem_cons.2 ⟨⟨cl70, h70⟩, List.forall_mem_cons.2 ⟨⟨cl71, h71⟩, fun _ h => by cases h⟩⟩⟩⟩⟩⟩⟩⟩⟩⟩⟩⟩⟩⟩⟩)
theorem lo19 : loopsOf (c19) = [] := by kernel_rfl
noncomputable def l19 : List Loop := []
def Q19 {α : Type} (l : Option (r19).den → α) (an : α → α → α) (x : (a19).den) : α := cl (r69).dflt (M69 ()) (fun u0 => cl (r17).dflt (M17 (u0.1, ())) (fun u1 => cl (r70).dflt (M70 ()) (fun u2 => cl (r40).dflt (M40 (u2.1, ())) (fun u3 => cl (r70).dflt (M70 ()) (fun u4 => cl (r22).dflt (M22 (u2.1, ((105 : Int), ((⟨3, fun i => List.getD [((155 : Int), ()), ((125 : Int), ()), ((50 : Int), ())] i ((155 : Int), ())⟩ : Sl _), ())))) (fun u5 => cl (r71).dflt (M71 ()) (fun u6 => cl (r48).dflt (M48 (u6.1, ())) (fun u7 => cl (r71).dflt (M71 ()) (fun u8 => cl (r28).dflt (M28 (u6.1, ())) (fun u9 => cl (r71).dflt (M71 ()) (fun u10 => cl (r32).dflt (M32 (u6.1, ())) (fun u11 => cl (r71).dflt (M71 ()) (fun u12 => cl (r35).dflt (M35 (u6.1, ((0 : Int), (true, (true, ()))))) (fun u13 => bif (!(decide (u1.2.1 = (0 : Int)))) then l (some (false, ())) else bif (!(decide (u3.2.1 = (0 : Int)))) then l (some (false, ())) else bif (!(decide (u5.2.1 = (0 : Int)))) then l (some (false, ())) else bif (!(decide (u7.2.1 = (0 : Int)))) then l (some (false, ())) else bif (!(decide (u9.2.1 = (0 : Int)))) then l (some (false, ())) else bif (!(decide (u11.2.1 = (0 : Int)))) then l (some (false, ())) else bif (!(decide (u13.2.1 = (0 : Int)))) then l (some (false, ())) else cl (r46).dflt (M46 ((610 : Int), ((681 : Int), ()))) (fun u14 => bif (!((decide (u1.1.1 = u14.1.1)) && ((decide (u1.1.2.1 = u14.1.2.1)) && true))) then l (some (false, ())) else cl (r46).dflt (M46 ((100 : Int), ((110 : Int), ()))) (fun u15 => cl (r46).dflt (M46 ((678 : Int), ((690 : Int), ()))) (fun u16 => cl (r46).dflt (M46 ((1944 : Int), ((1963 : Int), ()))) (fun u17 => cl (r51).dflt (M51 (u3.1, ((⟨3, fun i => List.getD [u15.1, u16.1, u17.1] i u15.1⟩ : Sl _), ()))) (fun u18 => bif (!u18.1) then l (some (false, ())) else cl (r25).dflt (M25 (u5.1, ((⟨3, fun i => List.getD [((105 : Int), ()), ((684 : Int), ()), ((1953 : Int), ())] i ((105 : Int), ())⟩ : Sl _), ()))) (fun u19 => bif (!u19.1) then l (some (false, ())) else cl (r46).dflt (M46 ((5 : Int), ((51 : Int), ()))) (fun u20 => cl (r46).dflt (M46 ((-12 : Int), ((5 : Int), ()))) (fun u21 => cl (r46).dflt (M46 ((5 : Int), ((11 : Int), ()))) (fun u22 => bif (!((decide (u7.1.1 = u20.1.1)) && ((decide (u7.1.2.1 = u20.1.2.1)) && ((decide (u7.1.2.2.1 = u21.1.1)) && ((decide (u7.1.2.2.2.1 = u21.1.2.1)) && ((decide (u7.1.2.2.2.2.1 = u22.1.1)) && ((decide (u7.1.2.2.2.2.2.1 = u22.1.2.1)) && true))))))) then l (some (false, ())) else cl (r46).dflt (M46 ((2 : Int), ((2 : Int), ()))) (fun u23 => cl (r46).dflt (M46 ((1 : Int), ((2 : Int), ()))) (fun u24 => cl (r46).dflt (M46 ((5 : Int), ((6 : Int), ()))) (fun u25 => cl (r46).dflt (M46 ((0 : Int), ((1 : Int), ()))) (fun u26 => cl (r46).dflt (M46 ((-2 : Int), ((-1 : Int), ()))) (fun u27 => cl (r30).dflt (M30 (u9.1, ((u23.1.1, (u23.1.2.1, ((⟨2, fun i => List.getD [u24.1, u25.1] i u24.1⟩ : Sl _), ((⟨2, fun i => List.getD [u26.1, u27.1] i u26.1⟩ : Sl _), ())))), ()))) (fun u28 => bif u28.1 then cl (r33).dflt (M33 (u11.1, (((200 : Int), ((400 : Int), ((2 : Int), ((⟨2, fun i => List.getD [((1 : Int), ()), ((6 : Int), ())] i ((1 : Int), ())⟩ : Sl _), ((⟨2, fun i => List.getD [((0 : Int), ()), ((-1 : Int), ())] i ((0 : Int), ())⟩ : Sl _), ()))))), ()))) (fun u29 => bif u29.1 then cl (r33).dflt (M33 (u13.1, (((200 : Int), ((400 : Int), ((2 : Int), ((⟨2, fun i => List.getD [((1 : Int), ()), ((6 : Int), ())] i ((1 : Int), ())⟩ : Sl _), ((⟨2, fun i => List.getD [((1 : Int), ()), ((-2 : Int), ())] i ((1 : Int), ())⟩ : Sl _), ()))))), ()))) (fun u30 => l (some u30)) (l none) else l (some (false, ()))) (l none) else l (some (false, ()))) (l none)) (l none)) (l none)) (l none)) (l none)) (l none)) (l none)) (l none)) (l none)) (l none)) (l none)) (l none)) (l none)) (l none)) (l none)) (l none)) (l none)) (l none)) (l none)) (l none)) (l none)) (l none)) (l none)) (l none)) (l none)) (l none)) (l none)) (l none)) (l none)
theorem q19 (x : (a19).den) : runFn Try.prog E0 G19 Try.f19 l19 a19 r19 x = Q19 .leaf .any x := by kernel_rfl
def M19 (x : (a19).den) : Option (r19).den := Q19 (fun r => r) (fun _ _ => none) x
theorem m19 (x : (a19).den) : (runFn Try.prog E0 G19 Try.f19 l19 a19 r19 x).sure = M19 x := by rw [q19]; unfold M19 Q19; simp only [sure_cond, Tree.sure, sure_cl, sure_onExit, sure_onRet, sure_onPanL, sure_onNext, sure_onBrk, sure_onRetO, sure_onPan, sure_onOk, sure_onGPan]
def p19 (x : (a19).den) : Bool := (M19 x).isSome
def v19 (x : (a19).den) : (r19).den := (M19 x).getD (r19).dflt
def k19 : Con := ⟨a19, r19, p19, v19⟩
theorem h19 : Holds Try.prog 19 k19 := holds_of_M' (E := E0) follows_ok g19 eqTy_sound keyTy_sound at19 bd19 (by kernel_rfl) m19 fun G' hlo hF hE => LsOK_kn (by rw [lo19]; exact .nil)
/-- isobar/isobarref07.wind -/
noncomputable def c89 : Code := Try.f89.body.getD .skip
theorem at89 : Try.prog.funcs[89]? = some Try.f89 := by kernel_rfl
theorem bd89 : Try.f89.body = some c89 := by kernel_rfl
theorem cl89 : Callable Try.prog 89 := callable_of at89 (by kernel_rfl) (by kernel_rfl)
abbrev a89 : Ty := T6
abbrev r89 : Ty := T3
noncomputable def G89 : Ctx := Ctx.of [(68, .pure k68)]
theorem g89 : Sound Try.prog (G89) := sound_of (List.forall_mem_cons.2 ⟨⟨cl68, h68⟩, fun _ h => by cases h⟩)
theorem lo89 : loopsOf (c89) = [] := by kernel_rfl
noncomputable def l89 : List Loop := []
def Q89 {α : Type} (l : Option (r89).den → α) (an : α → α → α) (x : (a89).den) : α := cl (r68).dflt (M68 (x.1, ((-100 : Int), ((100 : Int), ())))) (fun u0 => bif u0.1 then l (some ((decide ((W (x.1.2.1 - x.1.1)) ≤ (8 : Int))), ())) else l (some (false, ()))) (l none)
theorem q89 (x : (a89).den) : runFn Try.prog E0 G89 Try.f89 l89 a89 r89 x = Q89 .leaf .any x := by kernel_rfl
def M89 (x : (a89).den) : Option (r89).den := Q89 (fun r => r) (fun _ _ => none) x
theorem m89 (x : (a89).den) : (runFn Try.prog E0 G89 Try.f89 l89 a89 r89 x).sure = M89 x := by rw [q89]; unfold M89 Q89; simp only [sure_cond, Tree.sure, sure_cl, sure_onExit, sure_onRet, sure_onPanL, sure_onNext, sure_onBrk, sure_onRetO, sure_onPan, sure_onOk, sure_onGPan]
def p89 (x : (a89).den) : Bool := (M89 x).isSome
def v89 (x : (a89).den) : (r89).den := (M89 x).getD (r89).dflt
def k89 : Con := ⟨a89, r89, p89, v89⟩
theorem h89 : Holds Try.prog 89 k89 := holds_of_M' (E := E0) follows_ok g89 eqTy_sound keyTy_sound at89 bd89 (by kernel_rfl) m89 fun G' hlo hF hE => LsOK_kn (by rw [lo89]; exact .nil)
/-- isobar/isobarref07.speed -/
noncomputable def c90 : Code := Try.f90.body.getD .skip
theorem at90 : Try.prog.funcs[90]? = some Try.f90 := by kernel_rfl
theorem bd90 : Try.f90.body = some c90 := by kernel_rfl
theorem cl90 : Callable Try.prog 90 := callable_of at90 (by kernel_rfl) (by kernel_rfl)
abbrev a90 : Ty := T6
abbrev r90 : Ty := T3
noncomputable def G90 : Ctx := Ctx.of [(68, .pure k68)]
theorem g90 : Sound Try.prog (G90) := sound_of (List.forall_mem_cons.2 ⟨⟨cl68, h68⟩, fun _ h => by cases h⟩)
theorem lo90 : loopsOf (c90) = [] := by kernel_rfl
noncomputable def l90 : List Loop := []
def Q90 {α : Type} (l : Option (r90).den → α) (an : α → α → α) (x : (a90).den) : α := cl (r68).dflt (M68 (x.1, ((50 : Int), ((1000 : Int), ())))) (fun u0 => bif u0.1 then l (some ((decide ((W (x.1.2.1 - x.1.1)) ≤ (3 : Int))), ())) else l (some (false, ()))) (l none)
theorem q90 (x : (a90).den) : runFn Try.prog E0 G90 Try.f90 l90 a90 r90 x = Q90 .leaf .any x := by kernel_rfl
def M90 (x : (a90).den) : Option (r90).den := Q90 (fun r => r) (fun _ _ => none) x
theorem m90 (x : (a90).den) : (runFn Try.prog E0 G90 Try.f90 l90 a90 r90 x).sure = M90 x := by rw [q90]; unfold M90 Q90; simp only [sure_cond, Tree.sure, sure_cl, sure_onExit, sure_onRet, sure_onPanL, sure_onNext, sure_onBrk, sure_onRetO, sure_onPan, sure_onOk, sure_onGPan]
def p90 (x : (a90).den) : Bool := (M90 x).isSome
def v90 (x : (a90).den) : (r90).den := (M90 x).getD (r90).dflt
def k90 : Con := ⟨a90, r90, p90, v90⟩
theorem h90 : Holds Try.prog 90 k90 := holds_of_M' (E := E0) follows_ok g90 eqTy_sound keyTy_sound at90 bd90 (by kernel_rfl) m90 fun G' hlo hF hE => LsOK_kn (by rw [lo90]; exact .nil)
/-- isobar/isobarref07.Flight -/
noncomputable def c38 : Code := Try.f38.body.getD .skip
theorem at38 : Try.prog.funcs[38]? = some Try.f38 := by kernel_rfl
theorem bd38 : Try.f38.body = some c38 := by kernel_rfl
theorem cl38 : Callable Try.prog 38 := callable_of at38 (by kernel_rfl) (by kernel_rfl)
abbrev a38 : Ty := T43
abbrev r38 : Ty := T3
noncomputable def G38 : Ctx := Ctx.of [(68, .pure k68), (75, .pure k75), (89, .pure k89), (90, .pure k90)]
theorem g38 : Sound Try.prog (G38) := sound_of (List.forall_mem_cons.2 ⟨⟨cl68, h68⟩, List.forall_mem_cons.2 ⟨⟨cl75, h75⟩, List.forall_mem_cons.2 ⟨⟨cl89, h89⟩, List.forall_mem_cons.2 ⟨⟨cl90, h90⟩, fun _ h => by cases h⟩⟩⟩⟩)
noncomputable def b38x0 : Code := loopBody ((loopsOf (c38))[0]?)
theorem lo38x0 : loopsOf (b38x0) = [] := by kernel_rfl
abbrev cs38x0 : List Pat := [.slot 1 (.ptr 1), .box 1 [.pc (.sl T9), .pc tI, .pc tI, .pc tI, .pc tI, .pc tI, .pc tI, .pc tI, .pc tI, .pc tI, .pc tI, .pc tI, .pc tI]]
abbrev vs38x0 : List Pat := [.slot 3 (.pc tI)]
abbrev ps38x0 : List Pat := [.slot 1 (.ptr 1), .box 1 [.pc (.sl T9), .pc tI, .pc tI, .pc tI, .pc tI, .pc tI, .pc tI, .pc tI, .pc tI, .pc tI, .pc tI, .pc tI, .pc tI], .slot 3 (.pc tI)]
def j38x0 : (patsTy cs38x0).den → (patsTy vs38x0).den → (patsTy ps38x0).den := fun c v => (c.1, (c.2.1, v))
def sp38x0 : (patsTy ps38x0).den → (patsTy cs38x0).den × (patsTy vs38x0).den := fun x => ((x.1, (x.2.1, ())), x.2.2)
abbrev wy38x0 : Ways := ⟨[(0, [.slot 1 (.ptr 1), .box 1 [.pc (.sl T9), .pc tI, .pc tI, .pc tI, .pc tI, .pc tI, .pc tI, .pc tI, .pc tI, .pc tI, .pc tI, .pc tI, .pc tI]])], [.slot 2 (.pc .bool)], []⟩
abbrev wv38x0 : Ways := ⟨[(0, [])], [.slot 2 (.pc .bool)], []⟩
def je38x0 : (id : Nat) → (patsTy cs38x0).den → (patsTy (wayP wv38x0 id)).den → (patsTy (wayP wy38x0 id)).den := fun id => match id with | 0 => fun c y => (c.1, (c.2.1, y)) | id => fun _ _ => (patsTy (wayP wy38x0 id)).dflt
def jr38x0 : (patsTy cs38x0).den → (patsTy (wv38x0).ret).den → (patsTy (wy38x0).ret).den := fun c y => y
def jp38x0 : (patsTy cs38x0).den → (patsTy (wv38x0).pan).den → (patsTy (wy38x0).pan).den := fun c y => y
def Z38x0 {α : Type} (l : RQ vs38x0 wv38x0 → α) (an : α → α → α) (c : (patsTy cs38x0).den) (v : (patsTy vs38x0).den) : α := bif (decide (v.1 < ((c.2.1.1.n : Nat) : Int))) then bif (decide (((0 : Int) ≤ v.1) ∧ (v.1 < ((c.2.1.1.n : Nat) : Int)))) then cl (r75).dflt (M75 ((c.2.1.1.g (Int.toNat v.1)).1, ((1 : Int), ((3000 : Int), ())))) (fun u0 => bif (!u0.1) then l (.out (.ret (false, ()))) else cl (r89).dflt (M89 (((c.2.1.1.g (Int.toNat v.1)).2.1, ((c.2.1.1.g (Int.toNat v.1)).2.2.1, ())), ())) (fun u1 => bif (!u1.1) then l (.out (.ret (false, ()))) else cl (r89).dflt (M89 ((c.2.1.1.g (Int.toNat v.1)).2.2.2, ())) (fun u2 => bif (!u2.1) then l (.out (.ret (false, ()))) else l (.next ((W (v.1 + (1 : Int))), ()))) (l .bad)) (l .bad)) (l .bad) else l .bad else l (.out (.exit 0 ()))
theorem z38x0 (c : (patsTy cs38x0).den) (v : (patsTy vs38x0).den) : roundQ Try.prog E0 G38 0 70 [] ps38x0 wy38x0 b38x0 [] (j38x0 c v) = Z38x0 (fun r => .leaf (r.lift j38x0 je38x0 jr38x0 jp38x0 c)) .any c v := by kernel_rfl
def S38x0 (c : (patsTy cs38x0).den) (v : (patsTy vs38x0).den) : RQ vs38x0 wv38x0 := Z38x0 (fun r => r) (fun _ _ => .bad) c v
theorem s38x0 (c : (patsTy cs38x0).den) (v : (patsTy vs38x0).den) : detQ (roundQ Try.prog E0 G38 0 70 [] ps38x0 wy38x0 b38x0 [] (j38x0 c v)) = (S38x0 c v).lift j38x0 je38x0 jr38x0 jp38x0 c := by rw [z38x0]; unfold S38x0 Z38x0; simp only [detQ_cond, lift_cond, lift_bad, detQ, detQ_cl, detQ_onExit, detQ_onRet, detQ_onPanL, detQ_onNext, detQ_onBrk, detQ_onRetO, detQ_onPan, detQ_onOk, detQ_onGPan, lift_cl, lift_onExit, lift_onRet, lift_onPanL, lift_onNext, lift_onBrk, lift_onRetO, lift_onPan, lift_onOk, lift_onGPan]
def L38x0 (c : (patsTy cs38x0).den) (v : (patsTy vs38x0).den) : LQ wv38x0 := iterQ (S38x0 c) big v
theorem lo38 : loopsOf (c38) = [.loop b38x0] := by kernel_rfl
noncomputable def l38 : List Loop := [.known (loopZ 0 [] ps38x0 fun x => spreadV wy38x0 je38x0 jr38x0 jp38x0 [] true (sp38x0 x).1 (L38x0 (sp38x0 x).1 (sp38x0 x).2) wy38x0.exits)]
def Q38 {α : Type} (l : Option (r38).den → α) (an : α → α → α) (x : (a38).den) : α := onExit (L38x0 ((), (x.1, ())) ((0 : Int), ())) 0 (fun u3 => cl (r75).dflt (M75 (((x.1.1.n : Nat) : Int), ((1 : Int), ((4 : Int), ())))) (fun u4 => bif u4.1 then cl (r90).dflt (M90 ((x.1.2.1, (x.1.2.2.1, ())), ())) (fun u5 => bif u5.1 then cl (r90).dflt (M90 ((x.1.2.2.2.1, (x.1.2.2.2.2.1, ())), ())) (fun u6 => bif u6.1 then cl (r68).dflt (M68 ((x.1.2.2.2.2.2.1, (x.1.2.2.2.2.2.2.1, ())), ((1 : Int), (((x.1.1.n : Nat) : Int), ())))) (fun u7 => bif u7.1 then cl (r68).dflt (M68 ((x.1.2.2.2.2.2.2.2.1, (x.1.2.2.2.2.2.2.2.2.1, ())), ((-100000 : Int), ((100000 : Int), ())))) (fun u8 => bif u8.1 then cl (r68).dflt (M68 ((x.1.2.2.2.2.2.2.2.2.2.1, (x.1.2.2.2.2.2.2.2.2.2.2.1, ())), ((-100000 : Int), ((100000 : Int), ())))) (fun u9 => bif u9.1 then cl (r68).dflt (M68 (x.1.2.2.2.2.2.2.2.2.2.2.2, ((0 : Int), ((100000 : Int), ())))) (fun u10 => l (some u10)) (l none) else l (some (false, ()))) (l none) else l (some (false, ()))) (l none) else l (some (false, ()))) (l none) else l (some (false, ()))) (l none) else l (some (false, ()))) (l none) else l (some (false, ()))) (l none)) (onRet (L38x0 ((), (x.1, ())) ((0 : Int), ())) (fun u11 => l (some u11)) (l none))
theorem q38 (x : (a38).den) : runFn Try.prog E0 G38 Try.f38 l38 a38 r38 x = Q38 .leaf .any x := by kernel_rfl
def M38 (x : (a38).den) : Option (r38).den := Q38 (fun r => r) (fun _ _ => none) x
theorem m38 (x : (a38).den) : (runFn Try.prog E0 G38 Try.f38 l38 a38 r38 x).sure = M38 x := by rw [q38]; unfold M38 Q38; simp only [sure_cond, Tree.sure, sure_cl, sure_onExit, sure_onRet, sure_onPanL, sure_onNext, sure_onBrk, sure_onRetO, sure_onPan, sure_onOk, sure_onGPan]
def p38 (x : (a38).den) : Bool := (M38 x).isSome
def v38 (x : (a38).den) : (r38).den := (M38 x).getD (r38).dflt
def k38 : Con := ⟨a38, r38, p38, v38⟩
theorem h38 : Holds Try.prog 38 k38 := holds_of_M' (E := E0) follows_ok g38 eqTy_sound keyTy_sound at38 bd38 (by kernel_rfl) m38 fun G' hlo hF hE => LsOK_kn (by rw [lo38]; exact .cons (loopV_ok hE hF hlo (LsOK_kn (by rw [lo38x0]; exact .nil)) (by kernel_rfl) (by kernel_rfl) sp38x0 (fun _ => rfl) (fun _ _ => rfl) (s38x0) big) (.nil))
/-- isobar/isobarref07.Layer -/
noncomputable def c36 : Code := Try.f36.body.getD .skip
theorem at36 : Try.prog.funcs[36]? = some Try.f36 := by kernel_rfl
theorem bd36 : Try.f36.body = some c36 := by kernel_rfl
theorem cl36 : Callable Try.prog 36 := callable_of at36 (by kernel_rfl) (by kernel_rfl)
abbrev a36 : Ty := T86
abbrev r36 : Ty := T3
noncomputable def G36 : Ctx := Ctx.of [(75, .pure k75)]
theorem g36 : Sound Try.prog (G36) := sound_of (List.forall_mem_cons.2 ⟨⟨cl75, h75⟩, fun _ h => by cases h⟩)
theorem lo36 : loopsOf (c36) = [] := by kernel_rfl
noncomputable def l36 : List Loop := []
def Q36 {α : Type} (l : Option (r36).den → α) (an : α → α → α) (x : (a36).den) : α := cl (r75).dflt (M75 (x.2.1, ((0 : Int), ((W (((x.1.1.n : Nat) : Int) - (1 : Int))), ())))) (fun u0 => l (some u0)) (l none)
theorem q36 (x : (a36).den) : runFn Try.prog E0 G36 Try.f36 l36 a36 r36 x = Q36 .leaf .any x := by kernel_rfl
def M36 (x : (a36).den) : Option (r36).den := Q36 (fun r => r) (fun _ _ => none) x
theorem m36 (x : (a36).den) : (runFn Try.prog E0 G36 Try.f36 l36 a36 r36 x).sure = M36 x := by rw [q36]; unfold M36 Q36; simp only [sure_cond, Tree.sure, sure_cl, sure_onExit, sure_onRet, sure_onPanL, sure_onNext, sure_onBrk, sure_onRetO, sure_onPan, sure_onOk, sure_onGPan]
def p36 (x : (a36).den) : Bool := (M36 x).isSome
def v36 (x : (a36).den) : (r36).den := (M36 x).getD (r36).dflt
def k36 : Con := ⟨a36, r36, p36, v36⟩
theorem h36 : Holds Try.prog 36 k36 := holds_of_M' (E := E0) follows_ok g36 eqTy_sound keyTy_sound at36 bd36 (by kernel_rfl) m36 fun G' hlo hF hE => LsOK_kn (by rw [lo36]; exact .nil)
/-- isobar/isobarref07.Truth -/
noncomputable def c57 : Code := Try.f57.body.getD .skip
theorem at57 : Try.prog.funcs[57]? = some Try.f57 := by kernel_rfl
theorem bd57 : Try.f57.body = some c57 := by kernel_rfl
theorem cl57 : Callable Try.prog 57 := callable_of at57 (by kernel_rfl) (by kernel_rfl)
abbrev a57 : Ty := T73
abbrev r57 : Ty := T3
noncomputable def G57 : Ctx := Ctx.of [(75, .pure k75)]
theorem g57 : Sound Try.prog (G57) := sound_of (List.forall_mem_cons.2 ⟨⟨cl75, h75⟩, fun _ h => by cases h⟩)
noncomputable def b57x0 : Code := loopBody ((loopsOf (c57))[0]?)
theorem lo57x0 : loopsOf (b57x0) = [] := by kernel_rfl
abbrev cs57x0 : List Pat := [.slot 2 (.ptr 2), .slot 3 (.ptr 3), .box 2 [.pc (.sl T9), .pc tI, .pc tI, .pc tI, .pc tI, .pc tI, .pc tI, .pc tI, .pc tI, .pc tI, .pc tI, .pc tI, .pc tI], .box 3 [.pc tI, .pc tI, .pc tI, .pc (.sl T0), .pc (.sl T0)]]
abbrev vs57x0 : List Pat := [.slot 5 (.pc tI)]
abbrev ps57x0 : List Pat := [.slot 2 (.ptr 2), .slot 3 (.ptr 3), .box 2 [.pc (.sl T9), .pc tI, .pc tI, .pc tI, .pc tI, .pc tI, .pc tI, .pc tI, .pc tI, .pc tI, .pc tI, .pc tI, .pc tI], .box 3 [.pc tI, .pc tI, .pc tI, .pc (.sl T0), .pc (.sl T0)], .slot 5 (.pc tI)]
def j57x0 : (patsTy cs57x0).den → (patsTy vs57x0).den → (patsTy ps57x0).den := fun c v => (c.1, (c.2.1, (c.2.2.1, (c.2.2.2.1, v))))
def sp57x0 : (patsTy ps57x0).den → (patsTy cs57x0).den × (patsTy vs57x0).den := fun x => ((x.1, (x.2.1, (x.2.2.1, (x.2.2.2.1, ())))), x.2.2.2.2)
abbrev wy57x0 : Ways := ⟨[(0, [.slot 2 (.ptr 2), .slot 3 (.ptr 3), .box 2 [.pc (.sl T9), .pc tI, .pc tI, .pc tI, .pc tI, .pc tI, .pc tI, .pc tI, .pc tI, .pc tI, .pc tI, .pc tI, .pc tI], .box 3 [.pc tI, .pc tI, .pc tI, .pc (.sl T0), .pc (.sl T0)]])], [.slot 4 (.pc .bool)], []⟩
abbrev wv57x0 : Ways := ⟨[(0, [])], [.slot 4 (.pc .bool)], []⟩
def je57x0 : (id : Nat) → (patsTy cs57x0).den → (patsTy (wayP wv57x0 id)).den → (patsTy (wayP wy57x0 id)).den := fun id => match id with | 0 => fun c y => (c.1, (c.2.1, (c.2.2.1, (c.2.2.2.1, y)))) | id => fun _ _ => (patsTy (wayP wy57x0 id)).dflt
def jr57x0 : (patsTy cs57x0).den → (patsTy (wv57x0).ret).den → (patsTy (wy57x0).ret).den := fun c y => y
def jp57x0 : (patsTy cs57x0).den → (patsTy (wv57x0).pan).den → (patsTy (wy57x0).pan).den := fun c y => y
def Z57x0 {α : Type} (l : RQ vs57x0 wv57x0 → α) (an : α → α → α) (c : (patsTy cs57x0).den) (v : (patsTy vs57x0).den) : α := bif (decide (v.1 < ((c.2.2.1.1.n : Nat) : Int))) then bif (decide (((0 : Int) ≤ v.1) ∧ (v.1 < ((c.2.2.1.1.n : Nat) : Int)))) then bif (decide (((0 : Int) ≤ v.1) ∧ (v.1 < ((c.2.2.2.1.2.2.2.1.n : Nat) : Int)))) then cl (r75).dflt (M75 ((c.2.2.2.1.2.2.2.1.g (Int.toNat v.1)).1, ((c.2.2.1.1.g (Int.toNat v.1)).2.1, ((c.2.2.1.1.g (Int.toNat v.1)).2.2.1, ())))) (fun u0 => bif (!u0.1) then l (.out (.ret (false, ()))) else bif (decide (((0 : Int) ≤ v.1) ∧ (v.1 < ((c.2.2.2.1.2.2.2.2.1.n : Nat) : Int)))) then cl (r75).dflt (M75 ((c.2.2.2.1.2.2.2.2.1.g (Int.toNat v.1)).1, (c.2.2.1.1.g (Int.toNat v.1)).2.2.2)) (fun u1 => bif (!u1.1) then l (.out (.ret (false, ()))) else l (.next ((W (v.1 + (1 : Int))), ()))) (l .bad) else l .bad) (l .bad) else l .bad else l .bad else l (.out (.exit 0 ()))
theorem z57x0 (c : (patsTy cs57x0).den) (v : (patsTy vs57x0).den) : roundQ Try.prog E0 G57 0 94 [] ps57x0 wy57x0 b57x0 [] (j57x0 c v) = Z57x0 (fun r => .leaf (r.lift j57x0 je57x0 jr57x0 jp57x0 c)) .any c v := by kernel_rfl
def S57x0 (c : (patsTy cs57x0).den) (v : (patsTy vs57x0).den) : RQ vs57x0 wv57x0 := Z57x0 (fun r => r) (fun _ _ => .bad) c v
theorem s57x0 (c : (patsTy cs57x0).den) (v : (patsTy vs57x0).den) : detQ (roundQ Try.prog E0 G57 0 94 [] ps57x0 wy57x0 b57x0 [] (j57x0 c v)) = (S57x0 c v).lift j57x0 je57x0 jr57x0 jp57x0 c := by rw [z57x0]; unfold S57x0 Z57x0; simp only [detQ_cond, lift_cond, lift_bad, detQ, detQ_cl, detQ_onExit, detQ_onRet, detQ_onPanL, detQ_onNext, detQ_onBrk, detQ_onRetO, detQ_onPan, detQ_onOk, detQ_onGPan, lift_cl, lift_onExit, lift_onRet, lift_onPanL, lift_onNext, lift_onBrk, lift_onRetO, lift_onPan, lift_onOk, lift_onGPan]
def L57x0 (c : (patsTy cs57x0).den) (v : (patsTy vs57x0).den) : LQ wv57x0 := iterQ (S57x0 c) big v
theorem lo57 : loopsOf (c57) = [.loop b57x0] := by kernel_rfl
noncomputable def l57 : List Loop := [.known (loopZ 0 [] ps57x0 fun x => spreadV wy57x0 je57x0 jr57x0 jp57x0 [] true (sp57x0 x).1 (L57x0 (sp57x0 x).1 (sp57x0 x).2) wy57x0.exits)]
def Q57 {α : Type} (l : Option (r57).den → α) (an : α → α → α) (x : (a57).den) : α := bif (!(decide (((x.2.1.2.2.2.1.n : Nat) : Int) = ((x.1.1.n : Nat) : Int)))) then l (some (false, ())) else bif (!(decide (((x.2.1.2.2.2.2.1.n : Nat) : Int) = ((x.1.1.n : Nat) : Int)))) then l (some (false, ())) else onExit (L57x0 ((), ((), (x.1, (x.2.1, ())))) ((0 : Int), ())) 0 (fun u2 => cl (r75).dflt (M75 (x.2.1.1, (x.1.2.1, (x.1.2.2.1, ())))) (fun u3 => bif u3.1 then cl (r75).dflt (M75 (x.2.1.2.1, (x.1.2.2.2.1, (x.1.2.2.2.2.1, ())))) (fun u4 => bif u4.1 then cl (r75).dflt (M75 (x.2.1.2.2.1, (x.1.2.2.2.2.2.1, (x.1.2.2.2.2.2.2.1, ())))) (fun u5 => l (some u5)) (l none) else l (some (false, ()))) (l none) else l (some (false, ()))) (l none)) (onRet (L57x0 ((), ((), (x.1, (x.2.1, ())))) ((0 : Int), ())) (fun u6 => l (some u6)) (l none))
theorem q57 (x : (a57).den) : runFn Try.prog E0 G57 Try.f57 l57 a57 r57 x = Q57 .leaf .any x := by kernel_rfl
def M57 (x : (a57).den) : Option (r57).den := Q57 (fun r => r) (fun _ _ => none) x
theorem m57 (x : (a57).den) : (runFn Try.prog E0 G57 Try.f57 l57 a57 r57 x).sure = M57 x := by rw [q57]; unfold M57 Q57; simp only [sure_cond, Tree.sure, sure_cl, sure_onExit, sure_onRet, sure_onPanL, sure_onNext, sure_onBrk, sure_onRetO, sure_onPan, sure_onOk, sure_onGPan]
def p57 (x : (a57).den) : Bool := (M57 x).isSome
def v57 (x : (a57).den) : (r57).den := (M57 x).getD (r57).dflt
def k57 : Con := ⟨a57, r57, p57, v57⟩
theorem h57 : Holds Try.prog 57 k57 := holds_of_M' (E := E0) follows_ok g57 eqTy_sound keyTy_sound at57 bd57 (by kernel_rfl) m57 fun G' hlo hF hE => LsOK_kn (by rw [lo57]; exact .cons (loopV_ok hE hF hlo (LsOK_kn (by rw [lo57x0]; exact .nil)) (by kernel_rfl) (by kernel_rfl) sp57x0 (fun _ => rfl) (fun _ _ => rfl) (s57x0) big) (.nil))
/-- isobar/isobarref07.Times -/
noncomputable def c99 : Code := Try.f99.body.getD .skip
theorem at99 : Try.prog.funcs[99]? = some Try.f99 := by kernel_rfl
theorem bd99 : Try.f99.body = some c99 := by kernel_rfl
theorem cl99 : Callable Try.prog 99 := callable_of at99 (by kernel_rfl) (by kernel_rfl)
abbrev T119 : Ty := (.cons T42 T2)
abbrev a99 : Ty := T119
abbrev r99 : Ty := T44
noncomputable def G99 : Ctx := Ctx.of []
theorem g99 : Sound Try.prog (G99) := sound_of (fun _ h => by cases h)
noncomputable def b99x0 : Code := loopBody ((loopsOf (c99))[0]?)
theorem lo99x0 : loopsOf (b99x0) = [] := by kernel_rfl
abbrev cs99x0 : List Pat := [.slot 1 (.pc tI), .slot 2 (.pc tI), .slot 3 (.pc tI), .slot 4 (.ptr 4), .box 4 [.pc (.sl T9), .pc tI, .pc tI, .pc tI, .pc tI, .pc tI, .pc tI, .pc tI, .pc tI, .pc tI, .pc tI, .pc tI, .pc tI]]
abbrev vs99x0 : List Pat := [.slot 9 (.own 1000009 3 T0), .slot 10 (.pc tI)]
abbrev ps99x0 : List Pat := [.slot 1 (.pc tI), .slot 2 (.pc tI), .slot 3 (.pc tI), .slot 4 (.ptr 4), .box 4 [.pc (.sl T9), .pc tI, .pc tI, .pc tI, .pc tI, .pc tI, .pc tI, .pc tI, .pc tI, .pc tI, .pc tI, .pc tI, .pc tI], .slot 9 (.own 1000009 3 T0), .slot 10 (.pc tI)]
def j99x0 : (patsTy cs99x0).den → (patsTy vs99x0).den → (patsTy ps99x0).den := fun c v => (c.1, (c.2.1, (c.2.2.1, (c.2.2.2.1, (c.2.2.2.2.1, v)))))
def sp99x0 : (patsTy ps99x0).den → (patsTy cs99x0).den × (patsTy vs99x0).den := fun x => ((x.1, (x.2.1, (x.2.2.1, (x.2.2.2.1, (x.2.2.2.2.1, ()))))), x.2.2.2.2.2)
abbrev wy99x0 : Ways := ⟨[(0, [.slot 9 (.pc (.sl T0))])], [], []⟩
abbrev wv99x0 : Ways := ⟨[(0, [.slot 9 (.pc (.sl T0))])], [], []⟩
def je99x0 : (id : Nat) → (patsTy cs99x0).den → (patsTy (wayP wv99x0 id)).den → (patsTy (wayP wy99x0 id)).den := fun id => match id with | 0 => fun c y => y | id => fun _ _ => (patsTy (wayP wy99x0 id)).dflt
def jr99x0 : (patsTy cs99x0).den → (patsTy (wv99x0).ret).den → (patsTy (wy99x0).ret).den := fun c y => y
def jp99x0 : (patsTy cs99x0).den → (patsTy (wv99x0).pan).den → (patsTy (wy99x0).pan).den := fun c y => y
def Z99x0 {α : Type} (l : RQ vs99x0 wv99x0 → α) (an : α → α → α) (c : (patsTy cs99x0).den) (v : (patsTy vs99x0).den) : α := bif (decide (v.2.1 < ((c.2.2.2.2.1.1.n : Nat) : Int))) then bif (decide (v.2.1 < c.2.2.1)) then bif (decide (((0 : Int) ≤ v.2.1) ∧ (v.2.1 < ((c.2.2.2.2.1.1.n : Nat) : Int)))) then bif (decide (c.1 = (0 : Int))) then l .bad else bif (decide (((0 : Int) ≤ v.2.1) ∧ (v.2.1 < ((c.2.2.2.2.1.1.n : Nat) : Int)))) then bif (decide (c.2.1 = (0 : Int))) then l .bad else bif (decide (((v.1.n + 1) * 8) ≤ 140737488355328)) then l (.next ((catSl v.1 (⟨1, fun i => List.getD [((W ((W (Int.tdiv (W ((W ((c.2.2.2.2.1.1.g (Int.toNat v.2.1)).1 + c.1)) - (1 : Int))) c.1)) + (W (Int.tdiv (W ((W ((c.2.2.2.2.1.1.g (Int.toNat v.2.1)).1 + c.2.1)) - (1 : Int))) c.2.1)))), ())] i ((W ((W (Int.tdiv (W ((W ((c.2.2.2.2.1.1.g (Int.toNat v.2.1)).1 + c.1)) - (1 : Int))) c.1)) + (W (Int.tdiv (W ((W ((c.2.2.2.2.1.1.g (Int.toNat v.2.1)).1 + c.2.1)) - (1 : Int))) c.2.1)))), ())⟩ : Sl (Ty.den T0))), ((W (v.2.1 + (1 : Int))), ()))) else l .bad else l .bad else l .bad else bif (decide (((v.1.n + 1) * 8) ≤ 140737488355328)) then l (.next ((catSl v.1 (⟨1, fun i => List.getD [((0 : Int), ())] i ((0 : Int), ())⟩ : Sl (Ty.den T0))), ((W (v.2.1 + (1 : Int))), ()))) else l .bad else l (.out (.exit 0 (v.1, ())))
theorem z99x0 (c : (patsTy cs99x0).den) (v : (patsTy vs99x0).den) : roundQ Try.prog E0 G99 0 50 [] ps99x0 wy99x0 b99x0 [] (j99x0 c v) = Z99x0 (fun r => .leaf (r.lift j99x0 je99x0 jr99x0 jp99x0 c)) .any c v := by kernel_rfl
def S99x0 (c : (patsTy cs99x0).den) (v : (patsTy vs99x0).den) : RQ vs99x0 wv99x0 := Z99x0 (fun r => r) (fun _ _ => .bad) c v
theorem s99x0 (c : (patsTy cs99x0).den) (v : (patsTy vs99x0).den) : detQ (roundQ Try.prog E0 G99 0 50 [] ps99x0 wy99x0 b99x0 [] (j99x0 c v)) = (S99x0 c v).lift j99x0 je99x0 jr99x0 jp99x0 c := by rw [z99x0]; unfold S99x0 Z99x0; simp only [detQ_cond, lift_cond, lift_bad, detQ, detQ_cl, detQ_onExit, detQ_onRet, detQ_onPanL, detQ_onNext, detQ_onBrk, detQ_onRetO, detQ_onPan, detQ_onOk, detQ_onGPan, lift_cl, lift_onExit, lift_onRet, lift_onPanL, lift_onNext, lift_onBrk, lift_onRetO, lift_onPan, lift_onOk, lift_onGPan]
def L99x0 (c : (patsTy cs99x0).den) (v : (patsTy vs99x0).den) : LQ wv99x0 := iterQ (S99x0 c) big v
theorem lo99 : loopsOf (c99) = [.loop b99x0] := by kernel_rfl
noncomputable def l99 : List Loop := [.known (loopZ 0 [] ps99x0 fun x => spreadV wy99x0 je99x0 jr99x0 jp99x0 [] false (sp99x0 x).1 (L99x0 (sp99x0 x).1 (sp99x0 x).2) wy99x0.exits)]
def Q99 {α : Type} (l : Option (r99).den → α) (an : α → α → α) (x : (a99).den) : α := onExit (L99x0 (x.2.1, (x.2.2.1, (x.2.2.2.1, ((), (x.1, ()))))) ((⟨0, fun i => ((0 : Int), ())⟩ : Sl _), ((0 : Int), ()))) 0 (fun u0 => l (some u0)) (l none)
theorem q99 (x : (a99).den) : runFn Try.prog E0 G99 Try.f99 l99 a99 r99 x = Q99 .leaf .any x := by kernel_rfl
def M99 (x : (a99).den) : Option (r99).den := Q99 (fun r => r) (fun _ _ => none) x
theorem m99 (x : (a99).den) : (runFn Try.prog E0 G99 Try.f99 l99 a99 r99 x).sure = M99 x := by rw [q99]; unfold M99 Q99; simp only [sure_cond, Tree.sure, sure_cl, sure_onExit, sure_onRet, sure_onPanL, sure_onNext, sure_onBrk, sure_onRetO, sure_onPan, sure_onOk, sure_onGPan]
def p99 (x : (a99).den) : Bool := (M99 x).isSome
def v99 (x : (a99).den) : (r99).den := (M99 x).getD (r99).dflt
def k99 : Con := ⟨a99, r99, p99, v99⟩
theorem h99 : Holds Try.prog 99 k99 := holds_of_M' (E := E0) follows_ok g99 eqTy_sound keyTy_sound at99 bd99 (by kernel_rfl) m99 fun G' hlo hF hE => LsOK_kn (by rw [lo99]; exact .cons (loopV_ok hE hF hlo (LsOK_kn (by rw [lo99x0]; exact .nil)) (by kernel_rfl) (by kernel_rfl) sp99x0 (fun _ => rfl) (fun _ _ => rfl) (s99x0) big) (.nil))
/-- isobar/isobarref07.sum -/
noncomputable def c100 : Code := Try.f100.body.getD .skip
theorem at100 : Try.prog.funcs[100]? = some Try.f100 := by kernel_rfl
theorem bd100 : Try.f100.body = some c100 := by kernel_rfl
theorem cl100 : Callable Try.prog 100 := callable_of at100 (by kernel_rfl) (by kernel_rfl)
abbrev a100 : Ty := T52
abbrev r100 : Ty := T0
noncomputable def G100 : Ctx := Ctx.of []
theorem g100 : Sound Try.prog (G100) := sound_of (fun _ h => by cases h)
noncomputable def b100x0 : Code := loopBody ((loopsOf (c100))[0]?)
theorem lo100x0 : loopsOf (b100x0) = [] := by kernel_rfl
abbrev cs100x0 : List Pat := [.slot 0 (.pc (.sl T0)), .slot 1 (.pc (.sl T0))]
abbrev vs100x0 : List Pat := [.slot 5 (.pc tI), .slot 6 (.pc tI)]
abbrev ps100x0 : List Pat := [.slot 0 (.pc (.sl T0)), .slot 1 (.pc (.sl T0)), .slot 5 (.pc tI), .slot 6 (.pc tI)]
def j100x0 : (patsTy cs100x0).den → (patsTy vs100x0).den → (patsTy ps100x0).den := fun c v => (c.1, (c.2.1, v))
def sp100x0 : (patsTy ps100x0).den → (patsTy cs100x0).den × (patsTy vs100x0).den := fun x => ((x.1, (x.2.1, ())), x.2.2)
abbrev wy100x0 : Ways := ⟨[(0, [.slot 5 (.pc tI)])], [], []⟩
abbrev wv100x0 : Ways := ⟨[(0, [.slot 5 (.pc tI)])], [], []⟩
def je100x0 : (id : Nat) → (patsTy cs100x0).den → (patsTy (wayP wv100x0 id)).den → (patsTy (wayP wy100x0 id)).den := fun id => match id with | 0 => fun c y => y | id => fun _ _ => (patsTy (wayP wy100x0 id)).dflt
def jr100x0 : (patsTy cs100x0).den → (patsTy (wv100x0).ret).den → (patsTy (wy100x0).ret).den := fun c y => y
def jp100x0 : (patsTy cs100x0).den → (patsTy (wv100x0).pan).den → (patsTy (wy100x0).pan).den := fun c y => y
def Z100x0 {α : Type} (l : RQ vs100x0 wv100x0 → α) (an : α → α → α) (c : (patsTy cs100x0).den) (v : (patsTy vs100x0).den) : α := bif (decide (v.2.1 < ((c.1.n : Nat) : Int))) then bif (decide (((0 : Int) ≤ v.2.1) ∧ (v.2.1 < ((c.1.n : Nat) : Int)))) then bif (decide (((0 : Int) ≤ v.2.1) ∧ (v.2.1 < ((c.2.1.n : Nat) : Int)))) then l (.next ((W (v.1 + (W ((c.1.g (Int.toNat v.2.1)).1 * (c.2.1.g (Int.toNat v.2.1)).1)))), ((W (v.2.1 + (1 : Int))), ()))) else l .bad else l .bad else l (.out (.exit 0 (v.1, ())))
theorem z100x0 (c : (patsTy cs100x0).den) (v : (patsTy vs100x0).den) : roundQ Try.prog E0 G100 0 25 [] ps100x0 wy100x0 b100x0 [] (j100x0 c v) = Z100x0 (fun r => .leaf (r.lift j100x0 je100x0 jr100x0 jp100x0 c)) .any c v := by kernel_rfl
def S100x0 (c : (patsTy cs100x0).den) (v : (patsTy vs100x0).den) : RQ vs100x0 wv100x0 := Z100x0 (fun r => r) (fun _ _ => .bad) c v
theorem s100x0 (c : (patsTy cs100x0).den) (v : (patsTy vs100x0).den) : detQ (roundQ Try.prog E0 G100 0 25 [] ps100x0 wy100x0 b100x0 [] (j100x0 c v)) = (S100x0 c v).lift j100x0 je100x0 jr100x0 jp100x0 c := by rw [z100x0]; unfold S100x0 Z100x0; simp only [detQ_cond, lift_cond, lift_bad, detQ, detQ_cl, detQ_onExit, detQ_onRet, detQ_onPanL, detQ_onNext, detQ_onBrk, detQ_onRetO, detQ_onPan, detQ_onOk, detQ_onGPan, lift_cl, lift_onExit, lift_onRet, lift_onPanL, lift_onNext, lift_onBrk, lift_onRetO, lift_onPan, lift_onOk, lift_onGPan]
def L100x0 (c : (patsTy cs100x0).den) (v : (patsTy vs100x0).den) : LQ wv100x0 := iterQ (S100x0 c) big v
theorem lo100 : loopsOf (c100) = [.loop b100x0] := by kernel_rfl
noncomputable def l100 : List Loop := [.known (loopZ 0 [] ps100x0 fun x => spreadV wy100x0 je100x0 jr100x0 jp100x0 [] false (sp100x0 x).1 (L100x0 (sp100x0 x).1 (sp100x0 x).2) wy100x0.exits)]
def Q100 {α : Type} (l : Option (r100).den → α) (an : α → α → α) (x : (a100).den) : α := onExit (L100x0 x ((0 : Int), ((0 : Int), ()))) 0 (fun u0 => l (some u0)) (l none)
theorem q100 (x : (a100).den) : runFn Try.prog E0 G100 Try.f100 l100 a100 r100 x = Q100 .leaf .any x := by kernel_rfl
def M100 (x : (a100).den) : Option (r100).den := Q100 (fun r => r) (fun _ _ => none) x
theorem m100 (x : (a100).den) : (runFn Try.prog E0 G100 Try.f100 l100 a100 r100 x).sure = M100 x := by rw [q100]; unfold M100 Q100; simp only [sure_cond, Tree.sure, sure_cl, sure_onExit, sure_onRet, sure_onPanL, sure_onNext, sure_onBrk, sure_onRetO, sure_onPan, sure_onOk, sure_onGPan]
def p100 (x : (a100).den) : Bool := (M100 x).isSome
def v100 (x : (a100).den) : (r100).den := (M100 x).getD (r100).dflt
def k100 : Con := ⟨a100, r100, p100, v100⟩
theorem h100 : Holds Try.prog 100 k100 := holds_of_M' (E := E0) follows_ok g100 eqTy_sound keyTy_sound at100 bd100 (by kernel_rfl) m100 fun G' hlo hF hE => LsOK_kn (by rw [lo100]; exact .cons (loopV_ok hE hF hlo (LsOK_kn (by rw [lo100x0]; exact .nil)) (by kernel_rfl) (by kernel_rfl) sp100x0 (fun _ => rfl) (fun _ _ => rfl) (s100x0) big) (.nil))
/-- isobar/isobarref07.total -/
noncomputable def c101 : Code := Try.f101.body.getD .skip
theorem at101 : Try.prog.funcs[101]? = some Try.f101 := by kernel_rfl
theorem bd101 : Try.f101.body = some c101 := by kernel_rfl
theorem cl101 : Callable Try.prog 101 := callable_of at101 (by kernel_rfl) (by kernel_rfl)
abbrev a101 : Ty := T44
abbrev r101 : Ty := T0
noncomputable def G101 : Ctx := Ctx.of []
theorem g101 : Sound Try.prog (G101) := sound_of (fun _ h => by cases h)
noncomputable def b101x0 : Code := loopBody ((loopsOf (c101))[0]?)
theorem lo101x0 : loopsOf (b101x0) = [] := by kernel_rfl
abbrev cs101x0 : List Pat := [.slot 0 (.pc (.sl T0))]
abbrev vs101x0 : List Pat := [.slot 3 (.pc tI), .slot 4 (.pc tI)]
abbrev ps101x0 : List Pat := [.slot 0 (.pc (.sl T0)), .slot 3 (.pc tI), .slot 4 (.pc tI)]
def j101x0 : (patsTy cs101x0).den → (patsTy vs101x0).den → (patsTy ps101x0).den := fun c v => (c.1, v)
def sp101x0 : (patsTy ps101x0).den → (patsTy cs101x0).den × (patsTy vs101x0).den := fun x => ((x.1, ()), x.2)
abbrev wy101x0 : Ways := ⟨[(0, [.slot 3 (.pc tI)])], [], []⟩
abbrev wv101x0 : Ways := ⟨[(0, [.slot 3 (.pc tI)])], [], []⟩
def je101x0 : (id : Nat) → (patsTy cs101x0).den → (patsTy (wayP wv101x0 id)).den → (patsTy (wayP wy101x0 id)).den := fun id => match id with | 0 => fun c y => y | id => fun _ _ => (patsTy (wayP wy101x0 id)).dflt
def jr101x0 : (patsTy cs101x0).den → (patsTy (wv101x0).ret).den → (patsTy (wy101x0).ret).den := fun c y => y
def jp101x0 : (patsTy cs101x0).den → (patsTy (wv101x0).pan).den → (patsTy (wy101x0).pan).den := fun c y => y
def Z101x0 {α : Type} (l : RQ vs101x0 wv101x0 → α) (an : α → α → α) (c : (patsTy cs101x0).den) (v : (patsTy vs101x0).den) : α := bif (decide (v.2.1 < ((c.1.n : Nat) : Int))) then bif (decide (((0 : Int) ≤ v.2.1) ∧ (v.2.1 < ((c.1.n : Nat) : Int)))) then l (.next ((W (v.1 + (c.1.g (Int.toNat v.2.1)).1)), ((W (v.2.1 + (1 : Int))), ()))) else l .bad else l (.out (.exit 0 (v.1, ())))
theorem z101x0 (c : (patsTy cs101x0).den) (v : (patsTy vs101x0).den) : roundQ Try.prog E0 G101 0 18 [] ps101x0 wy101x0 b101x0 [] (j101x0 c v) = Z101x0 (fun r => .leaf (r.lift j101x0 je101x0 jr101x0 jp101x0 c)) .any c v := by kernel_rfl
def S101x0 (c : (patsTy cs101x0).den) (v : (patsTy vs101x0).den) : RQ vs101x0 wv101x0 := Z101x0 (fun r => r) (fun _ _ => .bad) c v
theorem s101x0 (c : (patsTy cs101x0).den) (v : (patsTy vs101x0).den) : detQ (roundQ Try.prog E0 G101 0 18 [] ps101x0 wy101x0 b101x0 [] (j101x0 c v)) = (S101x0 c v).lift j101x0 je101x0 jr101x0 jp101x0 c := by rw [z101x0]; unfold S101x0 Z101x0; simp only [detQ_cond, lift_cond, lift_bad, detQ, detQ_cl, detQ_onExit, detQ_onRet, detQ_onPanL, detQ_onNext, detQ_onBrk, detQ_onRetO, detQ_onPan, detQ_onOk, detQ_onGPan, lift_cl, lift_onExit, lift_onRet, lift_onPanL, lift_onNext, lift_onBrk, lift_onRetO, lift_onPan, lift_onOk, lift_onGPan]
def L101x0 (c : (patsTy cs101x0).den) (v : (patsTy vs101x0).den) : LQ wv101x0 := iterQ (S101x0 c) big v
theorem lo101 : loopsOf (c101) = [.loop b101x0] := by kernel_rfl
noncomputable def l101 : List Loop := [.known (loopZ 0 [] ps101x0 fun x => spreadV wy101x0 je101x0 jr101x0 jp101x0 [] false (sp101x0 x).1 (L101x0 (sp101x0 x).1 (sp101x0 x).2) wy101x0.exits)]
def Q101 {α : Type} (l : Option (r101).den → α) (an : α → α → α) (x : (a101).den) : α := onExit (L101x0 x ((0 : Int), ((0 : Int), ()))) 0 (fun u0 => l (some u0)) (l none)
theorem q101 (x : (a101).den) : runFn Try.prog E0 G101 Try.f101 l101 a101 r101 x = Q101 .leaf .any x := by kernel_rfl
def M101 (x : (a101).den) : Option (r101).den := Q101 (fun r => r) (fun _ _ => none) x
theorem m101 (x : (a101).den) : (runFn Try.prog E0 G101 Try.f101 l101 a101 r101 x).sure = M101 x := by rw [q101]; unfold M101 Q101; simp only [sure_cond, Tree.sure, sure_cl, sure_onExit, sure_onRet, sure_onPanL, sure_onNext, sure_onBrk, sure_onRetO, sure_onPan, sure_onOk, sure_onGPan]
def p101 (x : (a101).den) : Bool := (M101 x).isSome
def v101 (x : (a101).den) : (r101).den := (M101 x).getD (r101).dflt
def k101 : Con := ⟨a101, r101, p101, v101⟩
theorem h101 : Holds Try.prog 101 k101 := holds_of_M' (E := E0) follows_ok g101 eqTy_sound keyTy_sound at101 bd101 (by kernel_rfl) m101 fun G' hlo hF hE => LsOK_kn (by rw [lo101]; exact .cons (loopV_ok hE hF hlo (LsOK_kn (by rw [lo101x0]; exact .nil)) (by kernel_rfl) (by kernel_rfl) sp101x0 (fun _ => rfl) (fun _ _ => rfl) (s101x0) big) (.nil))
/-- isobar/isobarref07.Spans -/
noncomputable def c86 : Code := Try.f86.body.getD .skip
theorem at86 : Try.prog.funcs[86]? = some Try.f86 := by kernel_rfl
theorem bd86 : Try.f86.body = some c86 := by kernel_rfl
theorem cl86 : Callable Try.prog 86 := callable_of at86 (by kernel_rfl) (by kernel_rfl)
abbrev T120 : Ty := (.cons T42 T3)
abbrev a86 : Ty := T120
abbrev r86 : Ty := T51
noncomputable def G86 : Ctx := Ctx.of []
theorem g86 : Sound Try.prog (G86) := sound_of (fun _ h => by cases h)
noncomputable def b86x0 : Code := loopBody ((loopsOf (c86))[0]?)
theorem lo86x0 : loopsOf (b86x0) = [] := by kernel_rfl
abbrev cs86x0 : List Pat := [.slot 1 (.pc .bool), .slot 2 (.ptr 2), .box 2 [.pc (.sl T9), .pc tI, .pc tI, .pc tI, .pc tI, .pc tI, .pc tI, .pc tI, .pc tI, .pc tI, .pc tI, .pc tI, .pc tI]]
abbrev vs86x0 : List Pat := [.slot 5 (.own 1000005 23 T1), .slot 6 (.pc tI)]
abbrev ps86x0 : List Pat := [.slot 1 (.pc .bool), .slot 2 (.ptr 2), .box 2 [.pc (.sl T9), .pc tI, .pc tI, .pc tI, .pc tI, .pc tI, .pc tI, .pc tI, .pc tI, .pc tI, .pc tI, .pc tI, .pc tI], .slot 5 (.own 1000005 23 T1), .slot 6 (.pc tI)]
def j86x0 : (patsTy cs86x0).den → (patsTy vs86x0).den → (patsTy ps86x0).den := fun c v => (c.1, (c.2.1, (c.2.2.1, v)))
def sp86x0 : (patsTy ps86x0).den → (patsTy cs86x0).den × (patsTy vs86x0).den := fun x => ((x.1, (x.2.1, (x.2.2.1, ()))), x.2.2.2)
abbrev wy86x0 : Ways := ⟨[(0, [.slot 5 (.pc (.sl T1))])], [], []⟩
abbrev wv86x0 : Ways := ⟨[(0, [.slot 5 (.pc (.sl T1))])], [], []⟩
def je86x0 : (id : Nat) → (patsTy cs86x0).den → (patsTy (wayP wv86x0 id)).den → (patsTy (wayP wy86x0 id)).den := fun id => match id with | 0 => fun c y => y | id => fun _ _ => (patsTy (wayP wy86x0 id)).dflt
def jr86x0 : (patsTy cs86x0).den → (patsTy (wv86x0).ret).den → (patsTy (wy86x0).ret).den := fun c y => y
def jp86x0 : (patsTy cs86x0).den → (patsTy (wv86x0).pan).den → (patsTy (wy86x0).pan).den := fun c y => y
def Z86x0 {α : Type} (l : RQ vs86x0 wv86x0 → α) (an : α → α → α) (c : (patsTy cs86x0).den) (v : (patsTy vs86x0).den) : α := bif (decide (v.2.1 < ((c.2.2.1.1.n : Nat) : Int))) then bif (decide (((0 : Int) ≤ v.2.1) ∧ (v.2.1 < ((c.2.2.1.1.n : Nat) : Int)))) then bif c.1 then bif (decide (((0 : Int) ≤ v.2.1) ∧ (v.2.1 < ((c.2.2.1.1.n : Nat) : Int)))) then bif (decide (((v.1.n + 1) * 16) ≤ 140737488355328)) then l (.next ((catSl v.1 (⟨1, fun i => List.getD [(c.2.2.1.1.g (Int.toNat v.2.1)).2.2.2] i (c.2.2.1.1.g (Int.toNat v.2.1)).2.2.2⟩ : Sl (Ty.den T1))), ((W (v.2.1 + (1 : Int))), ()))) else l .bad else l .bad else bif (decide (((v.1.n + 1) * 16) ≤ 140737488355328)) then l (.next ((catSl v.1 (⟨1, fun i => List.getD [((c.2.2.1.1.g (Int.toNat v.2.1)).2.1, ((c.2.2.1.1.g (Int.toNat v.2.1)).2.2.1, ()))] i ((c.2.2.1.1.g (Int.toNat v.2.1)).2.1, ((c.2.2.1.1.g (Int.toNat v.2.1)).2.2.1, ()))⟩ : Sl (Ty.den T1))), ((W (v.2.1 + (1 : Int))), ()))) else l .bad else l .bad else l (.out (.exit 0 (v.1, ())))
theorem z86x0 (c : (patsTy cs86x0).den) (v : (patsTy vs86x0).den) : roundQ Try.prog E0 G86 0 33 [] ps86x0 wy86x0 b86x0 [] (j86x0 c v) = Z86x0 (fun r => .leaf (r.lift j86x0 je86x0 jr86x0 jp86x0 c)) .any c v := by kernel_rfl
def S86x0 (c : (patsTy cs86x0).den) (v : (patsTy vs86x0).den) : RQ vs86x0 wv86x0 := Z86x0 (fun r => r) (fun _ _ => .bad) c v
theorem s86x0 (c : (patsTy cs86x0).den) (v : (patsTy vs86x0).den) : detQ (roundQ Try.prog E0 G86 0 33 [] ps86x0 wy86x0 b86x0 [] (j86x0 c v)) = (S86x0 c v).lift j86x0 je86x0 jr86x0 jp86x0 c := by rw [z86x0]; unfold S86x0 Z86x0; simp only [detQ_cond, lift_cond, lift_bad, detQ, detQ_cl, detQ_onExit, detQ_onRet, detQ_onPanL, detQ_onNext, detQ_onBrk, detQ_onRetO, detQ_onPan, detQ_onOk, detQ_onGPan, lift_cl, lift_onExit, lift_onRet, lift_onPanL, lift_onNext, lift_onBrk, lift_onRetO, lift_onPan, lift_onOk, lift_onGPan]
def L86x0 (c : (patsTy cs86x0).den) (v : (patsTy vs86x0).den) : LQ wv86x0 := iterQ (S86x0 c) big v
theorem lo86 : loopsOf (c86) = [.loop b86x0] := by kernel_rfl
noncomputable def l86 : List Loop := [.known (loopZ 0 [] ps86x0 fun x => spreadV wy86x0 je86x0 jr86x0 jp86x0 [] false (sp86x0 x).1 (L86x0 (sp86x0 x).1 (sp86x0 x).2) wy86x0.exits)]
def Q86 {α : Type} (l : Option (r86).den → α) (an : α → α → α) (x : (a86).den) : α := onExit (L86x0 (x.2.1, ((), (x.1, ()))) ((⟨0, fun i => ((0 : Int), ((0 : Int), ()))⟩ : Sl _), ((0 : Int), ()))) 0 (fun u0 => l (some u0)) (l none)
theorem q86 (x : (a86).den) : runFn Try.prog E0 G86 Try.f86 l86 a86 r86 x = Q86 .leaf .any x := by kernel_rfl
def M86 (x : (a86).den) : Option (r86).den := Q86 (fun r => r) (fun _ _ => none) x
theorem m86 (x : (a86).den) : (runFn Try.prog E0 G86 Try.f86 l86 a86 r86 x).sure = M86 x := by rw [q86]; unfold M86 Q86; simp only [sure_cond, Tree.sure, sure_cl, sure_onExit, sure_onRet, sure_onPanL, sure_onNext, sure_onBrk, sure_onRetO, sure_onPan, sure_onOk, sure_onGPan]
def p86 (x : (a86).den) : Bool := (M86 x).isSome
def v86 (x : (a86).den) : (r86).den := (M86 x).getD (r86).dflt
def k86 : Con := ⟨a86, r86, p86, v86⟩
theorem h86 : Holds Try.prog 86 k86 := holds_of_M' (E := E0) follows_ok g86 eqTy_sound keyTy_sound at86 bd86 (by kernel_rfl) m86 fun G' hlo hF hE => LsOK_kn (by rw [lo86]; exact .cons (loopV_ok hE hF hlo (LsOK_kn (by rw [lo86x0]; exact .nil)) (by kernel_rfl) (by kernel_rfl) sp86x0 (fun _ => rfl) (fun _ _ => rfl) (s86x0) big) (.nil))
/-- isobar/isobarref07.list -/
noncomputable def c111 : Code := Try.f111.body.getD .skip
theorem at111 : Try.prog.funcs[111]? = some Try.f111 := by kernel_rfl
theorem bd111 : Try.f111.body = some c111 := by kernel_rfl
theorem cl111 : Callable Try.prog 111 := callable_of at111 (by kernel_rfl) (by kernel_rfl)
abbrev T121 : Ty := (.cons T4 T44)
abbrev T122 : Ty := (.cons (.sl T0) T121)
abbrev T123 : Ty := (.cons (.sl T1) T122)
abbrev a111 : Ty := T123
abbrev r111 : Ty := T79
noncomputable def G111 : ((a111).den → Option (r111).den) → Ctx := fun R111 => Ctx.of [(100, .pure k100), (111, .pure (conM R111))]
theorem g111 (R111 : (a111).den → Option (r111).den) (hR : Holds Try.prog 111 (conM R111)) : Sound Try.prog (G111 R111) := sound_of (List.forall_mem_cons.2 ⟨⟨cl100, h100⟩, List.forall_mem_cons.2 ⟨⟨cl111, hR⟩, fun _ h => by cases h⟩⟩)
noncomputable def b111x0 : Code := loopBody ((loopsOf (c111))[0]?)
theorem lo111x0 : loopsOf (b111x0) = [] := by kernel_rfl
abbrev cs111x0 : List Pat := [.slot 0 (.pc (.sl T1)), .slot 1 (.pc (.sl T0)), .slot 3 (.pc (.sl T0)), .slot 6 (.ptr 6), .box 6 [.pc tI, .pc tI]]
abbrev vs111x0 : List Pat := [.slot 10 (.pc tI), .slot 11 (.pc tI), .slot 12 (.pc tI)]
abbrev ps111x0 : List Pat := [.slot 0 (.pc (.sl T1)), .slot 1 (.pc (.sl T0)), .slot 3 (.pc (.sl T0)), .slot 6 (.ptr 6), .box 6 [.pc tI, .pc tI], .slot 10 (.pc tI), .slot 11 (.pc tI), .slot 12 (.pc tI)]
def j111x0 : (patsTy cs111x0).den → (patsTy vs111x0).den → (patsTy ps111x0).den := fun c v => (c.1, (c.2.1, (c.2.2.1, (c.2.2.2.1, (c.2.2.2.2.1, v)))))
def sp111x0 : (patsTy ps111x0).den → (patsTy cs111x0).den × (patsTy vs111x0).den := fun x => ((x.1, (x.2.1, (x.2.2.1, (x.2.2.2.1, (x.2.2.2.2.1, ()))))), x.2.2.2.2.2)
abbrev wy111x0 : Ways := ⟨[(0, [.slot 0 (.pc (.sl T1)), .slot 1 (.pc (.sl T0)), .slot 3 (.pc (.sl T0)), .slot 6 (.ptr 6), .box 6 [.pc tI, .pc tI], .slot 10 (.pc tI), .slot 11 (.pc tI)])], [], []⟩
abbrev wv111x0 : Ways := ⟨[(0, [.slot 10 (.pc tI), .slot 11 (.pc tI)])], [], []⟩
def je111x0 : (id : Nat) → (patsTy cs111x0).den → (patsTy (wayP wv111x0 id)).den → (patsTy (wayP wy111x0 id)).den := fun id => match id with | 0 => fun c y => (c.1, (c.2.1, (c.2.2.1, (c.2.2.2.1, (c.2.2.2.2.1, y))))) | id => fun _ _ => (patsTy (wayP wy111x0 id)).dflt
def jr111x0 : (patsTy cs111x0).den → (patsTy (wv111x0).ret).den → (patsTy (wy111x0).ret).den := fun c y => y
def jp111x0 : (patsTy cs111x0).den → (patsTy (wv111x0).pan).den → (patsTy (wy111x0).pan).den := fun c y => y
def Z111x0 (R111 : (a111).den → Option (r111).den) {α : Type} (l : RQ vs111x0 wv111x0 → α) (an : α → α → α) (c : (patsTy cs111x0).den) (v : (patsTy vs111x0).den) : α := bif (decide (v.2.2.1 < ((c.1.n : Nat) : Int))) then bif (decide (((0 : Int) ≤ v.2.2.1) ∧ (v.2.2.1 < ((c.1.n : Nat) : Int)))) then bif (decide (((0 : Int) ≤ v.2.2.1) ∧ (v.2.2.1 < ((c.2.1.n : Nat) : Int)))) then bif (decide (((0 : Int) ≤ v.2.2.1) ∧ (v.2.2.1 < ((c.1.n : Nat) : Int)))) then bif (decide (((0 : Int) ≤ v.2.2.1) ∧ (v.2.2.1 < ((c.2.1.n : Nat) : Int)))) then l (.next ((W (v.1 + (W ((c.1.g (Int.toNat v.2.2.1)).1 * (c.2.1.g (Int.toNat v.2.2.1)).1)))), ((W (v.2.1 + (W ((c.1.g (Int.toNat v.2.2.1)).2.1 * (c.2.1.g (Int.toNat v.2.2.1)).1)))), ((W (v.2.2.1 + (1 : Int))), ())))) else l .bad else l .bad else l .bad else l .bad else l (.out (.exit 0 (v.1, (v.2.1, ()))))
theorem z111x0 (R111 : (a111).den → Option (r111).den) (c : (patsTy cs111x0).den) (v : (patsTy vs111x0).den) : roundQ Try.prog E0 (G111 R111) 0 100 [] ps111x0 wy111x0 b111x0 [] (j111x0 c v) = Z111x0 R111 (fun r => .leaf (r.lift j111x0 je111x0 jr111x0 jp111x0 c)) .any c v := by kernel_rfl
def S111x0 (R111 : (a111).den → Option (r111).den) (c : (patsTy cs111x0).den) (v : (patsTy vs111x0).den) : RQ vs111x0 wv111x0 := Z111x0 R111 (fun r => r) (fun _ _ => .bad) c v
theorem s111x0 (R111 : (a111).den → Option (r111).den) (c : (patsTy cs111x0).den) (v : (patsTy vs111x0).den) : detQ (roundQ Try.prog E0 (G111 R111) 0 100 [] ps111x0 wy111x0 b111x0 [] (j111x0 c v)) = (S111x0 R111 c v).lift j111x0 je111x0 jr111x0 jp111x0 c := by rw [z111x0]; unfold S111x0 Z111x0; simp only [detQ_cond, lift_cond, lift_bad, detQ, detQ_cl, detQ_onExit, detQ_onRet, detQ_onPanL, detQ_onNext, detQ_onBrk, detQ_onRetO, detQ_onPan, detQ_onOk, detQ_onGPan, lift_cl, lift_onExit, lift_onRet, lift_onPanL, lift_onNext, lift_onBrk, lift_onRetO, lift_onPan, lift_onOk, lift_onGPan]
def L111x0 (R111 : (a111).den → Option (r111).den) (c : (patsTy cs111x0).den) (v : (patsTy vs111x0).den) : LQ wv111x0 := iterQ (S111x0 R111 c) big v
noncomputable def b111x1 : Code := loopBody ((loopsOf (c111))[1]?)
theorem lo111x1 : loopsOf (b111x1) = [] := by kernel_rfl
abbrev cs111x1 : List Pat := [.slot 0 (.pc (.sl T1)), .slot 1 (.pc (.sl T0)), .slot 3 (.pc (.sl T0)), .slot 6 (.ptr 6), .slot 13 (.pc tI), .box 6 [.pc tI, .pc tI]]
abbrev vs111x1 : List Pat := [.slot 14 (.pc tI)]
abbrev ps111x1 : List Pat := [.slot 0 (.pc (.sl T1)), .slot 1 (.pc (.sl T0)), .slot 3 (.pc (.sl T0)), .slot 6 (.ptr 6), .slot 13 (.pc tI), .box 6 [.pc tI, .pc tI], .slot 14 (.pc tI)]
def j111x1 : (patsTy cs111x1).den → (patsTy vs111x1).den → (patsTy ps111x1).den := fun c v => (c.1, (c.2.1, (c.2.2.1, (c.2.2.2.1, (c.2.2.2.2.1, (c.2.2.2.2.2.1, v))))))
def sp111x1 : (patsTy ps111x1).den → (patsTy cs111x1).den × (patsTy vs111x1).den := fun x => ((x.1, (x.2.1, (x.2.2.1, (x.2.2.2.1, (x.2.2.2.2.1, (x.2.2.2.2.2.1, ())))))), x.2.2.2.2.2.2)
abbrev wy111x1 : Ways := ⟨[(2, [])], [.slot 8 (.pc (.sl T0)), .slot 9 (.pc .bool)], []⟩
abbrev wv111x1 : Ways := ⟨[(2, [])], [.slot 8 (.pc (.sl T0)), .slot 9 (.pc .bool)], []⟩
def je111x1 : (id : Nat) → (patsTy cs111x1).den → (patsTy (wayP wv111x1 id)).den → (patsTy (wayP wy111x1 id)).den := fun id => match id with | 2 => fun c y => y | id => fun _ _ => (patsTy (wayP wy111x1 id)).dflt
def jr111x1 : (patsTy cs111x1).den → (patsTy (wv111x1).ret).den → (patsTy (wy111x1).ret).den := fun c y => y
def jp111x1 : (patsTy cs111x1).den → (patsTy (wv111x1).pan).den → (patsTy (wy111x1).pan).den := fun c y => y
def Z111x1 (R111 : (a111).den → Option (r111).den) {α : Type} (l : RQ vs111x1 wv111x1 → α) (an : α → α → α) (c : (patsTy cs111x1).den) (v : (patsTy vs111x1).den) : α := bif (decide (((0 : Int) ≤ c.2.2.2.2.1) ∧ (c.2.2.2.2.1 < ((c.1.n : Nat) : Int)))) then bif (decide (v.1 ≤ (c.1.g (Int.toNat c.2.2.2.2.1)).2.1)) then bif (decide ((c.2.2.1.n * 8) ≤ 140737488355328)) then bif (decide (((c.2.2.1.n + 1) * 8) ≤ 140737488355328)) then cl (Ty.dflt T79) (R111 (c.1, (c.2.1, (c.2.2.2.2.2.1, ((catSl c.2.2.1 (⟨1, fun i => List.getD [v] i v⟩ : Sl (Ty.den T0))), ()))))) (fun u0 => bif u0.2.1 then l (.out (.ret (u0.1, (true, ())))) else l (.next ((W (v.1 + (1 : Int))), ()))) (l .bad) else l .bad else l .bad else l (.out (.exit 2 ())) else l .bad
theorem z111x1 (R111 : (a111).den → Option (r111).den) (c : (patsTy cs111x1).den) (v : (patsTy vs111x1).den) : roundQ Try.prog E0 (G111 R111) 0 100 [] ps111x1 wy111x1 b111x1 [] (j111x1 c v) = Z111x1 R111 (fun r => .leaf (r.lift j111x1 je111x1 jr111x1 jp111x1 c)) .any c v := by kernel_rfl
def S111x1 (R111 : (a111).den → Option (r111).den) (c : (patsTy cs111x1).den) (v : (patsTy vs111x1).den) : RQ vs111x1 wv111x1 := Z111x1 R111 (fun r => r) (fun _ _ => .bad) c v
theorem s111x1 (R111 : (a111).den → Option (r111).den) (c : (patsTy cs111x1).den) (v : (patsTy vs111x1).den) : detQ (roundQ Try.prog E0 (G111 R111) 0 100 [] ps111x1 wy111x1 b111x1 [] (j111x1 c v)) = (S111x1 R111 c v).lift j111x1 je111x1 jr111x1 jp111x1 c := by rw [z111x1]; unfold S111x1 Z111x1; simp only [detQ_cond, lift_cond, lift_bad, detQ, detQ_cl, detQ_onExit, detQ_onRet, detQ_onPanL, detQ_onNext, detQ_onBrk, detQ_onRetO, detQ_onPan, detQ_onOk, detQ_onGPan, lift_cl, lift_onExit, lift_onRet, lift_onPanL, lift_onNext, lift_onBrk, lift_onRetO, lift_onPan, lift_onOk, lift_onGPan]
def L111x1 (R111 : (a111).den → Option (r111).den) (c : (patsTy cs111x1).den) (v : (patsTy vs111x1).den) : LQ wv111x1 := iterQ (S111x1 R111 c) big v
theorem lo111 : loopsOf (c111) = [.loop b111x0, .loop b111x1] := by kernel_rfl
noncomputable def l111 : ((a111).den → Option (r111).den) → List Loop := fun R111 => [.known (loopZ 0 [] ps111x0 fun x => spreadV wy111x0 je111x0 jr111x0 jp111x0 [] false (sp111x0 x).1 (L111x0 R111 (sp111x0 x).1 (sp111x0 x).2) wy111x0.exits), .known (loopZ 0 [] ps111x1 fun x => spreadV wy111x1 je111x1 jr111x1 jp111x1 [] true (sp111x1 x).1 (L111x1 R111 (sp111x1 x).1 (sp111x1 x).2) wy111x1.exits)]
def Q111 (R111 : (a111).den → Option (r111).den) {α : Type} (l : Option (r111).den → α) (an : α → α → α) (x : (a111).den) : α := cl (r100).dflt (M100 (x.2.2.2.1, (x.2.1, ()))) (fun u1 => cl (r100).dflt (M100 (x.2.2.2.1, (x.2.1, ()))) (fun u2 => onExit (L111x0 R111 (x.1, (x.2.1, (x.2.2.2.1, ((), (x.2.2.1, ()))))) (u1.1, (u1.1, (((x.2.2.2.1.n : Nat) : Int), ())))) 0 (fun u3 => bif (decide (u3.2.1 < x.2.2.1.1)) then l (some ((⟨0, fun i => ((0 : Int), ())⟩ : Sl _), (false, ()))) else bif (decide (x.2.2.1.2.1 < u3.1)) then l (some ((⟨0, fun i => ((0 : Int), ())⟩ : Sl _), (false, ()))) else bif (decide (((x.2.2.2.1.n : Nat) : Int) = ((x.1.n : Nat) : Int))) then l (some (x.2.2.2.1, (true, ()))) else bif (decide (((0 : Int) ≤ ((x.2.2.2.1.n : Nat) : Int)) ∧ (((x.2.2.2.1.n : Nat) : Int) < ((x.1.n : Nat) : Int)))) then onExit (L111x1 R111 (x.1, (x.2.1, (x.2.2.2.1, ((), (((x.2.2.2.1.n : Nat) : Int), (x.2.2.1, ())))))) ((x.1.g (Int.toNat ((x.2.2.2.1.n : Nat) : Int))).1, ())) 2 (fun u4 => l (some ((⟨0, fun i => ((0 : Int), ())⟩ : Sl _), (false, ())))) (onRet (L111x1 R111 (x.1, (x.2.1, (x.2.2.2.1, ((), (((x.2.2.2.1.n : Nat) : Int), (x.2.2.1, ())))))) ((x.1.g (Int.toNat ((x.2.2.2.1.n : Nat) : Int))).1, ())) (fun u5 => l (some u5)) (l none)) else l none) (l none)) (l none)) (l none)
theorem q111 (R111 : (a111).den → Option (r111).den) (x : (a111).den) : runFn Try.prog E0 (G111 R111) Try.f111 (l111 R111) a111 r111 x = Q111 R111 .leaf .any x := by kernel_rfl
def U111 (R111 : (a111).den → Option (r111).den) (x : (a111).den) : Option (r111).den := Q111 R111 (fun r => r) (fun _ _ => none) x
theorem m111 (R111 : (a111).den → Option (r111).den) (x : (a111).den) : (runFn Try.prog E0 (G111 R111) Try.f111 (l111 R111) a111 r111 x).sure = U111 R111 x := by rw [q111]; unfold U111 Q111; simp only [sure_cond, Tree.sure, sure_cl, sure_onExit, sure_onRet, sure_onPanL, sure_onNext, sure_onBrk, sure_onRetO, sure_onPan, sure_onOk, sure_onGPan]
theorem hr111 (R111 : (a111).den → Option (r111).den) (hR : Holds Try.prog 111 (conM R111)) : Holds Try.prog 111 (conM (U111 R111)) := holds_of_M' (E := E0) follows_ok (g111 R111 hR) eqTy_sound keyTy_sound at111 bd111 (by kernel_rfl) (m111 R111) fun G' hlo hF hE => LsOK_kn (by rw [lo111]; exact .cons (loopV_ok hE hF hlo (LsOK_kn (by rw [lo111x0]; exact .nil)) (by kernel_rfl) (by kernel_rfl) sp111x0 (fun _ => rfl) (fun _ _ => rfl) (s111x0 R111) big) (.cons (loopV_ok hE hF hlo (LsOK_kn (by rw [lo111x1]; exact .nil)) (by kernel_rfl) (by kernel_rfl) sp111x1 (fun _ => rfl) (fun _ _ => rfl) (s111x1 R111) big) (.nil)))
def F111 : Nat → (a111).den → Option (r111).den
  | 0 => fun _ => none
  | n + 1 => U111 (F111 n)
theorem hf111 : ∀ n, Holds Try.prog 111 (conM (F111 n))
  | 0 => conM_none
  | n + 1 => hr111 _ (hf111 n)
def M111 (x : (a111).den) : Option (r111).den := F111 6 x
def p111 (x : (a111).den) : Bool := (M111 x).isSome
def v111 (x : (a111).den) : (r111).den := (M111 x).getD (r111).dflt
def k111 : Con := ⟨a111, r111, p111, v111⟩
theorem h111 : Holds Try.prog 111 k111 := hf111 6
/-- isobar/isobarref07.wider -/
noncomputable def c83 : Code := Try.f83.body.getD .skip
theorem at83 : Try.prog.funcs[83]? = some Try.f83 := by kernel_rfl
theorem bd83 : Try.f83.body = some c83 := by kernel_rfl
theorem cl83 : Callable Try.prog 83 := callable_of at83 (by kernel_rfl) (by kernel_rfl)
abbrev T124 : Ty := (.cons T4 T97)
abbrev a83 : Ty := T124
abbrev r83 : Ty := T6
noncomputable def G83 : Ctx := Ctx.of []
theorem g83 : Sound Try.prog (G83) := sound_of (fun _ h => by cases h)
theorem lo83 : loopsOf (c83) = [] := by kernel_rfl
noncomputable def l83 : List Loop := []
def Q83 {α : Type} (l : Option (r83).den → α) (an : α → α → α) (x : (a83).den) : α := bif x.2.2.1 then l (some ((x.2.1, (x.2.1, ())), ())) else l (some (((mn x.1.1 x.2.1), ((mx x.1.2.1 x.2.1), ())), ()))
theorem q83 (x : (a83).den) : runFn Try.prog E0 G83 Try.f83 l83 a83 r83 x = Q83 .leaf .any x := by kernel_rfl
def M83 (x : (a83).den) : Option (r83).den := Q83 (fun r => r) (fun _ _ => none) x
theorem m83 (x : (a83).den) : (runFn Try.prog E0 G83 Try.f83 l83 a83 r83 x).sure = M83 x := by rw [q83]; unfold M83 Q83; simp only [sure_cond, Tree.sure, sure_cl, sure_onExit, sure_onRet, sure_onPanL, sure_onNext, sure_onBrk, sure_onRetO, sure_onPan, sure_onOk, sure_onGPan]
def p83 (x : (a83).den) : Bool := (M83 x).isSome
def v83 (x : (a83).den) : (r83).den := (M83 x).getD (r83).dflt
def k83 : Con := ⟨a83, r83, p83, v83⟩
theorem h83 : Holds Try.prog 83 k83 := holds_of_M' (E := E0) follows_ok g83 eqTy_sound keyTy_sound at83 bd83 (by kernel_rfl) m83 fun G' hlo hF hE => LsOK_kn (by rw [lo83]; exact .nil)
/-- isobar/isobarref07.search -/
noncomputable def c85 : Code := Try.f85.body.getD .skip
theorem at85 : Try.prog.funcs[85]? = some Try.f85 := by kernel_rfl
theorem bd85 : Try.f85.body = some c85 := by kernel_rfl
theorem cl85 : Callable Try.prog 85 := callable_of at85 (by kernel_rfl) (by kernel_rfl)
abbrev T125 : Ty := (.cons T42 T53)
abbrev a85 : Ty := T125
abbrev r85 : Ty := T83
noncomputable def G85 : Ctx := Ctx.of [(75, .pure k75), (99, .pure k99), (101, .pure k101), (111, .pure k111)]
theorem g85 : Sound Try.prog (G85) := sound_of (List.forall_mem_cons.2 ⟨⟨cl75, h75⟩, List.forall_mem_cons.2 ⟨⟨cl99, h99⟩, List.forall_mem_cons.2 ⟨⟨cl101, h101⟩, List.forall_mem_cons.2 ⟨⟨cl111, h111⟩, fun _ h => by cases h⟩⟩⟩⟩)
noncomputable def b85x0 : Code := loopBody ((loopsOf (c85))[0]?)
noncomputable def b85x0x0 : Code := loopBody ((loopsOf (b85x0))[0]?)
noncomputable def b85x0x0x0 : Code := loopBody ((loopsOf (b85x0x0))[0]?)
theorem lo85x0x0x0 : loopsOf (b85x0x0x0) = [] := by kernel_rfl
abbrev cs85x0x0x0 : List Pat := [.slot 1 (.pc (.sl T1)), .slot 2 (.pc (.sl T1)), .slot 3 (.ptr 3), .slot 6 (.ptr 6), .slot 8 (.pc tI), .slot 9 (.pc tI), .box 3 [.pc (.sl T9), .pc tI, .pc tI, .pc tI, .pc tI, .pc tI, .pc tI, .pc tI, .pc tI, .pc tI, .pc tI, .pc tI, .pc tI], .box 6 [.pc tI, .pc tI, .pc tI, .own 1007003 3 T0, .own 1007004 3 T0]]
abbrev vs85x0x0x0 : List Pat := [.slot 10 (.pc tI)]
abbrev ps85x0x0x0 : List Pat := [.slot 1 (.pc (.sl T1)), .slot 2 (.pc (.sl T1)), .slot 3 (.ptr 3), .slot 6 (.ptr 6), .slot 8 (.pc tI), .slot 9 (.pc tI), .box 3 [.pc (.sl T9), .pc tI, .pc tI, .pc tI, .pc tI, .pc tI, .pc tI, .pc tI, .pc tI, .pc tI, .pc tI, .pc tI, .pc tI], .box 6 [.pc tI, .pc tI, .pc tI, .own 1007003 3 T0, .own 1007004 3 T0], .slot 10 (.pc tI)]
def j85x0x0x0 : (patsTy cs85x0x0x0).den → (patsTy vs85x0x0x0).den → (patsTy ps85x0x0x0).den := fun c v => (c.1, (c.2.1, (c.2.2.1, (c.2.2.2.1, (c.2.2.2.2.1, (c.2.2.2.2.2.1, (c.2.2.2.2.2.2.1, (c.2.2.2.2.2.2.2.1, v))))))))
def sp85x0x0x0 : (patsTy ps85x0x0x0).den → (patsTy cs85x0x0x0).den × (patsTy vs85x0x0x0).den := fun x => ((x.1, (x.2.1, (x.2.2.1, (x.2.2.2.1, (x.2.2.2.2.1, (x.2.2.2.2.2.1, (x.2.2.2.2.2.2.1, (x.2.2.2.2.2.2.2.1, ())))))))), x.2.2.2.2.2.2.2.2)
abbrev wy85x0x0x0 : Ways := ⟨[(4, [.slot 1 (.pc (.sl T1)), .slot 2 (.pc (.sl T1)), .slot 3 (.ptr 3), .slot 6 (.ptr 6), .slot 8 (.pc tI), .slot 9 (.pc tI), .box 3 [.pc (.sl T9), .pc tI, .pc tI, .pc tI, .pc tI, .pc tI, .pc tI, .pc tI, .pc tI, .pc tI, .pc tI, .pc tI, .pc tI], .box 6 [.pc tI, .pc tI, .pc tI, .own 1007003 3 T0, .own 1007004 3 T0]])], [.slot 6 (.ptr 6), .slot 7 (.pc .bool), .box 6 [.pc tI, .pc tI, .pc tI, .pc (.sl T0), .pc (.sl T0)]], []⟩
abbrev wv85x0x0x0 : Ways := ⟨[(4, [])], [.slot 7 (.pc .bool), .box 6 [.pc tI, .pc tI, .pc tI, .pc (.sl T0), .pc (.sl T0)]], []⟩
def je85x0x0x0 : (id : Nat) → (patsTy cs85x0x0x0).den → (patsTy (wayP wv85x0x0x0 id)).den → (patsTy (wayP wy85x0x0x0 id)).den := fun id => match id with | 4 => fun c y => (c.1, (c.2.1, (c.2.2.1, (c.2.2.2.1, (c.2.2.2.2.1, (c.2.2.2.2.2.1, (c.2.2.2.2.2.2.1, (c.2.2.2.2.2.2.2.1, y)))))))) | id => fun _ _ => (patsTy (wayP wy85x0x0x0 id)).dflt
def jr85x0x0x0 : (patsTy cs85x0x0x0).den → (patsTy (wv85x0x0x0).ret).den → (patsTy (wy85x0x0x0).ret).den := fun c y => (c.2.2.2.1, y)
def jp85x0x0x0 : (patsTy cs85x0x0x0).den → (patsTy (wv85x0x0x0).pan).den → (patsTy (wy85x0x0x0).pan).den := fun c y => y
def Z85x0x0x0 {α : Type} (l : RQ vs85x0x0x0 wv85x0x0x0 → α) (an : α → α → α) (c : (patsTy cs85x0x0x0).den) (v : (patsTy vs85x0x0x0).den) : α := bif (decide (v.1 ≤ c.2.2.2.2.2.2.1.2.2.2.2.2.2.1)) then cl (r99).dflt (M99 (c.2.2.2.2.2.2.1, (c.2.2.2.2.1, (c.2.2.2.2.2.1, v)))) (fun u0 => cl (r101).dflt (M101 u0) (fun u1 => cl (r75).dflt (M75 (u1.1, c.2.2.2.2.2.2.1.2.2.2.2.2.2.2.2.2.2.2)) (fun u2 => bif (!u2.1) then l (.next ((W (v.1 + (1 : Int))), ())) else cl (r111).dflt (M111 (c.1, (u0.1, ((c.2.2.2.2.2.2.1.2.2.2.2.2.2.2.1, (c.2.2.2.2.2.2.1.2.2.2.2.2.2.2.2.1, ())), ((⟨0, fun i => ((0 : Int), ())⟩ : Sl _), ()))))) (fun u3 => cl (r111).dflt (M111 (c.2.1, (u0.1, ((c.2.2.2.2.2.2.1.2.2.2.2.2.2.2.2.2.1, (c.2.2.2.2.2.2.1.2.2.2.2.2.2.2.2.2.2.1, ())), ((⟨0, fun i => ((0 : Int), ())⟩ : Sl _), ()))))) (fun u4 => bif u3.2.1 then bif u4.2.1 then l (.out (.ret (true, ((c.2.2.2.2.1, (c.2.2.2.2.2.1, (v.1, (u3.1, (u4.1, ()))))), ())))) else l (.next ((W (v.1 + (1 : Int))), ())) else l (.next ((W (v.1 + (1 : Int))), ()))) (l .bad)) (l .bad)) (l .bad)) (l .bad)) (l .bad) else l (.out (.exit 4 ()))
theorem z85x0x0x0 (c : (patsTy cs85x0x0x0).den) (v : (patsTy vs85x0x0x0).den) : roundQ Try.prog E0 G85 0 88 [] ps85x0x0x0 wy85x0x0x0 b85x0x0x0 [] (j85x0x0x0 c v) = Z85x0x0x0 (fun r => .leaf (r.lift j85x0x0x0 je85x0x0x0 jr85x0x0x0 jp85x0x0x0 c)) .any c v := by kernel_rfl
def S85x0x0x0 (c : (patsTy cs85x0x0x0).den) (v : (patsTy vs85x0x0x0).den) : RQ vs85x0x0x0 wv85x0x0x0 := Z85x0x0x0 (fun r => r) (fun _ _ => .bad) c v
theorem s85x0x0x0 (c : (patsTy cs85x0x0x0).den) (v : (patsTy vs85x0x0x0).den) : detQ (roundQ Try.prog E0 G85 0 88 [] ps85x0x0x0 wy85x0x0x0 b85x0x0x0 [] (j85x0x0x0 c v)) = (S85x0x0x0 c v).lift j85x0x0x0 je85x0x0x0 jr85x0x0x0 jp85x0x0x0 c := by rw [z85x0x0x0]; unfold S85x0x0x0 Z85x0x0x0; simp only [detQ_cond, lift_cond, lift_bad, detQ, detQ_cl, detQ_onExit, detQ_onRet, detQ_onPanL, detQ_onNext, detQ_onBrk, detQ_onRetO, detQ_onPan, detQ_onOk, detQ_onGPan, lift_cl, lift_onExit, lift_onRet, lift_onPanL, lift_onNext, lift_onBrk, lift_onRetO, lift_onPan, lift_onOk, lift_onGPan]
def L85x0x0x0 (c : (patsTy cs85x0x0x0).den) (v : (patsTy vs85x0x0x0).den) : LQ wv85x0x0x0 := iterQ (S85x0x0x0 c) big v
theorem lo85x0x0 : loopsOf (b85x0x0) = [.loop b85x0x0x0] := by kernel_rfl
abbrev cs85x0x0 : List Pat := [.slot 1 (.pc (.sl T1)), .slot 2 (.pc (.sl T1)), .slot 3 (.ptr 3), .slot 6 (.ptr 6), .slot 8 (.pc tI), .box 3 [.pc (.sl T9), .pc tI, .pc tI, .pc tI, .pc tI, .pc tI, .pc tI, .pc tI, .pc tI, .pc tI, .pc tI, .pc tI, .pc tI], .box 6 [.pc tI, .pc tI, .pc tI, .own 1007003 3 T0, .own 1007004 3 T0]]
abbrev vs85x0x0 : List Pat := [.slot 9 (.pc tI)]
abbrev ps85x0x0 : List Pat := [.slot 1 (.pc (.sl T1)), .slot 2 (.pc (.sl T1)), .slot 3 (.ptr 3), .slot 6 (.ptr 6), .slot 8 (.pc tI), .box 3 [.pc (.sl T9), .pc tI, .pc tI, .pc tI, .pc tI, .pc tI, .pc tI, .pc tI, .pc tI, .pc tI, .pc tI, .pc tI, .pc tI], .box 6 [.pc tI, .pc tI, .pc tI, .own 1007003 3 T0, .own 1007004 3 T0], .slot 9 (.pc tI)]
def j85x0x0 : (patsTy cs85x0x0).den → (patsTy vs85x0x0).den → (patsTy ps85x0x0).den := fun c v => (c.1, (c.2.1, (c.2.2.1, (c.2.2.2.1, (c.2.2.2.2.1, (c.2.2.2.2.2.1, (c.2.2.2.2.2.2.1, v)))))))
def sp85x0x0 : (patsTy ps85x0x0).den → (patsTy cs85x0x0).den × (patsTy vs85x0x0).den := fun x => ((x.1, (x.2.1, (x.2.2.1, (x.2.2.2.1, (x.2.2.2.2.1, (x.2.2.2.2.2.1, (x.2.2.2.2.2.2.1, ()))))))), x.2.2.2.2.2.2.2)
abbrev wy85x0x0 : Ways := ⟨[(2, [.slot 1 (.pc (.sl T1)), .slot 2 (.pc (.sl T1)), .slot 3 (.ptr 3), .slot 6 (.ptr 6), .slot 8 (.pc tI), .box 3 [.pc (.sl T9), .pc tI, .pc tI, .pc tI, .pc tI, .pc tI, .pc tI, .pc tI, .pc tI, .pc tI, .pc tI, .pc tI, .pc tI], .box 6 [.pc tI, .pc tI, .pc tI, .own 1007003 3 T0, .own 1007004 3 T0]])], [.slot 6 (.ptr 6), .slot 7 (.pc .bool), .box 6 [.pc tI, .pc tI, .pc tI, .pc (.sl T0), .pc (.sl T0)]], []⟩
abbrev wv85x0x0 : Ways := ⟨[(2, [])], [.slot 7 (.pc .bool), .box 6 [.pc tI, .pc tI, .pc tI, .pc (.sl T0), .pc (.sl T0)]], []⟩
def je85x0x0 : (id : Nat) → (patsTy cs85x0x0).den → (patsTy (wayP wv85x0x0 id)).den → (patsTy (wayP wy85x0x0 id)).den := fun id => match id with | 2 => fun c y => (c.1, (c.2.1, (c.2.2.1, (c.2.2.2.1, (c.2.2.2.2.1, (c.2.2.2.2.2.1, (c.2.2.2.2.2.2.1, y))))))) | id => fun _ _ => (patsTy (wayP wy85x0x0 id)).dflt
def jr85x0x0 : (patsTy cs85x0x0).den → (patsTy (wv85x0x0).ret).den → (patsTy (wy85x0x0).ret).den := fun c y => (c.2.2.2.1, y)
def jp85x0x0 : (patsTy cs85x0x0).den → (patsTy (wv85x0x0).pan).den → (patsTy (wy85x0x0).pan).den := fun c y => y
def Z85x0x0 {α : Type} (l : RQ vs85x0x0 wv85x0x0 → α) (an : α → α → α) (c : (patsTy cs85x0x0).den) (v : (patsTy vs85x0x0).den) : α := bif (decide (v.1 ≤ c.2.2.2.2.2.1.2.2.2.2.1)) then onExit (L85x0x0x0 (c.1, (c.2.1, ((), ((), (c.2.2.2.2.1, (v.1, (c.2.2.2.2.2.1, (c.2.2.2.2.2.2.1, ())))))))) (c.2.2.2.2.2.1.2.2.2.2.2.1, ())) 4 (fun u5 => l (.next ((W (v.1 + (1 : Int))), ()))) (onRet (L85x0x0x0 (c.1, (c.2.1, ((), ((), (c.2.2.2.2.1, (v.1, (c.2.2.2.2.2.1, (c.2.2.2.2.2.2.1, ())))))))) (c.2.2.2.2.2.1.2.2.2.2.2.1, ())) (fun u6 => l (.out (.ret (u6.1, (u6.2.1, ()))))) (l .bad)) else l (.out (.exit 2 ()))
theorem z85x0x0 (c : (patsTy cs85x0x0).den) (v : (patsTy vs85x0x0).den) : roundQ Try.prog E0 G85 0 88 [] ps85x0x0 wy85x0x0 b85x0x0 [.known (loopZ 0 [] ps85x0x0x0 fun x => spreadV wy85x0x0x0 je85x0x0x0 jr85x0x0x0 jp85x0x0x0 [] true (sp85x0x0x0 x).1 (L85x0x0x0 (sp85x0x0x0 x).1 (sp85x0x0x0 x).2) wy85x0x0x0.exits)] (j85x0x0 c v) = Z85x0x0 (fun r => .leaf (r.lift j85x0x0 je85x0x0 jr85x0x0 jp85x0x0 c)) .any c v := by kernel_rfl
def S85x0x0 (c : (patsTy cs85x0x0).den) (v : (patsTy vs85x0x0).den) : RQ vs85x0x0 wv85x0x0 := Z85x0x0 (fun r => r) (fun _ _ => .bad) c v
theorem s85x0x0 (c : (patsTy cs85x0x0).den) (v : (patsTy vs85x0x0).den) : detQ (roundQ Try.prog E0 G85 0 88 [] ps85x0x0 wy85x0x0 b85x0x0 [.known (loopZ 0 [] ps85x0x0x0 fun x => spreadV wy85x0x0x0 je85x0x0x0 jr85x0x0x0 jp85x0x0x0 [] true (sp85x0x0x0 x).1 (L85x0x0x0 (sp85x0x0x0 x).1 (sp85x0x0x0 x).2) wy85x0x0x0.exits)] (j85x0x0 c v)) = (S85x0x0 c v).lift j85x0x0 je85x0x0 jr85x0x0 jp85x0x0 c := by rw [z85x0x0]; unfold S85x0x0 Z85x0x0; simp only [detQ_cond, lift_cond, lift_bad, detQ, detQ_cl, detQ_onExit, detQ_onRet, detQ_onPanL, detQ_onNext, detQ_onBrk, detQ_onRetO, detQ_onPan, detQ_onOk, detQ_onGPan, lift_cl, lift_onExit, lift_onRet, lift_onPanL, lift_onNext, lift_onBrk, lift_onRetO, lift_onPan, lift_onOk, lift_onGPan]
def L85x0x0 (c : (patsTy cs85x0x0).den) (v : (patsTy vs85x0x0).den) : LQ wv85x0x0 := iterQ (S85x0x0 c) big v
theorem lo85x0 : loopsOf (b85x0) = [.loop b85x0x0] := by kernel_rfl
abbrev cs85x0 : List Pat := [.slot 1 (.pc (.sl T1)), .slot 2 (.pc (.sl T1)), .slot 3 (.ptr 3), .slot 6 (.ptr 6), .box 3 [.pc (.sl T9), .pc tI, .pc tI, .pc tI, .pc tI, .pc tI, .pc tI, .pc tI, .pc tI, .pc tI, .pc tI, .pc tI, .pc tI], .box 6 [.pc tI, .pc tI, .pc tI, .own 1007003 3 T0, .own 1007004 3 T0]]
abbrev vs85x0 : List Pat := [.slot 8 (.pc tI)]
abbrev ps85x0 : List Pat := [.slot 1 (.pc (.sl T1)), .slot 2 (.pc (.sl T1)), .slot 3 (.ptr 3), .slot 6 (.ptr 6), .box 3 [.pc (.sl T9), .pc tI, .pc tI, .pc tI, .pc tI, .pc tI, .pc tI, .pc tI, .pc tI, .pc tI, .pc tI, .pc tI, .pc tI], .box 6 [.pc tI, .pc tI, .pc tI, .own 1007003 3 T0, .own 1007004 3 T0], .slot 8 (.pc tI)]
def j85x0 : (patsTy cs85x0).den → (patsTy vs85x0).den → (patsTy ps85x0).den := fun c v => (c.1, (c.2.1, (c.2.2.1, (c.2.2.2.1, (c.2.2.2.2.1, (c.2.2.2.2.2.1, v))))))
def sp85x0 : (patsTy ps85x0).den → (patsTy cs85x0).den × (patsTy vs85x0).den := fun x => ((x.1, (x.2.1, (x.2.2.1, (x.2.2.2.1, (x.2.2.2.2.1, (x.2.2.2.2.2.1, ())))))), x.2.2.2.2.2.2)
abbrev wy85x0 : Ways := ⟨[(0, [.slot 6 (.ptr 6), .box 6 [.pc tI, .pc tI, .pc tI, .own 1007003 3 T0, .own 1007004 3 T0]])], [.slot 6 (.ptr 6), .slot 7 (.pc .bool), .box 6 [.pc tI, .pc tI, .pc tI, .pc (.sl T0), .pc (.sl T0)]], []⟩
abbrev wv85x0 : Ways := ⟨[(0, [])], [.slot 7 (.pc .bool), .box 6 [.pc tI, .pc tI, .pc tI, .pc (.sl T0), .pc (.sl T0)]], []⟩
def je85x0 : (id : Nat) → (patsTy cs85x0).den → (patsTy (wayP wv85x0 id)).den → (patsTy (wayP wy85x0 id)).den := fun id => match id with | 0 => fun c y => (c.2.2.2.1, (c.2.2.2.2.2.1, y)) | id => fun _ _ => (patsTy (wayP wy85x0 id)).dflt
def jr85x0 : (patsTy cs85x0).den → (patsTy (wv85x0).ret).den → (patsTy (wy85x0).ret).den := fun c y => (c.2.2.2.1, y)
def jp85x0 : (patsTy cs85x0).den → (patsTy (wv85x0).pan).den → (patsTy (wy85x0).pan).den := fun c y => y
def Z85x0 {α : Type} (l : RQ vs85x0 wv85x0 → α) (an : α → α → α) (c : (patsTy cs85x0).den) (v : (patsTy vs85x0).den) : α := bif (decide (v.1 ≤ c.2.2.2.2.1.2.2.1)) then onExit (L85x0x0 (c.1, (c.2.1, ((), ((), (v.1, (c.2.2.2.2.1, (c.2.2.2.2.2.1, ()))))))) (c.2.2.2.2.1.2.2.2.1, ())) 2 (fun u7 => l (.next ((W (v.1 + (1 : Int))), ()))) (onRet (L85x0x0 (c.1, (c.2.1, ((), ((), (v.1, (c.2.2.2.2.1, (c.2.2.2.2.2.1, ()))))))) (c.2.2.2.2.1.2.2.2.1, ())) (fun u8 => l (.out (.ret (u8.1, (u8.2.1, ()))))) (l .bad)) else l (.out (.exit 0 ()))
theorem z85x0 (c : (patsTy cs85x0).den) (v : (patsTy vs85x0).den) : roundQ Try.prog E0 G85 0 88 [] ps85x0 wy85x0 b85x0 [.known (loopZ 0 [] ps85x0x0 fun x => spreadV wy85x0x0 je85x0x0 jr85x0x0 jp85x0x0 [] true (sp85x0x0 x).1 (L85x0x0 (sp85x0x0 x).1 (sp85x0x0 x).2) wy85x0x0.exits)] (j85x0 c v) = Z85x0 (fun r => .leaf (r.lift j85x0 je85x0 jr85x0 jp85x0 c)) .any c v := by kernel_rfl
def S85x0 (c : (patsTy cs85x0).den) (v : (patsTy vs85x0).den) : RQ vs85x0 wv85x0 := Z85x0 (fun r => r) (fun _ _ => .bad) c v
theorem s85x0 (c : (patsTy cs85x0).den) (v : (patsTy vs85x0).den) : detQ (roundQ Try.prog E0 G85 0 88 [] ps85x0 wy85x0 b85x0 [.known (loopZ 0 [] ps85x0x0 fun x => spreadV wy85x0x0 je85x0x0 jr85x0x0 jp85x0x0 [] true (sp85x0x0 x).1 (L85x0x0 (sp85x0x0 x).1 (sp85x0x0 x).2) wy85x0x0.exits)] (j85x0 c v)) = (S85x0 c v).lift j85x0 je85x0 jr85x0 jp85x0 c := by rw [z85x0]; unfold S85x0 Z85x0; simp only [detQ_cond, lift_cond, lift_bad, detQ, detQ_cl, detQ_onExit, detQ_onRet, detQ_onPanL, detQ_onNext, detQ_onBrk, detQ_onRetO, detQ_onPan, detQ_onOk, detQ_onGPan, lift_cl, lift_onExit, lift_onRet, lift_onPanL, lift_onNext, lift_onBrk, lift_onRetO, lift_onPan, lift_onOk, lift_onGPan]
def L85x0 (c : (patsTy cs85x0).den) (v : (patsTy vs85x0).den) : LQ wv85x0 := iterQ (S85x0 c) big v
theorem lo85 : loopsOf (c85) = [.loop b85x0] := by kernel_rfl
noncomputable def l85 : List Loop := [.known (loopZ 0 [] ps85x0 fun x => spreadV wy85x0 je85x0 jr85x0 jp85x0 [] true (sp85x0 x).1 (L85x0 (sp85x0 x).1 (sp85x0 x).2) wy85x0.exits)]
def Q85 {α : Type} (l : Option (r85).den → α) (an : α → α → α) (x : (a85).den) : α := onExit (L85x0 (x.2.1, (x.2.2.1, ((), ((), (x.1, (((0 : Int), ((0 : Int), ((0 : Int), ((⟨0, fun i => ((0 : Int), ())⟩ : Sl _), ((⟨0, fun i => ((0 : Int), ())⟩ : Sl _), ()))))), ())))))) (x.1.2.1, ())) 0 (fun u9 => l (some (((0 : Int), ((0 : Int), ((0 : Int), ((⟨0, fun i => ((0 : Int), ())⟩ : Sl _), ((⟨0, fun i => ((0 : Int), ())⟩ : Sl _), ()))))), (false, ())))) (onRet (L85x0 (x.2.1, (x.2.2.1, ((), ((), (x.1, (((0 : Int), ((0 : Int), ((0 : Int), ((⟨0, fun i => ((0 : Int), ())⟩ : Sl _), ((⟨0, fun i => ((0 : Int), ())⟩ : Sl _), ()))))), ())))))) (x.1.2.1, ())) (fun u10 => l (some (u10.2.1, (u10.1, ())))) (l none))
theorem q85 (x : (a85).den) : runFn Try.prog E0 G85 Try.f85 l85 a85 r85 x = Q85 .leaf .any x := by kernel_rfl
def M85 (x : (a85).den) : Option (r85).den := Q85 (fun r => r) (fun _ _ => none) x
theorem m85 (x : (a85).den) : (runFn Try.prog E0 G85 Try.f85 l85 a85 r85 x).sure = M85 x := by rw [q85]; unfold M85 Q85; simp only [sure_cond, Tree.sure, sure_cl, sure_onExit, sure_onRet, sure_onPanL, sure_onNext, sure_onBrk, sure_onRetO, sure_onPan, sure_onOk, sure_onGPan]
def p85 (x : (a85).den) : Bool := (M85 x).isSome
def v85 (x : (a85).den) : (r85).den := (M85 x).getD (r85).dflt
def k85 : Con := ⟨a85, r85, p85, v85⟩
theorem h85 : Holds Try.prog 85 k85 := holds_of_M' (E := E0) follows_ok g85 eqTy_sound keyTy_sound at85 bd85 (by kernel_rfl) m85 fun G' hlo hF hE => LsOK_kn (by rw [lo85]; exact .cons (loopV_ok hE hF hlo (LsOK_kn (by rw [lo85x0]; exact .cons (loopV_ok hE hF hlo (LsOK_kn (by rw [lo85x0x0]; exact .cons (loopV_ok hE hF hlo (LsOK_kn (by rw [lo85x0x0x0]; exact .nil)) (by kernel_rfl) (by kernel_rfl) sp85x0x0x0 (fun _ => rfl) (fun _ _ => rfl) (s85x0x0x0) big) (.nil))) (by kernel_rfl) (by kernel_rfl) sp85x0x0 (fun _ => rfl) (fun _ _ => rfl) (s85x0x0) big) (.nil))) (by kernel_rfl) (by kernel_rfl) sp85x0 (fun _ => rfl) (fun _ _ => rfl) (s85x0) big) (.nil))
/-- isobar/isobarref07.First -/
noncomputable def c34 : Code := Try.f34.body.getD .skip
theorem at34 : Try.prog.funcs[34]? = some Try.f34 := by kernel_rfl
theorem bd34 : Try.f34.body = some c34 := by kernel_rfl
theorem cl34 : Callable Try.prog 34 := callable_of at34 (by kernel_rfl) (by kernel_rfl)
abbrev a34 : Ty := T43
abbrev r34 : Ty := T83
noncomputable def G34 : Ctx := Ctx.of [(85, .pure k85), (86, .pure k86)]
theorem g34 : Sound Try.prog (G34) := sound_of (List.forall_mem_cons.2 ⟨⟨cl85, h85⟩, List.forall_mem_cons.2 ⟨⟨cl86, h86⟩, fun _ h => by cases h⟩⟩)
theorem lo34 : loopsOf (c34) = [] := by kernel_rfl
noncomputable def l34 : List Loop := []
def Q34 {α : Type} (l : Option (r34).den → α) (an : α → α → α) (x : (a34).den) : α := cl (r86).dflt (M86 (x.1, (false, ()))) (fun u0 => cl (r86).dflt (M86 (x.1, (true, ()))) (fun u1 => cl (r85).dflt (M85 (x.1, (u0.1, u1))) (fun u2 => l (some (u2.1, u2.2))) (l none)) (l none)) (l none)
theorem q34 (x : (a34).den) : runFn Try.prog E0 G34 Try.f34 l34 a34 r34 x = Q34 .leaf .any x := by kernel_rfl
def M34 (x : (a34).den) : Option (r34).den := Q34 (fun r => r) (fun _ _ => none) x
theorem m34 (x : (a34).den) : (runFn Try.prog E0 G34 Try.f34 l34 a34 r34 x).sure = M34 x := by rw [q34]; unfold M34 Q34; simp only [sure_cond, Tree.sure, sure_cl, sure_onExit, sure_onRet, sure_onPanL, sure_onNext, sure_onBrk, sure_onRetO, sure_onPan, sure_onOk, sure_onGPan]
def p34 (x : (a34).den) : Bool := (M34 x).isSome
def v34 (x : (a34).den) : (r34).den := (M34 x).getD (r34).dflt
def k34 : Con := ⟨a34, r34, p34, v34⟩
theorem h34 : Holds Try.prog 34 k34 := holds_of_M' (E := E0) follows_ok g34 eqTy_sound keyTy_sound at34 bd34 (by kernel_rfl) m34 fun G' hlo hF hE => LsOK_kn (by rw [lo34]; exact .nil)
/-- isobar/isobarref07.Before -/
noncomputable def c61 : Code := Try.f61.body.getD .skip
theorem at61 : Try.prog.funcs[61]? = some Try.f61 := by kernel_rfl
theorem bd61 : Try.f61.body = some c61 := by kernel_rfl
theorem cl61 : Callable Try.prog 61 := callable_of at61 (by kernel_rfl) (by kernel_rfl)
abbrev a61 : Ty := T116
abbrev r61 : Ty := T3
noncomputable def G61 : Ctx := Ctx.of []
theorem g61 : Sound Try.prog (G61) := sound_of (fun _ h => by cases h)
noncomputable def b61x0 : Code := loopBody ((loopsOf (c61))[0]?)
theorem lo61x0 : loopsOf (b61x0) = [] := by kernel_rfl
abbrev cs61x0 : List Pat := [.slot 5 (.pc (.sl T0)), .slot 6 (.pc (.sl T0))]
abbrev vs61x0 : List Pat := [.slot 7 (.pc tI)]
abbrev ps61x0 : List Pat := [.slot 5 (.pc (.sl T0)), .slot 6 (.pc (.sl T0)), .slot 7 (.pc tI)]
def j61x0 : (patsTy cs61x0).den → (patsTy vs61x0).den → (patsTy ps61x0).den := fun c v => (c.1, (c.2.1, v))
def sp61x0 : (patsTy ps61x0).den → (patsTy cs61x0).den × (patsTy vs61x0).den := fun x => ((x.1, (x.2.1, ())), x.2.2)
abbrev wy61x0 : Ways := ⟨[(0, [])], [.slot 4 (.pc .bool)], []⟩
abbrev wv61x0 : Ways := ⟨[(0, [])], [.slot 4 (.pc .bool)], []⟩
def je61x0 : (id : Nat) → (patsTy cs61x0).den → (patsTy (wayP wv61x0 id)).den → (patsTy (wayP wy61x0 id)).den := fun id => match id with | 0 => fun c y => y | id => fun _ _ => (patsTy (wayP wy61x0 id)).dflt
def jr61x0 : (patsTy cs61x0).den → (patsTy (wv61x0).ret).den → (patsTy (wy61x0).ret).den := fun c y => y
def jp61x0 : (patsTy cs61x0).den → (patsTy (wv61x0).pan).den → (patsTy (wy61x0).pan).den := fun c y => y
def Z61x0 {α : Type} (l : RQ vs61x0 wv61x0 → α) (an : α → α → α) (c : (patsTy cs61x0).den) (v : (patsTy vs61x0).den) : α := bif (decide (v.1 < ((c.1.n : Nat) : Int))) then bif (decide (v.1 < ((c.2.1.n : Nat) : Int))) then bif (decide (((0 : Int) ≤ v.1) ∧ (v.1 < ((c.1.n : Nat) : Int)))) then bif (decide (((0 : Int) ≤ v.1) ∧ (v.1 < ((c.2.1.n : Nat) : Int)))) then bif (!(decide ((c.1.g (Int.toNat v.1)).1 = (c.2.1.g (Int.toNat v.1)).1))) then bif (decide (((0 : Int) ≤ v.1) ∧ (v.1 < ((c.1.n : Nat) : Int)))) then bif (decide (((0 : Int) ≤ v.1) ∧ (v.1 < ((c.2.1.n : Nat) : Int)))) then l (.out (.ret ((decide ((c.1.g (Int.toNat v.1)).1 < (c.2.1.g (Int.toNat v.1)).1)), ()))) else l .bad else l .bad else l (.next ((W (v.1 + (1 : Int))), ())) else l .bad else l .bad else l (.out (.exit 0 ())) else l (.out (.exit 0 ()))
theorem z61x0 (c : (patsTy cs61x0).den) (v : (patsTy vs61x0).den) : roundQ Try.prog E0 G61 0 64 [] ps61x0 wy61x0 b61x0 [] (j61x0 c v) = Z61x0 (fun r => .leaf (r.lift j61x0 je61x0 jr61x0 jp61x0 c)) .any c v := by kernel_rfl
def S61x0 (c : (patsTy cs61x0).den) (v : (patsTy vs61x0).den) : RQ vs61x0 wv61x0 := Z61x0 (fun r => r) (fun _ _ => .bad) c v
theorem s61x0 (c : (patsTy cs61x0).den) (v : (patsTy vs61x0).den) : detQ (roundQ Try.prog E0 G61 0 64 [] ps61x0 wy61x0 b61x0 [] (j61x0 c v)) = (S61x0 c v).lift j61x0 je61x0 jr61x0 jp61x0 c := by rw [z61x0]; unfold S61x0 Z61x0; simp only [detQ_cond, lift_cond, lift_bad, detQ, detQ_cl, detQ_onExit, detQ_onRet, detQ_onPanL, detQ_onNext, detQ_onBrk, detQ_onRetO, detQ_onPan, detQ_onOk, detQ_onGPan, lift_cl, lift_onExit, lift_onRet, lift_onPanL, lift_onNext, lift_onBrk, lift_onRetO, lift_onPan, lift_onOk, lift_onGPan]
def L61x0 (c : (patsTy cs61x0).den) (v : (patsTy vs61x0).den) : LQ wv61x0 := iterQ (S61x0 c) big v
theorem lo61 : loopsOf (c61) = [.loop b61x0] := by kernel_rfl
noncomputable def l61 : List Loop := [.known (loopZ 0 [] ps61x0 fun x => spreadV wy61x0 je61x0 jr61x0 jp61x0 [] true (sp61x0 x).1 (L61x0 (sp61x0 x).1 (sp61x0 x).2) wy61x0.exits)]
def Q61 {α : Type} (l : Option (r61).den → α) (an : α → α → α) (x : (a61).den) : α := bif (decide (((3 + x.1.2.2.2.1.n) * 8) ≤ 140737488355328)) then bif (decide ((((catSl (⟨3, fun i => List.getD [(x.1.1, ()), (x.1.2.1, ()), (x.1.2.2.1, ())] i (x.1.1, ())⟩ : Sl (Ty.den T0)) x.1.2.2.2.1).n + x.1.2.2.2.2.1.n) * 8) ≤ 140737488355328)) then bif (decide (((3 + x.2.1.2.2.2.1.n) * 8) ≤ 140737488355328)) then bif (decide ((((catSl (⟨3, fun i => List.getD [(x.2.1.1, ()), (x.2.1.2.1, ()), (x.2.1.2.2.1, ())] i (x.2.1.1, ())⟩ : Sl (Ty.den T0)) x.2.1.2.2.2.1).n + x.2.1.2.2.2.2.1.n) * 8) ≤ 140737488355328)) then onExit (L61x0 ((catSl (catSl (⟨3, fun i => List.getD [(x.1.1, ()), (x.1.2.1, ()), (x.1.2.2.1, ())] i (x.1.1, ())⟩ : Sl (Ty.den T0)) x.1.2.2.2.1) x.1.2.2.2.2.1), ((catSl (catSl (⟨3, fun i => List.getD [(x.2.1.1, ()), (x.2.1.2.1, ()), (x.2.1.2.2.1, ())] i (x.2.1.1, ())⟩ : Sl (Ty.den T0)) x.2.1.2.2.2.1) x.2.1.2.2.2.2.1), ())) ((0 : Int), ())) 0 (fun u0 => l (some (false, ()))) (onRet (L61x0 ((catSl (catSl (⟨3, fun i => List.getD [(x.1.1, ()), (x.1.2.1, ()), (x.1.2.2.1, ())] i (x.1.1, ())⟩ : Sl (Ty.den T0)) x.1.2.2.2.1) x.1.2.2.2.2.1), ((catSl (catSl (⟨3, fun i => List.getD [(x.2.1.1, ()), (x.2.1.2.1, ()), (x.2.1.2.2.1, ())] i (x.2.1.1, ())⟩ : Sl (Ty.den T0)) x.2.1.2.2.2.1) x.2.1.2.2.2.2.1), ())) ((0 : Int), ())) (fun u1 => l (some u1)) (l none)) else l none else l none else l none else l none
theorem q61 (x : (a61).den) : runFn Try.prog E0 G61 Try.f61 l61 a61 r61 x = Q61 .leaf .any x := by kernel_rfl
def M61 (x : (a61).den) : Option (r61).den := Q61 (fun r => r) (fun _ _ => none) x
theorem m61 (x : (a61).den) : (runFn Try.prog E0 G61 Try.f61 l61 a61 r61 x).sure = M61 x := by rw [q61]; unfold M61 Q61; simp only [sure_cond, Tree.sure, sure_cl, sure_onExit, sure_onRet, sure_onPanL, sure_onNext, sure_onBrk, sure_onRetO, sure_onPan, sure_onOk, sure_onGPan]
def p61 (x : (a61).den) : Bool := (M61 x).isSome
def v61 (x : (a61).den) : (r61).den := (M61 x).getD (r61).dflt
def k61 : Con := ⟨a61, r61, p61, v61⟩
theorem h61 : Holds Try.prog 61 k61 := holds_of_M' (E := E0) follows_ok g61 eqTy_sound keyTy_sound at61 bd61 (by kernel_rfl) m61 fun G' hlo hF hE => LsOK_kn (by rw [lo61]; exact .cons (loopV_ok hE hF hlo (LsOK_kn (by rw [lo61x0]; exact .nil)) (by kernel_rfl) (by kernel_rfl) sp61x0 (fun _ => rfl) (fun _ _ => rfl) (s61x0) big) (.nil))
/-- isobar/isobarlaw07.brief -/
noncomputable def c21 : Code := Try.f21.body.getD .skip
theorem at21 : Try.prog.funcs[21]? = some Try.f21 := by kernel_rfl
theorem bd21 : Try.f21.body = some c21 := by kernel_rfl
theorem cl21 : Callable Try.prog 21 := callable_of at21 (by kernel_rfl) (by kernel_rfl)
abbrev a21 : Ty := T40
abbrev r21 : Ty := T3
noncomputable def G21 : Ctx := Ctx.of []
theorem g21 : Sound Try.prog (G21) := sound_of (fun _ h => by cases h)
theorem lo21 : loopsOf (c21) = [] := by kernel_rfl
noncomputable def l21 : List Loop := []
def Q21 {α : Type} (l : Option (r21).den → α) (an : α → α → α) (x : (a21).den) : α := l (some ((decide (((x.1.2.2.1.n : Nat) : Int) ≤ (11 : Int))), ()))
theorem q21 (x : (a21).den) : runFn Try.prog E0 G21 Try.f21 l21 a21 r21 x = Q21 .leaf .any x := by kernel_rfl
def M21 (x : (a21).den) : Option (r21).den := Q21 (fun r => r) (fun _ _ => none) x
theorem m21 (x : (a21).den) : (runFn Try.prog E0 G21 Try.f21 l21 a21 r21 x).sure = M21 x := by rw [q21]; unfold M21 Q21; simp only [sure_cond, Tree.sure, sure_cl, sure_onExit, sure_onRet, sure_onPanL, sure_onNext, sure_onBrk, sure_onRetO, sure_onPan, sure_onOk, sure_onGPan]
def p21 (x : (a21).den) : Bool := (M21 x).isSome
def v21 (x : (a21).den) : (r21).den := (M21 x).getD (r21).dflt
def k21 : Con := ⟨a21, r21, p21, v21⟩
theorem h21 : Holds Try.prog 21 k21 := holds_of_M' (E := E0) follows_ok g21 eqTy_sound keyTy_sound at21 bd21 (by kernel_rfl) m21 fun G' hlo hF hE => LsOK_kn (by rw [lo21]; exact .nil)
/-- isobar/isobarlaw07.short -/
noncomputable def c27 : Code := Try.f27.body.getD .skip
theorem at27 : Try.prog.funcs[27]? = some Try.f27 := by kernel_rfl
theorem bd27 : Try.f27.body = some c27 := by kernel_rfl
theorem cl27 : Callable Try.prog 27 := callable_of at27 (by kernel_rfl) (by kernel_rfl)
abbrev a27 : Ty := T43
abbrev r27 : Ty := T3
noncomputable def G27 : Ctx := Ctx.of []
theorem g27 : Sound Try.prog (G27) := sound_of (fun _ h => by cases h)
theorem lo27 : loopsOf (c27) = [] := by kernel_rfl
noncomputable def l27 : List Loop := []
def Q27 {α : Type} (l : Option (r27).den → α) (an : α → α → α) (x : (a27).den) : α := l (some ((decide (((x.1.1.n : Nat) : Int) ≤ (7 : Int))), ()))
theorem q27 (x : (a27).den) : runFn Try.prog E0 G27 Try.f27 l27 a27 r27 x = Q27 .leaf .any x := by kernel_rfl
def M27 (x : (a27).den) : Option (r27).den := Q27 (fun r => r) (fun _ _ => none) x
theorem m27 (x : (a27).den) : (runFn Try.prog E0 G27 Try.f27 l27 a27 r27 x).sure = M27 x := by rw [q27]; unfold M27 Q27; simp only [sure_cond, Tree.sure, sure_cl, sure_onExit, sure_onRet, sure_onPanL, sure_onNext, sure_onBrk, sure_onRetO, sure_onPan, sure_onOk, sure_onGPan]
def p27 (x : (a27).den) : Bool := (M27 x).isSome
def v27 (x : (a27).den) : (r27).den := (M27 x).getD (r27).dflt
def k27 : Con := ⟨a27, r27, p27, v27⟩
theorem h27 : Holds Try.prog 27 k27 := holds_of_M' (E := E0) follows_ok g27 eqTy_sound keyTy_sound at27 bd27 (by kernel_rfl) m27 fun G' hlo hF hE => LsOK_kn (by rw [lo27]; exact .nil)
/-- isobar/isobarlaw07.sized -/
noncomputable def c56 : Code := Try.f56.body.getD .skip
theorem at56 : Try.prog.funcs[56]? = some Try.f56 := by kernel_rfl
theorem bd56 : Try.f56.body = some c56 := by kernel_rfl
theorem cl56 : Callable Try.prog 56 := callable_of at56 (by kernel_rfl) (by kernel_rfl)
abbrev a56 : Ty := T72
abbrev r56 : Ty := T3
noncomputable def G56 : Ctx := Ctx.of []
theorem g56 : Sound Try.prog (G56) := sound_of (fun _ h => by cases h)
theorem lo56 : loopsOf (c56) = [] := by kernel_rfl
noncomputable def l56 : List Loop := []
def Q56 {α : Type} (l : Option (r56).den → α) (an : α → α → α) (x : (a56).den) : α := bif (decide (((x.1.2.2.2.1.n : Nat) : Int) ≤ (7 : Int))) then l (some ((decide (((x.1.2.2.2.2.1.n : Nat) : Int) ≤ (7 : Int))), ())) else l (some (false, ()))
theorem q56 (x : (a56).den) : runFn Try.prog E0 G56 Try.f56 l56 a56 r56 x = Q56 .leaf .any x := by kernel_rfl
def M56 (x : (a56).den) : Option (r56).den := Q56 (fun r => r) (fun _ _ => none) x
theorem m56 (x : (a56).den) : (runFn Try.prog E0 G56 Try.f56 l56 a56 r56 x).sure = M56 x := by rw [q56]; unfold M56 Q56; simp only [sure_cond, Tree.sure, sure_cl, sure_onExit, sure_onRet, sure_onPanL, sure_onNext, sure_onBrk, sure_onRetO, sure_onPan, sure_onOk, sure_onGPan]
def p56 (x : (a56).den) : Bool := (M56 x).isSome
def v56 (x : (a56).den) : (r56).den := (M56 x).getD (r56).dflt
def k56 : Con := ⟨a56, r56, p56, v56⟩
theorem h56 : Holds Try.prog 56 k56 := holds_of_M' (E := E0) follows_ok g56 eqTy_sound keyTy_sound at56 bd56 (by kernel_rfl) m56 fun G' hlo hF hE => LsOK_kn (by rw [lo56]; exact .nil)
abbrev T126 : Ty := (.cons tI T97)
abbrev T127 : Ty := (.cons tI T126)
abbrev T128 : Ty := (.cons T42 T127)
/-- isobar/isobarlaw07.of -/
noncomputable def c62 : Code := Try.f62.body.getD .skip
theorem at62 : Try.prog.funcs[62]? = some Try.f62 := by kernel_rfl
theorem bd62 : Try.f62.body = some c62 := by kernel_rfl
theorem cl62 : Callable Try.prog 62 := callable_of at62 (by kernel_rfl) (by kernel_rfl)
abbrev T129 : Ty := (.cons T71 T97)
abbrev a62 : Ty := T129
abbrev r62 : Ty := T0
noncomputable def G62 : Ctx := Ctx.of []
theorem g62 : Sound Try.prog (G62) := sound_of (fun _ h => by cases h)
theorem lo62 : loopsOf (c62) = [] := by kernel_rfl
noncomputable def l62 : List Loop := []
def Q62 {α : Type} (l : Option (r62).den → α) (an : α → α → α) (x : (a62).den) : α := bif x.2.2.1 then bif (decide (((0 : Int) ≤ x.2.1) ∧ (x.2.1 < ((x.1.2.2.2.2.1.n : Nat) : Int)))) then l (some (x.1.2.2.2.2.1.g (Int.toNat x.2.1))) else l none else bif (decide (((0 : Int) ≤ x.2.1) ∧ (x.2.1 < ((x.1.2.2.2.1.n : Nat) : Int)))) then l (some (x.1.2.2.2.1.g (Int.toNat x.2.1))) else l none
theorem q62 (x : (a62).den) : runFn Try.prog E0 G62 Try.f62 l62 a62 r62 x = Q62 .leaf .any x := by kernel_rfl
def M62 (x : (a62).den) : Option (r62).den := Q62 (fun r => r) (fun _ _ => none) x
theorem m62 (x : (a62).den) : (runFn Try.prog E0 G62 Try.f62 l62 a62 r62 x).sure = M62 x := by rw [q62]; unfold M62 Q62; simp only [sure_cond, Tree.sure, sure_cl, sure_onExit, sure_onRet, sure_onPanL, sure_onNext, sure_onBrk, sure_onRetO, sure_onPan, sure_onOk, sure_onGPan]
def p62 (x : (a62).den) : Bool := (M62 x).isSome
def v62 (x : (a62).den) : (r62).den := (M62 x).getD (r62).dflt
def k62 : Con := ⟨a62, r62, p62, v62⟩
theorem h62 : Holds Try.prog 62 k62 := holds_of_M' (E := E0) follows_ok g62 eqTy_sound keyTy_sound at62 bd62 (by kernel_rfl) m62 fun G' hlo hF hE => LsOK_kn (by rw [lo62]; exact .nil)
abbrev T130 : Ty := (.cons T4 T6)
/-- isobar/isobarlaw07.asked -/
noncomputable def c29 : Code := Try.f29.body.getD .skip
theorem at29 : Try.prog.funcs[29]? = some Try.f29 := by kernel_rfl
theorem bd29 : Try.f29.body = some c29 := by kernel_rfl
theorem cl29 : Callable Try.prog 29 := callable_of at29 (by kernel_rfl) (by kernel_rfl)
abbrev a29 : Ty := T120
abbrev r29 : Ty := T0
noncomputable def G29 : Ctx := Ctx.of [(34, .pure k34), (38, .pure k38)]
theorem g29 : Sound Try.prog (G29) := sound_of (List.forall_mem_cons.2 ⟨⟨cl34, h34⟩, List.forall_mem_cons.2 ⟨⟨cl38, h38⟩, fun _ h => by cases h⟩⟩)
theorem lo29 : loopsOf (c29) = [] := by kernel_rfl
noncomputable def l29 : List Loop := []
def Q29 {α : Type} (l : Option (r29).den → α) (an : α → α → α) (x : (a29).den) : α := cl (r38).dflt (M38 (x.1, ())) (fun u0 => bif (!u0.1) then l (some ((2 : Int), ())) else bif (!x.2.1) then l (some ((2 : Int), ())) else cl (r34).dflt (M34 (x.1, ())) (fun u1 => bif (!u1.2.1) then l (some ((7 : Int), ())) else l (some ((0 : Int), ()))) (l none)) (l none)
theorem q29 (x : (a29).den) : runFn Try.prog E0 G29 Try.f29 l29 a29 r29 x = Q29 .leaf .any x := by kernel_rfl
def M29 (x : (a29).den) : Option (r29).den := Q29 (fun r => r) (fun _ _ => none) x
theorem m29 (x : (a29).den) : (runFn Try.prog E0 G29 Try.f29 l29 a29 r29 x).sure = M29 x := by rw [q29]; unfold M29 Q29; simp only [sure_cond, Tree.sure, sure_cl, sure_onExit, sure_onRet, sure_onPanL, sure_onNext, sure_onBrk, sure_onRetO, sure_onPan, sure_onOk, sure_onGPan]
def p29 (x : (a29).den) : Bool := (M29 x).isSome
def v29 (x : (a29).den) : (r29).den := (M29 x).getD (r29).dflt
def k29 : Con := ⟨a29, r29, p29, v29⟩
theorem h29 : Holds Try.prog 29 k29 := holds_of_M' (E := E0) follows_ok g29 eqTy_sound keyTy_sound at29 bd29 (by kernel_rfl) m29 fun G' hlo hF hE => LsOK_kn (by rw [lo29]; exact .nil)
/-- isobar/isobarlaw07.KiteHeights -/
noncomputable def c3 : Code := Try.f3.body.getD .skip
theorem at3 : Try.prog.funcs[3]? = some Try.f3 := by kernel_rfl
theorem bd3 : Try.f3.body = some c3 := by kernel_rfl
theorem cl3 : Callable Try.prog 3 := callable_of at3 (by kernel_rfl) (by kernel_rfl)
abbrev a3 : Ty := T12
abbrev r3 : Ty := T3
noncomputable def G3 : Ctx := Ctx.of [(17, .pure k17), (18, .pure k18), (19, .pure k19), (20, .pure k20)]
theorem g3 : Sound Try.prog (G3) := sound_of (List.forall_mem_cons.2 ⟨⟨cl17, h17⟩, List.forall_mem_cons.2 ⟨⟨cl18, h18⟩, List.forall_mem_cons.2 ⟨⟨cl19, h19⟩, List.forall_mem_cons.2 ⟨⟨cl20, h20⟩, fun _ h => by cases h⟩⟩⟩⟩)
theorem lo3 : loopsOf (c3) = [] := by kernel_rfl
noncomputable def l3 : List Loop := []
def Q3 {α : Type} (l : Option (r3).den → α) (an : α → α → α) (x : (a3).den) : α := cl (r17).dflt (M17 (x.1, ())) (fun u0 => cl (r18).dflt (M18 (x.1, ())) (fun u1 => bif (!u1.1) then bif (decide (u0.2.1 = (2 : Int))) then bif ((decide (u0.1.1 = (0 : Int))) && ((decide (u0.1.2.1 = (0 : Int))) && true)) then cl (r19).dflt (M19 ()) (fun u2 => l (some u2)) (l none) else l (some (false, ())) else l (some (false, ())) else bif (decide (u0.2.1 = (0 : Int))) then cl (r20).dflt (M20 (x.1, ())) (fun u3 => bif ((decide (u0.1.1 = u3.1.1)) && ((decide (u0.1.2.1 = u3.1.2.1)) && true)) then cl (r19).dflt (M19 ()) (fun u4 => l (some u4)) (l none) else l (some (false, ()))) (l none) else l (some (false, ()))) (l none)) (l none)
theorem q3 (x : (a3).den) : runFn Try.prog E0 G3 Try.f3 l3 a3 r3 x = Q3 .leaf .any x := by kernel_rfl
def M3 (x : (a3).den) : Option (r3).den := Q3 (fun r => r) (fun _ _ => none) x
theorem m3 (x : (a3).den) : (runFn Try.prog E0 G3 Try.f3 l3 a3 r3 x).sure = M3 x := by rw [q3]; unfold M3 Q3; simp only [sure_cond, Tree.sure, sure_cl, sure_onExit, sure_onRet, sure_onPanL, sure_onNext, sure_onBrk, sure_onRetO, sure_onPan, sure_onOk, sure_onGPan]
def p3 (x : (a3).den) : Bool := (M3 x).isSome
def v3 (x : (a3).den) : (r3).den := (M3 x).getD (r3).dflt
def k3 : Con := ⟨a3, r3, p3, v3⟩
theorem h3 : Holds Try.prog 3 k3 := holds_of_M' (E := E0) follows_ok g3 eqTy_sound keyTy_sound at3 bd3 (by kernel_rfl) m3 fun G' hlo hF hE => LsOK_kn (by rw [lo3]; exact .nil)
/-- isobar/isobarlaw07.KiteRises -/
noncomputable def c4 : Code := Try.f4.body.getD .skip
theorem at4 : Try.prog.funcs[4]? = some Try.f4 := by kernel_rfl
theorem bd4 : Try.f4.body = some c4 := by kernel_rfl
theorem cl4 : Callable Try.prog 4 := callable_of at4 (by kernel_rfl) (by kernel_rfl)
abbrev a4 : Ty := T46
abbrev r4 : Ty := T3
noncomputable def G4 : Ctx := Ctx.of [(19, .pure k19), (21, .pure k21), (22, .pure k22), (23, .pure k23), (24, .pure k24), (25, .pure k25), (26, .pure k26)]
theorem g4 : Sound Try.prog (G4) := sound_of (List.forall_mem_cons.2 ⟨⟨cl19, h19⟩, List.forall_mem_cons.2 ⟨⟨cl21, h21⟩, List.forall_mem_cons.2 ⟨⟨cl22, h22⟩, List.forall_mem_cons.2 ⟨⟨cl23, h23⟩, List.forall_mem_cons.2 ⟨⟨cl24, h24⟩, List.forall_mem_cons.2 ⟨⟨cl25, h25⟩, List.forall_mem_cons.2 ⟨⟨cl26, h26⟩, fun _ h => by cases h⟩⟩⟩⟩⟩⟩⟩)
theorem lo4 : loopsOf (c4) = [] := by kernel_rfl
noncomputable def l4 : List Loop := []
def Q4 {α : Type} (l : Option (r4).den → α) (an : α → α → α) (x : (a4).den) : α := cl (r21).dflt (M21 (x.1, ())) (fun u0 => bif (!u0.1) then cl (r19).dflt (M19 ()) (fun u1 => l (some u1)) (l none) else bif (decide ((11 : Int) < ((x.2.2.1.n : Nat) : Int))) then cl (r19).dflt (M19 ()) (fun u2 => l (some u2)) (l none) else cl (r22).dflt (M22 (x.1, x.2)) (fun u3 => cl (r23).dflt (M23 (x.1, ())) (fun u4 => bif (!u4.1) then bif (decide (u3.2.1 = (2 : Int))) then bif (decide (((u3.1.n : Nat) : Int) = (0 : Int))) then cl (r19).dflt (M19 ()) (fun u5 => l (some u5)) (l none) else l (some (false, ())) else l (some (false, ())) else cl (r24).dflt (M24 (x.1, x.2)) (fun u6 => bif (!u6.1) then bif (decide (u3.2.1 = (2 : Int))) then bif (decide (((u3.1.n : Nat) : Int) = (0 : Int))) then cl (r19).dflt (M19 ()) (fun u7 => l (some u7)) (l none) else l (some (false, ())) else l (some (false, ())) else bif (decide (u3.2.1 = (0 : Int))) then cl (r26).dflt (M26 (x.1, x.2)) (fun u8 => cl (r25).dflt (M25 (u3.1, u8)) (fun u9 => bif u9.1 then cl (r19).dflt (M19 ()) (fun u10 => l (some u10)) (l none) else l (some (false, ()))) (l none)) (l none) else l (some (false, ()))) (l none)) (l none)) (l none)) (l none)
theorem q4 (x : (a4).den) : runFn Try.prog E0 G4 Try.f4 l4 a4 r4 x = Q4 .leaf .any x := by kernel_rfl
def M4 (x : (a4).den) : Option (r4).den := Q4 (fun r => r) (fun _ _ => none) x
theorem m4 (x : (a4).den) : (runFn Try.prog E0 G4 Try.f4 l4 a4 r4 x).sure = M4 x := by rw [q4]; unfold M4 Q4; simp only [sure_cond, Tree.sure, sure_cl, sure_onExit, sure_onRet, sure_onPanL, sure_onNext, sure_onBrk, sure_onRetO, sure_onPan, sure_onOk, sure_onGPan]
def p4 (x : (a4).den) : Bool := (M4 x).isSome
def v4 (x : (a4).den) : (r4).den := (M4 x).getD (r4).dflt
def k4 : Con := ⟨a4, r4, p4, v4⟩
theorem h4 : Holds Try.prog 4 k4 := holds_of_M' (E := E0) follows_ok g4 eqTy_sound keyTy_sound at4 bd4 (by kernel_rfl) m4 fun G' hlo hF hE => LsOK_kn (by rw [lo4]; exact .nil)
abbrev T131 : Ty := (.cons tI T48)
abbrev T132 : Ty := (.cons T39 T131)
/-- isobar/isobarref07.only -/
noncomputable def c112 : Code := Try.f112.body.getD .skip
theorem at112 : Try.prog.funcs[112]? = some Try.f112 := by kernel_rfl
theorem bd112 : Try.f112.body = some c112 := by kernel_rfl
theorem cl112 : Callable Try.prog 112 := callable_of at112 (by kernel_rfl) (by kernel_rfl)
abbrev T133 : Ty := (.cons (.sl T1) T1)
abbrev a112 : Ty := T133
abbrev r112 : Ty := T51
noncomputable def G112 : Ctx := Ctx.of []
theorem g112 : Sound Try.prog (G112) := sound_of (fun _ h => by cases h)
theorem lo112 : loopsOf (c112) = [] := by kernel_rfl
noncomputable def l112 : List Loop := []
def Q112 {α : Type} (l : Option (r112).den → α) (an : α → α → α) (x : (a112).den) : α := bif (decide ((x.1.n * 16) ≤ 140737488355328)) then bif (decide (((0 : Int) ≤ x.2.1) ∧ (x.2.1 < ((x.1.n : Nat) : Int)))) then l (some ((setSl x.1 (Int.toNat x.2.1) (x.2.2.1, x.2.2)), ())) else l none else l none
theorem q112 (x : (a112).den) : runFn Try.prog (E0.rw [9] []) G112 Try.f112 l112 a112 r112 x = Q112 .leaf .any x := by kernel_rfl
def M112 (x : (a112).den) : Option (r112).den := Q112 (fun r => r) (fun _ _ => none) x
theorem m112 (x : (a112).den) : (runFn Try.prog (E0.rw [9] []) G112 Try.f112 l112 a112 r112 x).sure = M112 x := by rw [q112]; unfold M112 Q112; simp only [sure_cond, Tree.sure, sure_cl, sure_onExit, sure_onRet, sure_onPanL, sure_onNext, sure_onBrk, sure_onRetO, sure_onPan, sure_onOk, sure_onGPan]
def p112 (x : (a112).den) : Bool := (M112 x).isSome
def v112 (x : (a112).den) : (r112).den := (M112 x).getD (r112).dflt
def k112 : Con := ⟨a112, r112, p112, v112⟩
theorem h112 : Holds Try.prog 112 k112 := holds_of_M' (E := (E0.rw [9] [])) follows_ok g112 eqTy_sound keyTy_sound at112 bd112 (by kernel_rfl) m112 fun G' hlo hF hE => LsOK_kn (by rw [lo112]; exact .nil)
/-- isobar/isobarref07.With -/
noncomputable def c88 : Code := Try.f88.body.getD .skip
theorem at88 : Try.prog.funcs[88]? = some Try.f88 := by kernel_rfl
theorem bd88 : Try.f88.body = some c88 := by kernel_rfl
theorem cl88 : Callable Try.prog 88 := callable_of at88 (by kernel_rfl) (by kernel_rfl)
abbrev T134 : Ty := (.cons tI T75)
abbrev T135 : Ty := (.cons T42 T134)
abbrev a88 : Ty := T135
abbrev r88 : Ty := T83
noncomputable def G88 : Ctx := Ctx.of [(85, .pure k85), (86, .pure k86), (112, .pure k112)]
theorem g88 : Sound Try.prog (G88) := sound_of (List.forall_mem_cons.2 ⟨⟨cl85, h85⟩, List.forall_mem_cons.2 ⟨⟨cl86, h86⟩, List.forall_mem_cons.2 ⟨⟨cl112, h112⟩, fun _ h => by cases h⟩⟩⟩)
theorem lo88 : loopsOf (c88) = [] := by kernel_rfl
noncomputable def l88 : List Loop := []
def Q88 {α : Type} (l : Option (r88).den → α) (an : α → α → α) (x : (a88).den) : α := cl (r86).dflt (M86 (x.1, (false, ()))) (fun u0 => cl (r86).dflt (M86 (x.1, (true, ()))) (fun u1 => bif x.2.2.1 then cl (r112).dflt (M112 (u1.1, (x.2.1, x.2.2.2))) (fun u2 => cl (r85).dflt (M85 (x.1, (u0.1, u2))) (fun u3 => l (some (u3.1, u3.2))) (l none)) (l none) else cl (r112).dflt (M112 (u0.1, (x.2.1, x.2.2.2))) (fun u4 => cl (r85).dflt (M85 (x.1, (u4.1, u1))) (fun u5 => l (some (u5.1, u5.2))) (l none)) (l none)) (l none)) (l none)
theorem q88 (x : (a88).den) : runFn Try.prog E0 G88 Try.f88 l88 a88 r88 x = Q88 .leaf .any x := by kernel_rfl
def M88 (x : (a88).den) : Option (r88).den := Q88 (fun r => r) (fun _ _ => none) x
theorem m88 (x : (a88).den) : (runFn Try.prog E0 G88 Try.f88 l88 a88 r88 x).sure = M88 x := by rw [q88]; unfold M88 Q88; simp only [sure_cond, Tree.sure, sure_cl, sure_onExit, sure_onRet, sure_onPanL, sure_onNext, sure_onBrk, sure_onRetO, sure_onPan, sure_onOk, sure_onGPan]
def p88 (x : (a88).den) : Bool := (M88 x).isSome
def v88 (x : (a88).den) : (r88).den := (M88 x).getD (r88).dflt
def k88 : Con := ⟨a88, r88, p88, v88⟩
theorem h88 : Holds Try.prog 88 k88 := holds_of_M' (E := E0) follows_ok g88 eqTy_sound keyTy_sound at88 bd88 (by kernel_rfl) m88 fun G' hlo hF hE => LsOK_kn (by rw [lo88]; exact .nil)
/-- isobar/isobarref07.Wind -/
noncomputable def c84 : Code := Try.f84.body.getD .skip
theorem at84 : Try.prog.funcs[84]? = some Try.f84 := by kernel_rfl
theorem bd84 : Try.f84.body = some c84 := by kernel_rfl
theorem cl84 : Callable Try.prog 84 := callable_of at84 (by kernel_rfl) (by kernel_rfl)
abbrev T136 : Ty := (.cons T42 T97)
abbrev a84 : Ty := T136
abbrev r84 : Ty := T6
noncomputable def G84 : Ctx := Ctx.of [(83, .pure k83), (86, .pure k86), (88, .pure k88)]
theorem g84 : Sound Try.prog (G84) := sound_of (List.forall_mem_cons.2 ⟨⟨cl83, h83⟩, List.forall_mem_cons.2 ⟨⟨cl86, h86⟩, List.forall_mem_cons.2 ⟨⟨cl88, h88⟩, fun _ h => by cases h⟩⟩⟩)
noncomputable def b84x0 : Code := loopBody ((loopsOf (c84))[0]?)
theorem lo84x0 : loopsOf (b84x0) = [] := by kernel_rfl
abbrev cs84x0 : List Pat := [.slot 1 (.pc tI), .slot 2 (.pc .bool), .slot 3 (.ptr 3), .slot 6 (.ptr 6), .slot 7 (.ptr 48), .slot 8 (.ptr 90), .box 3 [.pc (.sl T9), .pc tI, .pc tI, .pc tI, .pc tI, .pc tI, .pc tI, .pc tI, .pc tI, .pc tI, .pc tI, .pc tI, .pc tI], .box 6 [.pc tI, .pc tI], .box 48 [.pc tI, .pc tI]]
abbrev vs84x0 : List Pat := [.slot 9 (.pc .bool), .slot 10 (.pc tI), .box 90 [.pc tI, .pc tI]]
abbrev ps84x0 : List Pat := [.slot 1 (.pc tI), .slot 2 (.pc .bool), .slot 3 (.ptr 3), .slot 6 (.ptr 6), .slot 7 (.ptr 48), .slot 8 (.ptr 90), .box 3 [.pc (.sl T9), .pc tI, .pc tI, .pc tI, .pc tI, .pc tI, .pc tI, .pc tI, .pc tI, .pc tI, .pc tI, .pc tI, .pc tI], .box 6 [.pc tI, .pc tI], .box 48 [.pc tI, .pc tI], .slot 9 (.pc .bool), .slot 10 (.pc tI), .box 90 [.pc tI, .pc tI]]
def j84x0 : (patsTy cs84x0).den → (patsTy vs84x0).den → (patsTy ps84x0).den := fun c v => (c.1, (c.2.1, (c.2.2.1, (c.2.2.2.1, (c.2.2.2.2.1, (c.2.2.2.2.2.1, (c.2.2.2.2.2.2.1, (c.2.2.2.2.2.2.2.1, (c.2.2.2.2.2.2.2.2.1, v)))))))))
def sp84x0 : (patsTy ps84x0).den → (patsTy cs84x0).den × (patsTy vs84x0).den := fun x => ((x.1, (x.2.1, (x.2.2.1, (x.2.2.2.1, (x.2.2.2.2.1, (x.2.2.2.2.2.1, (x.2.2.2.2.2.2.1, (x.2.2.2.2.2.2.2.1, (x.2.2.2.2.2.2.2.2.1, ()))))))))), x.2.2.2.2.2.2.2.2.2)
abbrev wy84x0 : Ways := ⟨[(0, [.slot 6 (.ptr 6), .slot 8 (.ptr 90), .box 6 [.pc tI, .pc tI], .box 90 [.pc tI, .pc tI]])], [], []⟩
abbrev wv84x0 : Ways := ⟨[(0, [.box 90 [.pc tI, .pc tI]])], [], []⟩
def je84x0 : (id : Nat) → (patsTy cs84x0).den → (patsTy (wayP wv84x0 id)).den → (patsTy (wayP wy84x0 id)).den := fun id => match id with | 0 => fun c y => (c.2.2.2.1, (c.2.2.2.2.2.1, (c.2.2.2.2.2.2.2.1, y))) | id => fun _ _ => (patsTy (wayP wy84x0 id)).dflt
def jr84x0 : (patsTy cs84x0).den → (patsTy (wv84x0).ret).den → (patsTy (wy84x0).ret).den := fun c y => y
def jp84x0 : (patsTy cs84x0).den → (patsTy (wv84x0).pan).den → (patsTy (wy84x0).pan).den := fun c y => y
def Z84x0 {α : Type} (l : RQ vs84x0 wv84x0 → α) (an : α → α → α) (c : (patsTy cs84x0).den) (v : (patsTy vs84x0).den) : α := bif (decide (v.2.1 ≤ c.2.2.2.2.2.2.2.2.1.2.1)) then cl (r88).dflt (M88 (c.2.2.2.2.2.2.1, (c.1, (c.2.1, (v.2.1, ()))))) (fun u0 => bif u0.2.1 then cl (r83).dflt (M83 (v.2.2.1, (v.2.1, (v.1, ())))) (fun u1 => l (.next (false, ((W (v.2.1 + (1 : Int))), (u1.1, ()))))) (l .bad) else l (.next (v.1, ((W (v.2.1 + (1 : Int))), (v.2.2.1, ()))))) (l .bad) else l (.out (.exit 0 (v.2.2.1, ())))
theorem z84x0 (c : (patsTy cs84x0).den) (v : (patsTy vs84x0).den) : roundQ Try.prog E0 G84 0 41 [] ps84x0 wy84x0 b84x0 [] (j84x0 c v) = Z84x0 (fun r => .leaf (r.lift j84x0 je84x0 jr84x0 jp84x0 c)) .any c v := by kernel_rfl
def S84x0 (c : (patsTy cs84x0).den) (v : (patsTy vs84x0).den) : RQ vs84x0 wv84x0 := Z84x0 (fun r => r) (fun _ _ => .bad) c v
theorem s84x0 (c : (patsTy cs84x0).den) (v : (patsTy vs84x0).den) : detQ (roundQ Try.prog E0 G84 0 41 [] ps84x0 wy84x0 b84x0 [] (j84x0 c v)) = (S84x0 c v).lift j84x0 je84x0 jr84x0 jp84x0 c := by rw [z84x0]; unfold S84x0 Z84x0; simp only [detQ_cond, lift_cond, lift_bad, detQ, detQ_cl, detQ_onExit, detQ_onRet, detQ_onPanL, detQ_onNext, detQ_onBrk, detQ_onRetO, detQ_onPan, detQ_onOk, detQ_onGPan, lift_cl, lift_onExit, lift_onRet, lift_onPanL, lift_onNext, lift_onBrk, lift_onRetO, lift_onPan, lift_onOk, lift_onGPan]
def L84x0 (c : (patsTy cs84x0).den) (v : (patsTy vs84x0).den) : LQ wv84x0 := iterQ (S84x0 c) big v
theorem lo84 : loopsOf (c84) = [.loop b84x0] := by kernel_rfl
noncomputable def l84 : List Loop := [.known (loopZ 0 [] ps84x0 fun x => spreadV wy84x0 je84x0 jr84x0 jp84x0 [] false (sp84x0 x).1 (L84x0 (sp84x0 x).1 (sp84x0 x).2) wy84x0.exits)]
def Q84 {α : Type} (l : Option (r84).den → α) (an : α → α → α) (x : (a84).den) : α := cl (r86).dflt (M86 (x.1, x.2.2)) (fun u2 => bif (decide (((0 : Int) ≤ x.2.1) ∧ (x.2.1 < ((u2.1.n : Nat) : Int)))) then onExit (L84x0 (x.2.1, (x.2.2.1, ((), ((), ((), ((), (x.1, (((0 : Int), ((0 : Int), ())), ((u2.1.g (Int.toNat x.2.1)), ()))))))))) (true, ((u2.1.g (Int.toNat x.2.1)).1, (((0 : Int), ((0 : Int), ())), ())))) 0 (fun u3 => l (some (u3.1, ()))) (l none) else l none) (l none)
theorem q84 (x : (a84).den) : runFn Try.prog E0 G84 Try.f84 l84 a84 r84 x = Q84 .leaf .any x := by kernel_rfl
def M84 (x : (a84).den) : Option (r84).den := Q84 (fun r => r) (fun _ _ => none) x
theorem m84 (x : (a84).den) : (runFn Try.prog E0 G84 Try.f84 l84 a84 r84 x).sure = M84 x := by rw [q84]; unfold M84 Q84; simp only [sure_cond, Tree.sure, sure_cl, sure_onExit, sure_onRet, sure_onPanL, sure_onNext, sure_onBrk, sure_onRetO, sure_onPan, sure_onOk, sure_onGPan]
def p84 (x : (a84).den) : Bool := (M84 x).isSome
def v84 (x : (a84).den) : (r84).den := (M84 x).getD (r84).dflt
def k84 : Con := ⟨a84, r84, p84, v84⟩
theorem h84 : Holds Try.prog 84 k84 := holds_of_M' (E := E0) follows_ok g84 eqTy_sound keyTy_sound at84 bd84 (by kernel_rfl) m84 fun G' hlo hF hE => LsOK_kn (by rw [lo84]; exact .cons (loopV_ok hE hF hlo (LsOK_kn (by rw [lo84x0]; exact .nil)) (by kernel_rfl) (by kernel_rfl) sp84x0 (fun _ => rfl) (fun _ _ => rfl) (s84x0) big) (.nil))
/-- isobar/isobarref07.Winds -/
noncomputable def c31 : Code := Try.f31.body.getD .skip
theorem at31 : Try.prog.funcs[31]? = some Try.f31 := by kernel_rfl
theorem bd31 : Try.f31.body = some c31 := by kernel_rfl
theorem cl31 : Callable Try.prog 31 := callable_of at31 (by kernel_rfl) (by kernel_rfl)
abbrev a31 : Ty := T43
abbrev r31 : Ty := T117
noncomputable def G31 : Ctx := Ctx.of [(34, .pure k34), (83, .pure k83), (84, .pure k84)]
theorem g31 : Sound Try.prog (G31) := sound_of (List.forall_mem_cons.2 ⟨⟨cl34, h34⟩, List.forall_mem_cons.2 ⟨⟨cl83, h83⟩, List.forall_mem_cons.2 ⟨⟨cl84, h84⟩, fun _ h => by cases h⟩⟩⟩)
noncomputable def b31x0 : Code := loopBody ((loopsOf (c31))[0]?)
theorem lo31x0 : loopsOf (b31x0) = [] := by kernel_rfl
abbrev cs31x0 : List Pat := [.slot 1 (.ptr 1), .slot 2 (.ptr 2), .slot 3 (.ptr 64), .box 1 [.pc (.sl T9), .pc tI, .pc tI, .pc tI, .pc tI, .pc tI, .pc tI, .pc tI, .pc tI, .pc tI, .pc tI, .pc tI, .pc tI], .box 2 [.pc tI, .pc tI, .own 1003002 23 T1, .own 1003003 23 T1]]
abbrev vs31x0 : List Pat := [.slot 4 (.pc .bool), .slot 5 (.pc tI), .box 64 [.pc tI, .pc tI, .own 1065002 23 T1, .own 1065003 23 T1]]
abbrev ps31x0 : List Pat := [.slot 1 (.ptr 1), .slot 2 (.ptr 2), .slot 3 (.ptr 64), .box 1 [.pc (.sl T9), .pc tI, .pc tI, .pc tI, .pc tI, .pc tI, .pc tI, .pc tI, .pc tI, .pc tI, .pc tI, .pc tI, .pc tI], .box 2 [.pc tI, .pc tI, .own 1003002 23 T1, .own 1003003 23 T1], .slot 4 (.pc .bool), .slot 5 (.pc tI), .box 64 [.pc tI, .pc tI, .own 1065002 23 T1, .own 1065003 23 T1]]
def j31x0 : (patsTy cs31x0).den → (patsTy vs31x0).den → (patsTy ps31x0).den := fun c v => (c.1, (c.2.1, (c.2.2.1, (c.2.2.2.1, (c.2.2.2.2.1, v)))))
def sp31x0 : (patsTy ps31x0).den → (patsTy cs31x0).den × (patsTy vs31x0).den := fun x => ((x.1, (x.2.1, (x.2.2.1, (x.2.2.2.1, (x.2.2.2.2.1, ()))))), x.2.2.2.2.2)
abbrev wy31x0 : Ways := ⟨[(0, [.slot 1 (.ptr 1), .slot 2 (.ptr 2), .slot 3 (.ptr 64), .box 1 [.pc (.sl T9), .pc tI, .pc tI, .pc tI, .pc tI, .pc tI, .pc tI, .pc tI, .pc tI, .pc tI, .pc tI, .pc tI, .pc tI], .box 2 [.pc tI, .pc tI, .own 1003002 23 T1, .own 1003003 23 T1], .box 64 [.pc tI, .pc tI, .own 1065002 23 T1, .own 1065003 23 T1]])], [], []⟩
abbrev wv31x0 : Ways := ⟨[(0, [.box 64 [.pc tI, .pc tI, .own 1065002 23 T1, .own 1065003 23 T1]])], [], []⟩
def je31x0 : (id : Nat) → (patsTy cs31x0).den → (patsTy (wayP wv31x0 id)).den → (patsTy (wayP wy31x0 id)).den := fun id => match id with | 0 => fun c y => (c.1, (c.2.1, (c.2.2.1, (c.2.2.2.1, (c.2.2.2.2.1, y))))) | id => fun _ _ => (patsTy (wayP wy31x0 id)).dflt
def jr31x0 : (patsTy cs31x0).den → (patsTy (wv31x0).ret).den → (patsTy (wy31x0).ret).den := fun c y => y
def jp31x0 : (patsTy cs31x0).den → (patsTy (wv31x0).pan).den → (patsTy (wy31x0).pan).den := fun c y => y
def Z31x0 {α : Type} (l : RQ vs31x0 wv31x0 → α) (an : α → α → α) (c : (patsTy cs31x0).den) (v : (patsTy vs31x0).den) : α := bif (decide (v.2.1 ≤ c.2.2.2.1.2.2.2.2.2.2.1)) then cl (r34).dflt (M34 ((c.2.2.2.1.1, (c.2.2.2.1.2.1, (c.2.2.2.1.2.2.1, (c.2.2.2.1.2.2.2.1, (c.2.2.2.1.2.2.2.2.1, (v.2.1, (v.2.1, c.2.2.2.1.2.2.2.2.2.2.2))))))), ())) (fun u0 => bif u0.2.1 then cl (r83).dflt (M83 ((v.2.2.1.1, (v.2.2.1.2.1, ())), (v.2.1, (v.1, ())))) (fun u1 => l (.next (false, ((W (v.2.1 + (1 : Int))), ((u1.1.1, (u1.1.2.1, v.2.2.1.2.2)), ()))))) (l .bad) else l (.next (v.1, ((W (v.2.1 + (1 : Int))), (v.2.2.1, ()))))) (l .bad) else l (.out (.exit 0 (v.2.2.1, ())))
theorem z31x0 (c : (patsTy cs31x0).den) (v : (patsTy vs31x0).den) : roundQ Try.prog E0 G31 0 61 [] ps31x0 wy31x0 b31x0 [] (j31x0 c v) = Z31x0 (fun r => .leaf (r.lift j31x0 je31x0 jr31x0 jp31x0 c)) .any c v := by kernel_rfl
def S31x0 (c : (patsTy cs31x0).den) (v : (patsTy vs31x0).den) : RQ vs31x0 wv31x0 := Z31x0 (fun r => r) (fun _ _ => .bad) c v
theorem s31x0 (c : (patsTy cs31x0).den) (v : (patsTy vs31x0).den) : detQ (roundQ Try.prog E0 G31 0 61 [] ps31x0 wy31x0 b31x0 [] (j31x0 c v)) = (S31x0 c v).lift j31x0 je31x0 jr31x0 jp31x0 c := by rw [z31x0]; unfold S31x0 Z31x0; simp only [detQ_cond, lift_cond, lift_bad, detQ, detQ_cl, detQ_onExit, detQ_onRet, detQ_onPanL, detQ_onNext, detQ_onBrk, detQ_onRetO, detQ_onPan, detQ_onOk, detQ_onGPan, lift_cl, lift_onExit, lift_onRet, lift_onPanL, lift_onNext, lift_onBrk, lift_onRetO, lift_onPan, lift_onOk, lift_onGPan]
def L31x0 (c : (patsTy cs31x0).den) (v : (patsTy vs31x0).den) : LQ wv31x0 := iterQ (S31x0 c) big v
noncomputable def b31x1 : Code := loopBody ((loopsOf (c31))[1]?)
theorem lo31x1 : loopsOf (b31x1) = [] := by kernel_rfl
abbrev cs31x1 : List Pat := [.slot 1 (.ptr 1), .slot 2 (.ptr 2), .slot 3 (.ptr 64), .box 1 [.pc (.sl T9), .pc tI, .pc tI, .pc tI, .pc tI, .pc tI, .pc tI, .pc tI, .pc tI, .pc tI, .pc tI, .pc tI, .pc tI], .box 2 [.pc tI, .pc tI, .own 1003002 23 T1, .own 1003003 23 T1]]
abbrev vs31x1 : List Pat := [.slot 9 (.pc tI), .box 64 [.pc tI, .pc tI, .own 1065002 23 T1, .own 1065003 23 T1]]
abbrev ps31x1 : List Pat := [.slot 1 (.ptr 1), .slot 2 (.ptr 2), .slot 3 (.ptr 64), .box 1 [.pc (.sl T9), .pc tI, .pc tI, .pc tI, .pc tI, .pc tI, .pc tI, .pc tI, .pc tI, .pc tI, .pc tI, .pc tI, .pc tI], .box 2 [.pc tI, .pc tI, .own 1003002 23 T1, .own 1003003 23 T1], .slot 9 (.pc tI), .box 64 [.pc tI, .pc tI, .own 1065002 23 T1, .own 1065003 23 T1]]
def j31x1 : (patsTy cs31x1).den → (patsTy vs31x1).den → (patsTy ps31x1).den := fun c v => (c.1, (c.2.1, (c.2.2.1, (c.2.2.2.1, (c.2.2.2.2.1, v)))))
def sp31x1 : (patsTy ps31x1).den → (patsTy cs31x1).den × (patsTy vs31x1).den := fun x => ((x.1, (x.2.1, (x.2.2.1, (x.2.2.2.1, (x.2.2.2.2.1, ()))))), x.2.2.2.2.2)
abbrev wy31x1 : Ways := ⟨[(2, [.slot 2 (.ptr 2), .slot 3 (.ptr 64), .box 2 [.pc tI, .pc tI, .own 1003002 23 T1, .own 1003003 23 T1], .box 64 [.pc tI, .pc tI, .own 1065002 23 T1, .own 1065003 23 T1]])], [], []⟩
abbrev wv31x1 : Ways := ⟨[(2, [.box 64 [.pc tI, .pc tI, .own 1065002 23 T1, .own 1065003 23 T1]])], [], []⟩
def je31x1 : (id : Nat) → (patsTy cs31x1).den → (patsTy (wayP wv31x1 id)).den → (patsTy (wayP wy31x1 id)).den := fun id => match id with | 2 => fun c y => (c.2.1, (c.2.2.1, (c.2.2.2.2.1, y))) | id => fun _ _ => (patsTy (wayP wy31x1 id)).dflt
def jr31x1 : (patsTy cs31x1).den → (patsTy (wv31x1).ret).den → (patsTy (wy31x1).ret).den := fun c y => y
def jp31x1 : (patsTy cs31x1).den → (patsTy (wv31x1).pan).den → (patsTy (wy31x1).pan).den := fun c y => y
def Z31x1 {α : Type} (l : RQ vs31x1 wv31x1 → α) (an : α → α → α) (c : (patsTy cs31x1).den) (v : (patsTy vs31x1).den) : α := bif (decide (v.1 < ((c.2.2.2.1.1.n : Nat) : Int))) then cl (r84).dflt (M84 (c.2.2.2.1, (v.1, (false, ())))) (fun u2 => bif (decide (((v.2.1.2.2.1.n + 1) * 16) ≤ 140737488355328)) then cl (r84).dflt (M84 (c.2.2.2.1, (v.1, (true, ())))) (fun u3 => bif (decide (((v.2.1.2.2.2.1.n + 1) * 16) ≤ 140737488355328)) then l (.next ((W (v.1 + (1 : Int))), ((v.2.1.1, (v.2.1.2.1, ((catSl v.2.1.2.2.1 (⟨1, fun i => List.getD [u2.1] i u2.1⟩ : Sl (Ty.den T1))), ((catSl v.2.1.2.2.2.1 (⟨1, fun i => List.getD [u3.1] i u3.1⟩ : Sl (Ty.den T1))), ())))), ()))) else l .bad) (l .bad) else l .bad) (l .bad) else l (.out (.exit 2 (v.2.1, ())))
theorem z31x1 (c : (patsTy cs31x1).den) (v : (patsTy vs31x1).den) : roundQ Try.prog E0 G31 0 61 [] ps31x1 wy31x1 b31x1 [] (j31x1 c v) = Z31x1 (fun r => .leaf (r.lift j31x1 je31x1 jr31x1 jp31x1 c)) .any c v := by kernel_rfl
def S31x1 (c : (patsTy cs31x1).den) (v : (patsTy vs31x1).den) : RQ vs31x1 wv31x1 := Z31x1 (fun r => r) (fun _ _ => .bad) c v
theorem s31x1 (c : (patsTy cs31x1).den) (v : (patsTy vs31x1).den) : detQ (roundQ Try.prog E0 G31 0 61 [] ps31x1 wy31x1 b31x1 [] (j31x1 c v)) = (S31x1 c v).lift j31x1 je31x1 jr31x1 jp31x1 c := by rw [z31x1]; unfold S31x1 Z31x1; simp only [detQ_cond, lift_cond, lift_bad, detQ, detQ_cl, detQ_onExit, detQ_onRet, detQ_onPanL, detQ_onNext, detQ_onBrk, detQ_onRetO, detQ_onPan, detQ_onOk, detQ_onGPan, lift_cl, lift_onExit, lift_onRet, lift_onPanL, lift_onNext, lift_onBrk, lift_onRetO, lift_onPan, lift_onOk, lift_onGPan]
def L31x1 (c : (patsTy cs31x1).den) (v : (patsTy vs31x1).den) : LQ wv31x1 := iterQ (S31x1 c) big v
theorem lo31 : loopsOf (c31) = [.loop b31x0, .loop b31x1] := by kernel_rfl
noncomputable def l31 : List Loop := [.known (loopZ 0 [] ps31x0 fun x => spreadV wy31x0 je31x0 jr31x0 jp31x0 [] false (sp31x0 x).1 (L31x0 (sp31x0 x).1 (sp31x0 x).2) wy31x0.exits), .known (loopZ 0 [] ps31x1 fun x => spreadV wy31x1 je31x1 jr31x1 jp31x1 [] false (sp31x1 x).1 (L31x1 (sp31x1 x).1 (sp31x1 x).2) wy31x1.exits)]
def Q31 {α : Type} (l : Option (r31).den → α) (an : α → α → α) (x : (a31).den) : α := onExit (L31x0 ((), ((), ((), (x.1, (((0 : Int), ((0 : Int), ((⟨0, fun i => ((0 : Int), ((0 : Int), ()))⟩ : Sl _), ((⟨0, fun i => ((0 : Int), ((0 : Int), ()))⟩ : Sl _), ())))), ()))))) (true, (x.1.2.2.2.2.2.1, (((0 : Int), ((0 : Int), ((⟨0, fun i => ((0 : Int), ((0 : Int), ()))⟩ : Sl _), ((⟨0, fun i => ((0 : Int), ((0 : Int), ()))⟩ : Sl _), ())))), ())))) 0 (fun u4 => onExit (L31x1 ((), ((), ((), (x.1, (((0 : Int), ((0 : Int), ((⟨0, fun i => ((0 : Int), ((0 : Int), ()))⟩ : Sl _), ((⟨0, fun i => ((0 : Int), ((0 : Int), ()))⟩ : Sl _), ())))), ()))))) ((0 : Int), (u4.1, ()))) 2 (fun u5 => l (some (u5.1, ()))) (l none)) (l none)
theorem q31 (x : (a31).den) : runFn Try.prog E0 G31 Try.f31 l31 a31 r31 x = Q31 .leaf .any x := by kernel_rfl
def M31 (x : (a31).den) : Option (r31).den := Q31 (fun r => r) (fun _ _ => none) x
theorem m31 (x : (a31).den) : (runFn Try.prog E0 G31 Try.f31 l31 a31 r31 x).sure = M31 x := by rw [q31]; unfold M31 Q31; simp only [sure_cond, Tree.sure, sure_cl, sure_onExit, sure_onRet, sure_onPanL, sure_onNext, sure_onBrk, sure_onRetO, sure_onPan, sure_onOk, sure_onGPan]
def p31 (x : (a31).den) : Bool := (M31 x).isSome
def v31 (x : (a31).den) : (r31).den := (M31 x).getD (r31).dflt
def k31 : Con := ⟨a31, r31, p31, v31⟩
theorem h31 : Holds Try.prog 31 k31 := holds_of_M' (E := E0) follows_ok g31 eqTy_sound keyTy_sound at31 bd31 (by kernel_rfl) m31 fun G' hlo hF hE => LsOK_kn (by rw [lo31]; exact .cons (loopV_ok hE hF hlo (LsOK_kn (by rw [lo31x0]; exact .nil)) (by kernel_rfl) (by kernel_rfl) sp31x0 (fun _ => rfl) (fun _ _ => rfl) (s31x0) big) (.cons (loopV_ok hE hF hlo (LsOK_kn (by rw [lo31x1]; exact .nil)) (by kernel_rfl) (by kernel_rfl) sp31x1 (fun _ => rfl) (fun _ _ => rfl) (s31x1) big) (.nil)))
/-- isobar/isobarlaw07.KiteWinds -/
noncomputable def c5 : Code := Try.f5.body.getD .skip
theorem at5 : Try.prog.funcs[5]? = some Try.f5 := by kernel_rfl
theorem bd5 : Try.f5.body = some c5 := by kernel_rfl
theorem cl5 : Callable Try.prog 5 := callable_of at5 (by kernel_rfl) (by kernel_rfl)
abbrev a5 : Ty := T43
abbrev r5 : Ty := T3
noncomputable def G5 : Ctx := Ctx.of [(19, .pure k19), (27, .pure k27), (28, .pure k28), (29, .pure k29), (30, .pure k30), (31, .pure k31)]
theorem g5 : Sound Try.prog (G5) := sound_of (List.forall_mem_cons.2 ⟨⟨cl19, h19⟩, List.forall_mem_cons.2 ⟨⟨cl27, h27⟩, List.forall_mem_cons.2 ⟨⟨cl28, h28⟩, List.forall_mem_cons.2 ⟨⟨cl29, h29⟩, List.forall_mem_cons.2 ⟨⟨cl30, h30⟩, List.forall_mem_cons.2 ⟨⟨cl31, h31⟩, fun _ h => by cases h⟩⟩⟩⟩⟩⟩)
theorem lo5 : loopsOf (c5) = [] := by kernel_rfl
noncomputable def l5 : List Loop := []
def Q5 {α : Type} (l : Option (r5).den → α) (an : α → α → α) (x : (a5).den) : α := cl (r27).dflt (M27 (x.1, ())) (fun u0 => bif (!u0.1) then cl (r19).dflt (M19 ()) (fun u1 => l (some u1)) (l none) else cl (r28).dflt (M28 (x.1, ())) (fun u2 => cl (r29).dflt (M29 (x.1, (true, ()))) (fun u3 => bif (!(decide (u3.1 = (0 : Int)))) then bif (decide (u2.2.1 = u3.1)) then cl (r30).dflt (M30 (u2.1, (((0 : Int), ((0 : Int), ((⟨0, fun i => ((0 : Int), ((0 : Int), ()))⟩ : Sl _), ((⟨0, fun i => ((0 : Int), ((0 : Int), ()))⟩ : Sl _), ())))), ()))) (fun u4 => bif u4.1 then cl (r19).dflt (M19 ()) (fun u5 => l (some u5)) (l none) else l (some (false, ()))) (l none) else l (some (false, ())) else bif (decide (u2.2.1 = (0 : Int))) then cl (r31).dflt (M31 (x.1, ())) (fun u6 => cl (r30).dflt (M30 (u2.1, (u6.1, ()))) (fun u7 => bif u7.1 then cl (r19).dflt (M19 ()) (fun u8 => l (some u8)) (l none) else l (some (false, ()))) (l none)) (l none) else l (some (false, ()))) (l none)) (l none)) (l none)
theorem q5 (x : (a5).den) : runFn Try.prog E0 G5 Try.f5 l5 a5 r5 x = Q5 .leaf .any x := by kernel_rfl
def M5 (x : (a5).den) : Option (r5).den := Q5 (fun r => r) (fun _ _ => none) x
theorem m5 (x : (a5).den) : (runFn Try.prog E0 G5 Try.f5 l5 a5 r5 x).sure = M5 x := by rw [q5]; unfold M5 Q5; simp only [sure_cond, Tree.sure, sure_cl, sure_onExit, sure_onRet, sure_onPanL, sure_onNext, sure_onBrk, sure_onRetO, sure_onPan, sure_onOk, sure_onGPan]
def p5 (x : (a5).den) : Bool := (M5 x).isSome
def v5 (x : (a5).den) : (r5).den := (M5 x).getD (r5).dflt
def k5 : Con := ⟨a5, r5, p5, v5⟩
theorem h5 : Holds Try.prog 5 k5 := holds_of_M' (E := E0) follows_ok g5 eqTy_sound keyTy_sound at5 bd5 (by kernel_rfl) m5 fun G' hlo hF hE => LsOK_kn (by rw [lo5]; exact .nil)
/-- isobar/isobarlaw07.KiteBlown -/
noncomputable def c15 : Code := Try.f15.body.getD .skip
theorem at15 : Try.prog.funcs[15]? = some Try.f15 := by kernel_rfl
theorem bd15 : Try.f15.body = some c15 := by kernel_rfl
theorem cl15 : Callable Try.prog 15 := callable_of at15 (by kernel_rfl) (by kernel_rfl)
abbrev T137 : Ty := (.cons T71 T114)
abbrev T138 : Ty := (.cons T42 T137)
abbrev a15 : Ty := T138
abbrev r15 : Ty := T3
noncomputable def G15 : Ctx := Ctx.of [(19, .pure k19), (27, .pure k27), (28, .pure k28), (32, .pure k32), (35, .pure k35), (36, .pure k36), (38, .pure k38), (45, .pure k45), (56, .pure k56), (57, .pure k57), (60, .pure k60), (61, .pure k61), (62, .pure k62)]
theorem g15 : Sound Try.prog (G15) := sound_of (List.forall_mem_cons.2 ⟨⟨cl19, h19⟩, List.forall_mem_cons.2 ⟨⟨cl27, h27⟩, List.forall_mem_cons.2 ⟨⟨cl28, h28⟩, List.forall_mem_cons.2 ⟨⟨cl32, h32⟩, List.forall_mem_cons.2 ⟨⟨cl35, h35⟩, List.forall_mem_cons.2 ⟨⟨cl36, h36⟩, List.forall_mem_cons.2 ⟨⟨cl38, h38⟩, List.forall_mem_cons.2 ⟨⟨cl45, h45⟩, List.forall_mem_cons.2 ⟨⟨cl56, h56⟩, List.forall_mem_cons.2 ⟨⟨cl57, h57⟩, List.forall_mem_cons.2 ⟨⟨cl60, h60⟩, List.forall_mem_cons.2 ⟨⟨cl61, h61⟩, List.forall_mem_cons.2 ⟨⟨cl62, h62⟩, fun _ h => by cases h⟩⟩⟩⟩⟩⟩⟩⟩⟩⟩⟩⟩⟩)
noncomputable def b15x0 : Code := loopBody ((loopsOf (c15))[0]?)
theorem lo15x0 : loopsOf (b15x0) = [] := by kernel_rfl
abbrev cs15x0 : List Pat := [.slot 6 (.ptr 6), .slot 13 (.ptr 772), .slot 19 (.pc tI), .box 6 [.pc tI, .pc tI, .pc tI, .pc (.sl T0), .pc (.sl T0)], .box 772 [.pc tI, .pc tI, .pc (.sl T1), .pc (.sl T1)]]
abbrev vs15x0 : List Pat := [.slot 26 (.pc tI)]
abbrev ps15x0 : List Pat := [.slot 6 (.ptr 6), .slot 13 (.ptr 772), .slot 19 (.pc tI), .box 6 [.pc tI, .pc tI, .pc tI, .pc (.sl T0), .pc (.sl T0)], .box 772 [.pc tI, .pc tI, .pc (.sl T1), .pc (.sl T1)], .slot 26 (.pc tI)]
def j15x0 : (patsTy cs15x0).den → (patsTy vs15x0).den → (patsTy ps15x0).den := fun c v => (c.1, (c.2.1, (c.2.2.1, (c.2.2.2.1, (c.2.2.2.2.1, v)))))
def sp15x0 : (patsTy ps15x0).den → (patsTy cs15x0).den × (patsTy vs15x0).den := fun x => ((x.1, (x.2.1, (x.2.2.1, (x.2.2.2.1, (x.2.2.2.2.1, ()))))), x.2.2.2.2.2)
abbrev wy15x0 : Ways := ⟨[(0, [])], [.slot 10 (.pc .bool)], []⟩
abbrev wv15x0 : Ways := ⟨[(0, [])], [.slot 10 (.pc .bool)], []⟩
def je15x0 : (id : Nat) → (patsTy cs15x0).den → (patsTy (wayP wv15x0 id)).den → (patsTy (wayP wy15x0 id)).den := fun id => match id with | 0 => fun c y => y | id => fun _ _ => (patsTy (wayP wy15x0 id)).dflt
def jr15x0 : (patsTy cs15x0).den → (patsTy (wv15x0).ret).den → (patsTy (wy15x0).ret).den := fun c y => y
def jp15x0 : (patsTy cs15x0).den → (patsTy (wv15x0).pan).den → (patsTy (wy15x0).pan).den := fun c y => y
def Z15x0 {α : Type} (l : RQ vs15x0 wv15x0 → α) (an : α → α → α) (c : (patsTy cs15x0).den) (v : (patsTy vs15x0).den) : α := bif (decide (v.1 < c.2.2.1)) then bif (decide (((0 : Int) ≤ v.1) ∧ (v.1 < ((c.2.2.2.1.2.2.2.1.n : Nat) : Int)))) then bif (decide (((0 : Int) ≤ v.1) ∧ (v.1 < ((c.2.2.2.2.1.2.2.1.n : Nat) : Int)))) then cl (r45).dflt (M45 ((c.2.2.2.1.2.2.2.1.g (Int.toNat v.1)).1, ((c.2.2.2.2.1.2.2.1.g (Int.toNat v.1)), ()))) (fun u0 => bif (!u0.1) then l (.out (.ret (false, ()))) else bif (decide (((0 : Int) ≤ v.1) ∧ (v.1 < ((c.2.2.2.1.2.2.2.2.1.n : Nat) : Int)))) then bif (decide (((0 : Int) ≤ v.1) ∧ (v.1 < ((c.2.2.2.2.1.2.2.2.1.n : Nat) : Int)))) then cl (r45).dflt (M45 ((c.2.2.2.1.2.2.2.2.1.g (Int.toNat v.1)).1, ((c.2.2.2.2.1.2.2.2.1.g (Int.toNat v.1)), ()))) (fun u1 => bif (!u1.1) then l (.out (.ret (false, ()))) else l (.next ((W (v.1 + (1 : Int))), ()))) (l .bad) else l .bad else l .bad) (l .bad) else l .bad else l .bad else l (.out (.exit 0 ()))
theorem z15x0 (c : (patsTy cs15x0).den) (v : (patsTy vs15x0).den) : roundQ Try.prog E0 G15 0 253 [] ps15x0 wy15x0 b15x0 [] (j15x0 c v) = Z15x0 (fun r => .leaf (r.lift j15x0 je15x0 jr15x0 jp15x0 c)) .any c v := by kernel_rfl
def S15x0 (c : (patsTy cs15x0).den) (v : (patsTy vs15x0).den) : RQ vs15x0 wv15x0 := Z15x0 (fun r => r) (fun _ _ => .bad) c v
theorem s15x0 (c : (patsTy cs15x0).den) (v : (patsTy vs15x0).den) : detQ (roundQ Try.prog E0 G15 0 253 [] ps15x0 wy15x0 b15x0 [] (j15x0 c v)) = (S15x0 c v).lift j15x0 je15x0 jr15x0 jp15x0 c := by rw [z15x0]; unfold S15x0 Z15x0; simp only [detQ_cond, lift_cond, lift_bad, detQ, detQ_cl, detQ_onExit, detQ_onRet, detQ_onPanL, detQ_onNext, detQ_onBrk, detQ_onRetO, detQ_onPan, detQ_onOk, detQ_onGPan, lift_cl, lift_onExit, lift_onRet, lift_onPanL, lift_onNext, lift_onBrk, lift_onRetO, lift_onPan, lift_onOk, lift_onGPan]
def L15x0 (c : (patsTy cs15x0).den) (v : (patsTy vs15x0).den) : LQ wv15x0 := iterQ (S15x0 c) big v
theorem lo15 : loopsOf (c15) = [.loop b15x0] := by kernel_rfl
noncomputable def l15 : List Loop := [.known (loopZ 0 [] ps15x0 fun x => spreadV wy15x0 je15x0 jr15x0 jp15x0 [] true (sp15x0 x).1 (L15x0 (sp15x0 x).1 (sp15x0 x).2) wy15x0.exits)]
def Q15 {α : Type} (l : Option (r15).den → α) (an : α → α → α) (x : (a15).den) : α := cl (r27).dflt (M27 (x.1, ())) (fun u2 => bif (!u2.1) then cl (r19).dflt (M19 ()) (fun u3 => l (some u3)) (l none) else cl (r56).dflt (M56 (x.2.1, ())) (fun u4 => bif (!u4.1) then cl (r19).dflt (M19 ()) (fun u5 => l (some u5)) (l none) else cl (r38).dflt (M38 (x.1, ())) (fun u6 => bif (!u6.1) then cl (r19).dflt (M19 ()) (fun u7 => l (some u7)) (l none) else cl (r57).dflt (M57 (x.1, (x.2.1, ()))) (fun u8 => bif (!u8.1) then cl (r19).dflt (M19 ()) (fun u9 => l (some u9)) (l none) else cl (r36).dflt (M36 (x.1, (x.2.2.1, ()))) (fun u10 => bif (!u10.1) then cl (r19).dflt (M19 ()) (fun u11 => l (some u11)) (l none) else cl (r60).dflt (M60 (x.1, (x.2.1, ()))) (fun u12 => cl (r28).dflt (M28 (x.1, ())) (fun u13 => cl (r32).dflt (M32 (x.1, ())) (fun u14 => cl (r35).dflt (M35 (x.1, x.2.2)) (fun u15 => bif (!(decide (u12.2.1 = (0 : Int)))) then l (some (false, ())) else bif (!(decide (u13.2.1 = u14.2.1))) then l (some (false, ())) else bif (!(decide (u13.2.1 = u15.2.1))) then l (some (false, ())) else bif (!(decide (u13.2.1 = (0 : Int)))) then bif (!(decide (u13.2.1 = (7 : Int)))) then l (some (false, ())) else bif (!(decide (u13.2.1 = (0 : Int)))) then bif (!u12.1) then cl (r19).dflt (M19 ()) (fun u16 => l (some u16)) (l none) else l (some (false, ())) else bif (!(decide (((u13.1.2.2.1.n : Nat) : Int) = ((x.1.1.n : Nat) : Int)))) then l (some (false, ())) else bif (!(decide (((u13.1.2.2.2.1.n : Nat) : Int) = ((x.1.1.n : Nat) : Int)))) then l (some (false, ())) else cl (r56).dflt (M56 (u14.1, ())) (fun u17 => bif (!u17.1) then l (some (false, ())) else cl (r56).dflt (M56 (u15.1, ())) (fun u18 => bif (!u18.1) then l (some (false, ())) else cl (r57).dflt (M57 (x.1, (u14.1, ()))) (fun u19 => bif (!u19.1) then l (some (false, ())) else cl (r57).dflt (M57 (x.1, (u15.1, ()))) (fun u20 => bif (!u20.1) then l (some (false, ())) else cl (r60).dflt (M60 (x.1, (u14.1, ()))) (fun u21 => cl (r60).dflt (M60 (x.1, (u15.1, ()))) (fun u22 => bif (!(decide (u21.2.1 = (0 : Int)))) then l (some (false, ())) else bif (!(decide (u22.2.1 = (0 : Int)))) then l (some (false, ())) else bif (!u21.1) then l (some (false, ())) else bif (!u22.1) then l (some (false, ())) else cl (r61).dflt (M61 (u15.1, (u14.1, ()))) (fun u23 => bif u23.1 then l (some (false, ())) else bif (decide (((0 : Int) ≤ x.2.2.1) ∧ (x.2.2.1 < ((u13.1.2.2.1.n : Nat) : Int)))) then bif x.2.2.2.1 then bif (decide (((0 : Int) ≤ x.2.2.1) ∧ (x.2.2.1 < ((u13.1.2.2.2.1.n : Nat) : Int)))) then bif x.2.2.2.2.1 then cl (r62).dflt (M62 (u15.1, (x.2.2.1, (x.2.2.2.1, ())))) (fun u24 => bif (!(decide (u24.1 = (u13.1.2.2.2.1.g (Int.toNat x.2.2.1)).2.1))) then l (some (false, ())) else bif (!u12.1) then cl (r19).dflt (M19 ()) (fun u25 => l (some u25)) (l none) else cl (r61).dflt (M61 (x.2.1, (u14.1, ()))) (fun u26 => bif u26.1 then l (some (false, ())) else cl (r62).dflt (M62 (x.2.1, (x.2.2.1, (x.2.2.2.1, ())))) (fun u27 => bif (decide (u27.1 = (u13.1.2.2.2.1.g (Int.toNat x.2.2.1)).2.1)) then cl (r61).dflt (M61 (x.2.1, (u15.1, ()))) (fun u28 => bif u28.1 then l (some (false, ())) else cl (r45).dflt (M45 (x.2.1.2.2.1, ((u13.1.1, (u13.1.2.1, ())), ()))) (fun u29 => bif (!u29.1) then l (some (false, ())) else onExit (L15x0 ((), ((), (((x.1.1.n : Nat) : Int), (x.2.1, (u13.1, ()))))) ((0 : Int), ())) 0 (fun u30 => cl (r19).dflt (M19 ()) (fun u31 => l (some u31)) (l none)) (onRet (L15x0 ((), ((), (((x.1.1.n : Nat) : Int), (x.2.1, (u13.1, ()))))) ((0 : Int), ())) (fun u32 => l (some u32)) (l none))) (l none)) (l none) else cl (r45).dflt (M45 (x.2.1.2.2.1, ((u13.1.1, (u13.1.2.1, ())), ()))) (fun u33 => bif (!u33.1) then l (some (false, ())) else onExit (L15x0 ((), ((), (((x.1.1.n : Nat) : Int), (x.2.1, (u13.1, ()))))) ((0 : Int), ())) 0 (fun u34 => cl (r19).dflt (M19 ()) (fun u35 => l (some u35)) (l none)) (onRet (L15x0 ((), ((), (((x.1.1.n : Nat) : Int), (x.2.1, (u13.1, ()))))) ((0 : Int), ())) (fun u36 => l (some u36)) (l none))) (l none)) (l none)) (l none)) (l none) else cl (r62).dflt (M62 (u15.1, (x.2.2.1, (x.2.2.2.1, ())))) (fun u37 => bif (!(decide (u37.1 = (u13.1.2.2.2.1.g (Int.toNat x.2.2.1)).1))) then l (some (false, ())) else bif (!u12.1) then cl (r19).dflt (M19 ()) (fun u38 => l (some u38)) (l none) else cl (r61).dflt (M61 (x.2.1, (u14.1, ()))) (fun u39 => bif u39.1 then l (some (false, ())) else cl (r62).dflt (M62 (x.2.1, (x.2.2.1, (x.2.2.2.1, ())))) (fun u40 => bif (decide (u40.1 = (u13.1.2.2.2.1.g (Int.toNat x.2.2.1)).1)) then cl (r61).dflt (M61 (x.2.1, (u15.1, ()))) (fun u41 => bif u41.1 then l (some (false, ())) else cl (r45).dflt (M45 (x.2.1.2.2.1, ((u13.1.1, (u13.1.2.1, ())), ()))) (fun u42 => bif (!u42.1) then l (some (false, ())) else onExit (L15x0 ((), ((), (((x.1.1.n : Nat) : Int), (x.2.1, (u13.1, ()))))) ((0 : Int), ())) 0 (fun u43 => cl (r19).dflt (M19 ()) (fun u44 => l (some u44)) (l none)) (onRet (L15x0 ((), ((), (((x.1.1.n : Nat) : Int), (x.2.1, (u13.1, ()))))) ((0 : Int), ())) (fun u45 => l (some u45)) (l none))) (l none)) (l none) else cl (r45).dflt (M45 (x.2.1.2.2.1, ((u13.1.1, (u13.1.2.1, ())), ()))) (fun u46 => bif (!u46.1) then l (some (false, ())) else onExit (L15x0 ((), ((), (((x.1.1.n : Nat) : Int), (x.2.1, (u13.1, ()))))) ((0 : Int), ())) 0 (fun u47 => cl (r19).dflt (M19 ()) (fun u48 => l (some u48)) (l none)) (onRet (L15x0 ((), ((), (((x.1.1.n : Nat) : Int), (x.2.1, (u13.1, ()))))) ((0 : Int), ())) (fun u49 => l (some u49)) (l none))) (l none)) (l none)) (l none)) (l none) else l none else bif x.2.2.2.2.1 then cl (r62).dflt (M62 (u15.1, (x.2.2.1, (x.2.2.2.1, ())))) (fun u50 => bif (!(decide (u50.1 = (u13.1.2.2.1.g (Int.toNat x.2.2.1)).2.1))) then l (some (false, ())) else bif (!u12.1) then cl (r19).dflt (M19 ()) (fun u51 => l (some u51)) (l none) else cl (r61).dflt (M61 (x.2.1, (u14.1, ()))) (fun u52 => bif u52.1 then l (some (false, ())) else cl (r62).dflt (M62 (x.2.1, (x.2.2.1, (x.2.2.2.1, ())))) (fun u53 => bif (decide (u53.1 = (u13.1.2.2.1.g (Int.toNat x.2.2.1)).2.1)) then cl (r61).dflt (M61 (x.2.1, (u15.1, ()))) (fun u54 => bif u54.1 then l (some (false, ())) else cl (r45).dflt (M45 (x.2.1.2.2.1, ((u13.1.1, (u13.1.2.1, ())), ()))) (fun u55 => bif (!u55.1) then l (some (false, ())) else onExit (L15x0 ((), ((), (((x.1.1.n : Nat) : Int), (x.2.1, (u13.1, ()))))) ((0 : Int), ())) 0 (fun u56 => cl (r19).dflt (M19 ()) (fun u57 => l (some u57)) (l none)) (onRet (L15x0 ((), ((), (((x.1.1.n : Nat) : Int), (x.2.1, (u13.1, ()))))) ((0 : Int), ())) (fun u58 => l (some u58)) (l none))) (l none)) (l none) else cl (r45).dflt (M45 (x.2.1.2.2.1, ((u13.1.1, (u13.1.2.1, ())), ()))) (fun u59 => bif (!u59.1) then l (some (false, ())) else onExit (L15x0 ((), ((), (((x.1.1.n : Nat) : Int), (x.2.1, (u13.1, ()))))) ((0 : Int), ())) 0 (fun u60 => cl (r19).dflt (M19 ()) (fun u61 => l (some u61)) (l none)) (onRet (L15x0 ((), ((), (((x.1.1.n : Nat) : Int), (x.2.1, (u13.1, ()))))) ((0 : Int), ())) (fun u62 => l (some u62)) (l none))) (l none)) (l none)) (l none)) (l none) else cl (r62).dflt (M62 (u15.1, (x.2.2.1, (x.2.2.2.1, ())))) (fun u63 => bif (!(decide (u63.1 = (u13.1.2.2.1.g (Int.toNat x.2.2.1)).1))) then l (some (false, ())) else bif (!u12.1) then cl (r19).dflt (M19 ()) (fun u64 => l (some u64)) (l none) else cl (r61).dflt (M61 (x.2.1, (u14.1, ()))) (fun u65 => bif u65.1 then l (some (false, ())) else cl (r62).dflt (M62 (x.2.1, (x.2.2.1, (x.2.2.2.1, ())))) (fun u66 => bif (decide (u66.1 = (u13.1.2.2.1.g (Int.toNat x.2.2.1)).1)) then cl (r61).dflt (M61 (x.2.1, (u15.1, ()))) (fun u67 => bif u67.1 then l (some (false, ())) else cl (r45).dflt (M45 (x.2.1.2.2.1, ((u13.1.1, (u13.1.2.1, ())), ()))) (fun u68 => bif (!u68.1) then l (some (false, ())) else onExit (L15x0 ((), ((), (((x.1.1.n : Nat) : Int), (x.2.1, (u13.1, ()))))) ((0 : Int), ())) 0 (fun u69 => cl (r19).dflt (M19 ()) (fun u70 => l (some u70)) (l none)) (onRet (L15x0 ((), ((), (((x.1.1.n : Nat) : Int), (x.2.1, (u13.1, ()))))) ((0 : Int), ())) (fun u71 => l (some u71)) (l none))) (l none)) (l none) else cl (r45).dflt (M45 (x.2.1.2.2.1, ((u13.1.1, (u13.1.2.1, ())), ()))) (fun u72 => bif (!u72.1) then l (some (false, ())) else onExit (L15x0 ((), ((), (((x.1.1.n : Nat) : Int), (x.2.1, (u13.1, ()))))) ((0 : Int), ())) 0 (fun u73 => cl (r19).dflt (M19 ()) (fun u74 => l (some u74)) (l none)) (onRet (L15x0 ((), ((), (((x.1.1.n : Nat) : Int), (x.2.1, (u13.1, ()))))) ((0 : Int), ())) (fun u75 => l (some u75)) (l none))) (l none)) (l none)) (l none)) (l none) else l none) (l none)) (l none)) (l none)) (l none)) (l none)) (l none)) (l none) else bif (!(decide (u13.2.1 = (0 : Int)))) then bif (!u12.1) then cl (r19).dflt (M19 ()) (fun u76 => l (some u76)) (l none) else l (some (false, ())) else bif (!(decide (((u13.1.2.2.1.n : Nat) : Int) = ((x.1.1.n : Nat) : Int)))) then l (some (false, ())) else bif (!(decide (((u13.1.2.2.2.1.n : Nat) : Int) = ((x.1.1.n : Nat) : Int)))) then l (some (false, ())) else cl (r56).dflt (M56 (u14.1, ())) (fun u77 => bif (!u77.1) then l (some (false, ())) else cl (r56).dflt (M56 (u15.1, ())) (fun u78 => bif (!u78.1) then l (some (false, ())) else cl (r57).dflt (M57 (x.1, (u14.1, ()))) (fun u79 => bif (!u79.1) then l (some (false, ())) else cl (r57).dflt (M57 (x.1, (u15.1, ()))) (fun u80 => bif (!u80.1) then l (some (false, ())) else cl (r60).dflt (M60 (x.1, (u14.1, ()))) (fun u81 => cl (r60).dflt (M60 (x.1, (u15.1, ()))) (fun u82 => bif (!(decide (u81.2.1 = (0 : Int)))) then l (some (false, ())) else bif (!(decide (u82.2.1 = (0 : Int)))) then l (some (false, ())) else bif (!u81.1) then l (some (false, ())) else bif (!u82.1) then l (some (false, ())) else cl (r61).dflt (M61 (u15.1, (u14.1, ()))) (fun u83 => bif u83.1 then l (some (false, ())) else bif (decide (((0 : Int) ≤ x.2.2.1) ∧ (x.2.2.1 < ((u13.1.2.2.1.n : Nat) : Int)))) then bif x.2.2.2.1 then bif (decide (((0 : Int) ≤ x.2.2.1) ∧ (x.2.2.1 < ((u13.1.2.2.2.1.n : Nat) : Int)))) then bif x.2.2.2.2.1 then cl (r62).dflt (M62 (u15.1, (x.2.2.1, (x.2.2.2.1, ())))) (fun u84 => bif (!(decide (u84.1 = (u13.1.2.2.2.1.g (Int.toNat x.2.2.1)).2.1))) then l (some (false, ())) else bif (!u12.1) then cl (r19).dflt (M19 ()) (fun u85 => l (some u85)) (l none) else cl (r61).dflt (M61 (x.2.1, (u14.1, ()))) (fun u86 => bif u86.1 then l (some (false, ())) else cl (r62).dflt (M62 (x.2.1, (x.2.2.1, (x.2.2.2.1, ())))) (fun u87 => bif (decide (u87.1 = (u13.1.2.2.2.1.g (Int.toNat x.2.2.1)).2.1)) then cl (r61).dflt (M61 (x.2.1, (u15.1, ()))) (fun u88 => bif u88.1 then l (some (false, ())) else cl (r45).dflt (M45 (x.2.1.2.2.1, ((u13.1.1, (u13.1.2.1, ())), ()))) (fun u89 => bif (!u89.1) then l (some (false, ())) else onExit (L15x0 ((), ((), (((x.1.1.n : Nat) : Int), (x.2.1, (u13.1, ()))))) ((0 : Int), ())) 0 (fun u90 => cl (r19).dflt (M19 ()) (fun u91 => l (some u91)) (l none)) (onRet (L15x0 ((), ((), (((x.1.1.n : Nat) : Int), (x.2.1, (u13.1, ()))))) ((0 : Int), ())) (fun u92 => l (some u92)) (l none))) (l none)) (l none) else cl (r45).dflt (M45 (x.2.1.2.2.1, ((u13.1.1, (u13.1.2.1, ())), ()))) (fun u93 => bif (!u93.1) then l (some (false, ())) else onExit (L15x0 ((), ((), (((x.1.1.n : Nat) : Int), (x.2.1, (u13.1, ()))))) ((0 : Int), ())) 0 (fun u94 => cl (r19).dflt (M19 ()) (fun u95 => l (some u95)) (l none)) (onRet (L15x0 ((), ((), (((x.1.1.n : Nat) : Int), (x.2.1, (u13.1, ()))))) ((0 : Int), ())) (fun u96 => l (some u96)) (l none))) (l none)) (l none)) (l none)) (l none) else cl (r62).dflt (M62 (u15.1, (x.2.2.1, (x.2.2.2.1, ())))) (fun u97 => bif (!(decide (u97.1 = (u13.1.2.2.2.1.g (Int.toNat x.2.2.1)).1))) then l (some (false, ())) else bif (!u12.1) then cl (r19).dflt (M19 ()) (fun u98 => l (some u98)) (l none) else cl (r61).dflt (M61 (x.2.1, (u14.1, ()))) (fun u99 => bif u99.1 then l (some (false, ())) else cl (r62).dflt (M62 (x.2.1, (x.2.2.1, (x.2.2.2.1, ())))) (fun u100 => bif (decide (u100.1 = (u13.1.2.2.2.1.g (Int.toNat x.2.2.1)).1)) then cl (r61).dflt (M61 (x.2.1, (u15.1, ()))) (fun u101 => bif u101.1 then l (some (false, ())) else cl (r45).dflt (M45 (x.2.1.2.2.1, ((u13.1.1, (u13.1.2.1, ())), ()))) (fun u102 => bif (!u102.1) then l (some (false, ())) else onExit (L15x0 ((), ((), (((x.1.1.n : Nat) : Int), (x.2.1, (u13.1, ()))))) ((0 : Int), ())) 0 (fun u103 => cl (r19).dflt (M19 ()) (fun u104 => l (some u104)) (l none)) (onRet (L15x0 ((), ((), (((x.1.1.n : Nat) : Int), (x.2.1, (u13.1, ()))))) ((0 : Int), ())) (fun u105 => l (some u105)) (l none))) (l none)) (l none) else cl (r45).dflt (M45 (x.2.1.2.2.1, ((u13.1.1, (u13.1.2.1, ())), ()))) (fun u106 => bif (!u106.1) then l (some (false, ())) else onExit (L15x0 ((), ((), (((x.1.1.n : Nat) : Int), (x.2.1, (u13.1, ()))))) ((0 : Int), ())) 0 (fun u107 => cl (r19).dflt (M19 ()) (fun u108 => l (some u108)) (l none)) (onRet (L15x0 ((), ((), (((x.1.1.n : Nat) : Int), (x.2.1, (u13.1, ()))))) ((0 : Int), ())) (fun u109 => l (some u109)) (l none))) (l none)) (l none)) (l none)) (l none) else l none else bif x.2.2.2.2.1 then cl (r62).dflt (M62 (u15.1, (x.2.2.1, (x.2.2.2.1, ())))) (fun u110 => bif (!(decide (u110.1 = (u13.1.2.2.1.g (Int.toNat x.2.2.1)).2.1))) then l (some (false, ())) else bif (!u12.1) then cl (r19).dflt (M19 ()) (fun u111 => l (some u111)) (l none) else cl (r61).dflt (M61 (x.2.1, (u14.1, ()))) (fun u112 => bif u112.1 then l (some (false, ())) else cl (r62).dflt (M62 (x.2.1, (x.2.2.1, (x.2.2.2.1, ())))) (fun u113 => bif (decide (u113.1 = (u13.1.2.2.1.g (Int.toNat x.2.2.1)).2.1)) then cl (r61).dflt (M61 (x.2.1, (u15.1, ()))) (fun u114 => bif u114.1 then l (some (false, ())) else cl (r45).dflt (M45 (x.2.1.2.2.1, ((u13.1.1, (u13.1.2.1, ())), ()))) (fun u115 => bif (!u115.1) then l (some (false, ())) else onExit (L15x0 ((), ((), (((x.1.1.n : Nat) : Int), (x.2.1, (u13.1, ()))))) ((0 : Int), ())) 0 (fun u116 => cl (r19).dflt (M19 ()) (fun u117 => l (some u117)) (l none)) (onRet (L15x0 ((), ((), (((x.1.1.n : Nat) : Int), (x.2.1, (u13.1, ()))))) ((0 : Int), ())) (fun u118 => l (some u118)) (l none))) (l none)) (l none) else cl (r45).dflt (M45 (x.2.1.2.2.1, ((u13.1.1, (u13.1.2.1, ())), ()))) (fun u119 => bif (!u119.1) then l (some (false, ())) else onExit (L15x0 ((), ((), (((x.1.1.n : Nat) : Int), (x.2.1, (u13.1, ()))))) ((0 : Int), ())) 0 (fun u120 => cl (r19).dflt (M19 ()) (fun u121 => l (some u121)) (l none)) (onRet (L15x0 ((), ((), (((x.1.1.n : Nat) : Int), (x.2.1, (u13.1, ()))))) ((0 : Int), ())) (fun u122 => l (some u122)) (l none))) (l none)) (l none)) (l none)) (l none) else cl (r62).dflt (M62 (u15.1, (x.2.2.1, (x.2.2.2.1, ())))) (fun u123 => bif (!(decide (u123.1 = (u13.1.2.2.1.g (Int.toNat x.2.2.1)).1))) then l (some (false, ())) else bif (!u12.1) then cl (r19).dflt (M19 ()) (fun u124 => l (some u124)) (l none) else cl (r61).dflt (M61 (x.2.1, (u14.1, ()))) (fun u125 => bif u125.1 then l (some (false, ())) else cl (r62).dflt (M62 (x.2.1, (x.2.2.1, (x.2.2.2.1, ())))) (fun u126 => bif (decide (u126.1 = (u13.1.2.2.1.g (Int.toNat x.2.2.1)).1)) then cl (r61).dflt (M61 (x.2.1, (u15.1, ()))) (fun u127 => bif u127.1 then l (some (false, ())) else cl (r45).dflt (M45 (x.2.1.2.2.1, ((u13.1.1, (u13.1.2.1, ())), ()))) (fun u128 => bif (!u128.1) then l (some (false, ())) else onExit (L15x0 ((), ((), (((x.1.1.n : Nat) : Int), (x.2.1, (u13.1, ()))))) ((0 : Int), ())) 0 (fun u129 => cl (r19).dflt (M19 ()) (fun u130 => l (some u130)) (l none)) (onRet (L15x0 ((), ((), (((x.1.1.n : Nat) : Int), (x.2.1, (u13.1, ()))))) ((0 : Int), ())) (fun u131 => l (some u131)) (l none))) (l none)) (l none) else cl (r45).dflt (M45 (x.2.1.2.2.1, ((u13.1.1, (u13.1.2.1, ())), ()))) (fun u132 => bif (!u132.1) then l (some (false, ())) else onExit (L15x0 ((), ((), (((x.1.1.n : Nat) : Int), (x.2.1, (u13.1, ()))))) ((0 : Int), ())) 0 (fun u133 => cl (r19).dflt (M19 ()) (fun u134 => l (some u134)) (l none)) (onRet (L15x0 ((), ((), (((x.1.1.n : Nat) : Int), (x.2.1, (u13.1, ()))))) ((0 : Int), ())) (fun u135 => l (some u135)) (l none))) (l none)) (l none)) (l none)) (l none) else l none) (l none)) (l none)) (l none)) (l none)) (l none)) (l none)) (l none)) (l none)) (l none)) (l none)) (l none)) (l none)) (l none)) (l none)) (l none)) (l none)
theorem q15 (x : (a15).den) : runFn Try.prog E0 G15 Try.f15 l15 a15 r15 x = Q15 .leaf .any x := by kernel_rfl
def M15 (x : (a15).den) : Option (r15).den := Q15 (fun r => r) (fun _ _ => none) x
theorem m15 (x : (a15).den) : (runFn Try.prog E0 G15 Try.f15 l15 a15 r15 x).sure = M15 x := by rw [q15]; unfold M15 Q15; simp only [sure_cond, Tree.sure, sure_cl, sure_onExit, sure_onRet, sure_onPanL, sure_onNext, sure_onBrk, sure_onRetO, sure_onPan, sure_onOk, sure_onGPan]
def p15 (x : (a15).den) : Bool := (M15 x).isSome
def v15 (x : (a15).den) : (r15).den := (M15 x).getD (r15).dflt
def k15 : Con := ⟨a15, r15, p15, v15⟩
theorem h15 : Holds Try.prog 15 k15 := holds_of_M' (E := E0) follows_ok g15 eqTy_sound keyTy_sound at15 bd15 (by kernel_rfl) m15 fun G' hlo hF hE => LsOK_kn (by rw [lo15]; exact .cons (loopV_ok hE hF hlo (LsOK_kn (by rw [lo15x0]; exact .nil)) (by kernel_rfl) (by kernel_rfl) sp15x0 (fun _ => rfl) (fun _ _ => rfl) (s15x0) big) (.nil))
abbrev T139 : Ty := (.cons T39 T1)
abbrev T140 : Ty := (.cons T11 T139)
abbrev T141 : Ty := (.cons T42 T140)

end Go.Dm

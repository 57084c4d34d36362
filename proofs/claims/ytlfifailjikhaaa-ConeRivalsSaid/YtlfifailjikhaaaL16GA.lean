/-
  Each function of the program as a Lean function, and that its calls come to what that says.
-/
import Derived.Test.YtlfifailjikhaaaFwD
import Derived.Test.YtlfifailjikhaaaProg
set_option linter.unusedVariables false
set_option linter.unusedSimpArgs false
namespace Go.Dm
open Go.RowKit Go.Proofs
noncomputable def E0 : TCtx := { eq := eqTy Try.prog, key := keyTy Try.prog, dfr := true }
abbrev tI : Ty := .int .i64
theorem follows_ok : Try.prog.follows .mixedOrders = true := by kernel_rfl
set_option maxRecDepth 100000
abbrev tII : Ty := .cons tI (.cons tI .nil)
abbrev tL : Ty := .sl (.cons tI .nil)
abbrev tL1 : Ty := .cons tI .nil
abbrev tR : Ty := .cons tI (.cons tI (.cons tI (.cons tI (.cons tI (.cons tI (.cons tI .nil))))))
abbrev tK : Ty := .cons tI (.cons tI (.cons tI .nil))
abbrev tP : Ty := .cons tI (.cons tI (.cons tI (.cons tI .nil)))
abbrev tW : Ty := .cons tI (.cons (.sl tR) (.cons (.sl tK) (.cons (.sl tP) (.cons tI (.cons tI (.cons tI (.cons tI (.cons tI .nil))))))))
abbrev tX : Ty := .cons tI (.cons (.sl tR) (.cons (.sl tK) (.cons (.sl tP) (.cons tI (.cons tI (.cons tI (.cons tI (.cons tI (.cons (.map (.agg tII) .bool) .nil)))))))))
/-- isobar/cone.in -/
noncomputable def c63 : Code := Try.f63.body.getD .skip
theorem at63 : Try.prog.funcs[63]? = some Try.f63 := by kernel_rfl
theorem bd63 : Try.f63.body = some c63 := by kernel_rfl
theorem cl63 : Callable Try.prog 63 := callable_of at63 (by kernel_rfl) (by kernel_rfl)
abbrev T0 : Ty := (.cons tI .nil)
abbrev T1 : Ty := (.cons tI T0)
abbrev T2 : Ty := (.cons tI T1)
abbrev T3 : Ty := (.cons .bool .nil)
abbrev a63 : Ty := T2
abbrev r63 : Ty := T3
noncomputable def G63 : Ctx := Ctx.of []
theorem g63 : Sound Try.prog (G63) := sound_of (fun _ h => by cases h)
theorem lo63 : loopsOf (c63) = [] := by kernel_rfl
noncomputable def l63 : List Loop := []
def Q63 {α : Type} (l : Option (r63).den → α) (an : α → α → α) (x : (a63).den) : α := bif (decide (x.2.1 ≤ x.1)) then l (some ((decide (x.1 ≤ x.2.2.1)), ())) else l (some (false, ()))
theorem q63 (x : (a63).den) : runFn Try.prog E0 G63 Try.f63 l63 a63 r63 x = Q63 .leaf .any x := by kernel_rfl
def M63 (x : (a63).den) : Option (r63).den := Q63 (fun r => r) (fun _ _ => none) x
theorem m63 (x : (a63).den) : (runFn Try.prog E0 G63 Try.f63 l63 a63 r63 x).sure = M63 x := by rw [q63]; unfold M63 Q63; simp only [sure_cond, Tree.sure, sure_cl, sure_onExit, sure_onRet, sure_onPanL, sure_onNext, sure_onBrk, sure_onRetO, sure_onPan, sure_onOk, sure_onGPan]
def p63 (x : (a63).den) : Bool := (M63 x).isSome
def v63 (x : (a63).den) : (r63).den := (M63 x).getD (r63).dflt
def k63 : Con := ⟨a63, r63, p63, v63⟩
theorem h63 : Holds Try.prog 63 k63 := holds_of_M' (E := E0) follows_ok g63 eqTy_sound keyTy_sound at63 bd63 (by kernel_rfl) m63 fun G' hlo hF hE => LsOK_kn (by rw [lo63]; exact .nil)
/-- slices.IndexFunc[[]isobar/api.ConeReport,isobar/api.ConeReport] -/
noncomputable def c107 : Code := Try.f107.body.getD .skip
theorem at107 : Try.prog.funcs[107]? = some Try.f107 := by kernel_rfl
theorem bd107 : Try.f107.body = some c107 := by kernel_rfl
theorem cl107 : Callable Try.prog 107 := callable_of at107 (by kernel_rfl) (by kernel_rfl)
abbrev T4 : Ty := (.cons tI T2)
abbrev T5 : Ty := (.cons tI T4)
abbrev T6 : Ty := (.cons tI T5)
abbrev T7 : Ty := (.cons tI T6)
abbrev T8 : Ty := (.agg T7)
abbrev T9 : Ty := (.cons T8 .nil)
abbrev T10 : Ty := (.fn T9 T3)
abbrev T11 : Ty := (.cons T10 .nil)
abbrev T12 : Ty := (.cons (.sl T7) T11)
abbrev a107 : Ty := T12
abbrev r107 : Ty := T0
noncomputable def G107 : Ctx := Ctx.of []
theorem g107 : Sound Try.prog (G107) := sound_of (fun _ h => by cases h)
noncomputable def b107x0 : Code := loopBody ((loopsOf (c107))[0]?)
theorem lo107x0 : loopsOf (b107x0) = [] := by kernel_rfl
abbrev cs107x0 : List Pat := [.slot 0 (.pc (.sl T7)), .slot 1 (.pc T10), .slot 7 (.pc tI)]
abbrev vs107x0 : List Pat := [.slot 8 (.pc tI)]
abbrev ps107x0 : List Pat := [.slot 0 (.pc (.sl T7)), .slot 1 (.pc T10), .slot 7 (.pc tI), .slot 8 (.pc tI)]
def j107x0 : (patsTy cs107x0).den → (patsTy vs107x0).den → (patsTy ps107x0).den := fun c v => (c.1, (c.2.1, (c.2.2.1, v)))
def sp107x0 : (patsTy ps107x0).den → (patsTy cs107x0).den × (patsTy vs107x0).den := fun x => ((x.1, (x.2.1, (x.2.2.1, ()))), x.2.2.2)
abbrev wy107x0 : Ways := ⟨[(0, [])], [.slot 4 (.pc tI)], []⟩
abbrev wv107x0 : Ways := ⟨[(0, [])], [.slot 4 (.pc tI)], []⟩
def je107x0 : (id : Nat) → (patsTy cs107x0).den → (patsTy (wayP wv107x0 id)).den → (patsTy (wayP wy107x0 id)).den := fun id => match id with | 0 => fun c y => y | id => fun _ _ => (patsTy (wayP wy107x0 id)).dflt
def jr107x0 : (patsTy cs107x0).den → (patsTy (wv107x0).ret).den → (patsTy (wy107x0).ret).den := fun c y => y
def jp107x0 : (patsTy cs107x0).den → (patsTy (wv107x0).pan).den → (patsTy (wy107x0).pan).den := fun c y => y
def Z107x0 {α : Type} (l : RQ vs107x0 wv107x0 → α) (an : α → α → α) (c : (patsTy cs107x0).den) (v : (patsTy vs107x0).den) : α := bif (decide (v.1 < c.2.2.1)) then bif (decide (((0 : Int) ≤ v.1) ∧ (v.1 < ((c.1.n : Nat) : Int)))) then bif (c.2.1 ((c.1.g (Int.toNat v.1)), ())).1 then bif (c.2.1 ((c.1.g (Int.toNat v.1)), ())).2.1 then l (.out (.ret v)) else l (.next ((W (v.1 + (1 : Int))), ())) else l .bad else l .bad else l (.out (.exit 0 ()))
theorem z107x0 (c : (patsTy cs107x0).den) (v : (patsTy vs107x0).den) : roundQ Try.prog E0 G107 0 19 [] ps107x0 wy107x0 b107x0 [] (j107x0 c v) = Z107x0 (fun r => .leaf (r.lift j107x0 je107x0 jr107x0 jp107x0 c)) .any c v := by kernel_rfl
def S107x0 (c : (patsTy cs107x0).den) (v : (patsTy vs107x0).den) : RQ vs107x0 wv107x0 := Z107x0 (fun r => r) (fun _ _ => .bad) c v
theorem s107x0 (c : (patsTy cs107x0).den) (v : (patsTy vs107x0).den) : detQ (roundQ Try.prog E0 G107 0 19 [] ps107x0 wy107x0 b107x0 [] (j107x0 c v)) = (S107x0 c v).lift j107x0 je107x0 jr107x0 jp107x0 c := by rw [z107x0]; unfold S107x0 Z107x0; simp only [detQ_cond, lift_cond, lift_bad, detQ, detQ_cl, detQ_onExit, detQ_onRet, detQ_onPanL, detQ_onNext, detQ_onBrk, detQ_onRetO, detQ_onPan, detQ_onOk, detQ_onGPan, lift_cl, lift_onExit, lift_onRet, lift_onPanL, lift_onNext, lift_onBrk, lift_onRetO, lift_onPan, lift_onOk, lift_onGPan]
def L107x0 (c : (patsTy cs107x0).den) (v : (patsTy vs107x0).den) : LQ wv107x0 := iterQ (S107x0 c) big v
theorem lo107 : loopsOf (c107) = [.loop b107x0] := by kernel_rfl
noncomputable def l107 : List Loop := [.known (loopZ 0 [] ps107x0 fun x => spreadV wy107x0 je107x0 jr107x0 jp107x0 [] true (sp107x0 x).1 (L107x0 (sp107x0 x).1 (sp107x0 x).2) wy107x0.exits)]
def Q107 {α : Type} (l : Option (r107).den → α) (an : α → α → α) (x : (a107).den) : α := onExit (L107x0 (x.1, (x.2.1, (((x.1.n : Nat) : Int), ()))) ((0 : Int), ())) 0 (fun u0 => l (some ((-1 : Int), ()))) (onRet (L107x0 (x.1, (x.2.1, (((x.1.n : Nat) : Int), ()))) ((0 : Int), ())) (fun u1 => l (some u1)) (l none))
theorem q107 (x : (a107).den) : runFn Try.prog E0 G107 Try.f107 l107 a107 r107 x = Q107 .leaf .any x := by kernel_rfl
def M107 (x : (a107).den) : Option (r107).den := Q107 (fun r => r) (fun _ _ => none) x
theorem m107 (x : (a107).den) : (runFn Try.prog E0 G107 Try.f107 l107 a107 r107 x).sure = M107 x := by rw [q107]; unfold M107 Q107; simp only [sure_cond, Tree.sure, sure_cl, sure_onExit, sure_onRet, sure_onPanL, sure_onNext, sure_onBrk, sure_onRetO, sure_onPan, sure_onOk, sure_onGPan]
def p107 (x : (a107).den) : Bool := (M107 x).isSome
def v107 (x : (a107).den) : (r107).den := (M107 x).getD (r107).dflt
def k107 : Con := ⟨a107, r107, p107, v107⟩
theorem h107 : Holds Try.prog 107 k107 := holds_of_M' (E := E0) follows_ok g107 eqTy_sound keyTy_sound at107 bd107 (by kernel_rfl) m107 fun G' hlo hF hE => LsOK_kn (by rw [lo107]; exact .cons (loopV_ok hE hF hlo (LsOK_kn (by rw [lo107x0]; exact .nil)) (by kernel_rfl) (by kernel_rfl) sp107x0 (fun _ => rfl) (fun _ _ => rfl) (s107x0) big) (.nil))
/-- slices.ContainsFunc[[]isobar/api.ConeReport,isobar/api.ConeReport] -/
noncomputable def c83 : Code := Try.f83.body.getD .skip
theorem at83 : Try.prog.funcs[83]? = some Try.f83 := by kernel_rfl
theorem bd83 : Try.f83.body = some c83 := by kernel_rfl
theorem cl83 : Callable Try.prog 83 := callable_of at83 (by kernel_rfl) (by kernel_rfl)
abbrev a83 : Ty := T12
abbrev r83 : Ty := T3
noncomputable def G83 : Ctx := Ctx.of [(107, .pure k107)]
theorem g83 : Sound Try.prog (G83) := sound_of (List.forall_mem_cons.2 ⟨⟨cl107, h107⟩, fun _ h => by cases h⟩)
theorem lo83 : loopsOf (c83) = [] := by kernel_rfl
noncomputable def l83 : List Loop := []
def Q83 {α : Type} (l : Option (r83).den → α) (an : α → α → α) (x : (a83).den) : α := cl (r107).dflt (M107 x) (fun u0 => l (some ((decide ((0 : Int) ≤ u0.1)), ()))) (l none)
theorem q83 (x : (a83).den) : runFn Try.prog E0 G83 Try.f83 l83 a83 r83 x = Q83 .leaf .any x := by kernel_rfl
def M83 (x : (a83).den) : Option (r83).den := Q83 (fun r => r) (fun _ _ => none) x
theorem m83 (x : (a83).den) : (runFn Try.prog E0 G83 Try.f83 l83 a83 r83 x).sure = M83 x := by rw [q83]; unfold M83 Q83; simp only [sure_cond, Tree.sure, sure_cl, sure_onExit, sure_onRet, sure_onPanL, sure_onNext, sure_onBrk, sure_onRetO, sure_onPan, sure_onOk, sure_onGPan]
def p83 (x : (a83).den) : Bool := (M83 x).isSome
def v83 (x : (a83).den) : (r83).den := (M83 x).getD (r83).dflt
def k83 : Con := ⟨a83, r83, p83, v83⟩
theorem h83 : Holds Try.prog 83 k83 := holds_of_M' (E := E0) follows_ok g83 eqTy_sound keyTy_sound at83 bd83 (by kernel_rfl) m83 fun G' hlo hF hE => LsOK_kn (by rw [lo83]; exact .nil)
/-- isobar/cone.span -/
noncomputable def c67 : Code := Try.f67.body.getD .skip
theorem at67 : Try.prog.funcs[67]? = some Try.f67 := by kernel_rfl
theorem bd67 : Try.f67.body = some c67 := by kernel_rfl
theorem cl67 : Callable Try.prog 67 := callable_of at67 (by kernel_rfl) (by kernel_rfl)
abbrev T13 : Ty := (.agg T1)
abbrev T14 : Ty := (.cons T13 T0)
abbrev a67 : Ty := T14
abbrev r67 : Ty := T3
noncomputable def G67 : Ctx := Ctx.of []
theorem g67 : Sound Try.prog (G67) := sound_of (fun _ h => by cases h)
theorem lo67 : loopsOf (c67) = [] := by kernel_rfl
noncomputable def l67 : List Loop := []
def Q67 {α : Type} (l : Option (r67).den → α) (an : α → α → α) (x : (a67).den) : α := bif (decide ((0 : Int) ≤ x.1.1)) then bif (decide (x.1.1 ≤ x.1.2.1)) then l (some ((decide (x.1.2.1 ≤ x.2.1)), ())) else l (some (false, ())) else l (some (false, ()))
theorem q67 (x : (a67).den) : runFn Try.prog E0 G67 Try.f67 l67 a67 r67 x = Q67 .leaf .any x := by kernel_rfl
def M67 (x : (a67).den) : Option (r67).den := Q67 (fun r => r) (fun _ _ => none) x
theorem m67 (x : (a67).den) : (runFn Try.prog E0 G67 Try.f67 l67 a67 r67 x).sure = M67 x := by rw [q67]; unfold M67 Q67; simp only [sure_cond, Tree.sure, sure_cl, sure_onExit, sure_onRet, sure_onPanL, sure_onNext, sure_onBrk, sure_onRetO, sure_onPan, sure_onOk, sure_onGPan]
def p67 (x : (a67).den) : Bool := (M67 x).isSome
def v67 (x : (a67).den) : (r67).den := (M67 x).getD (r67).dflt
def k67 : Con := ⟨a67, r67, p67, v67⟩
theorem h67 : Holds Try.prog 67 k67 := holds_of_M' (E := E0) follows_ok g67 eqTy_sound keyTy_sound at67 bd67 (by kernel_rfl) m67 fun G' hlo hF hE => LsOK_kn (by rw [lo67]; exact .nil)
/-- isobar/cone.validReport -/
noncomputable def c85 : Code := Try.f85.body.getD .skip
theorem at85 : Try.prog.funcs[85]? = some Try.f85 := by kernel_rfl
theorem bd85 : Try.f85.body = some c85 := by kernel_rfl
theorem cl85 : Callable Try.prog 85 := callable_of at85 (by kernel_rfl) (by kernel_rfl)
abbrev T15 : Ty := (.cons (.sl T4) T5)
abbrev T16 : Ty := (.cons (.sl T2) T15)
abbrev T17 : Ty := (.cons (.sl T7) T16)
abbrev T18 : Ty := (.cons tI T17)
abbrev T19 : Ty := (.agg T18)
abbrev T20 : Ty := (.cons T19 T9)
abbrev a85 : Ty := T20
abbrev r85 : Ty := T3
noncomputable def G85 : Ctx := Ctx.of [(63, .pure k63), (67, .pure k67)]
theorem g85 : Sound Try.prog (G85) := sound_of (List.forall_mem_cons.2 ⟨⟨cl63, h63⟩, List.forall_mem_cons.2 ⟨⟨cl67, h67⟩, fun _ h => by cases h⟩⟩)
theorem lo85 : loopsOf (c85) = [] := by kernel_rfl
noncomputable def l85 : List Loop := []
def Q85 {α : Type} (l : Option (r85).den → α) (an : α → α → α) (x : (a85).den) : α := cl (r63).dflt (M63 (x.2.1.1, ((0 : Int), ((W (x.1.1 - (1 : Int))), ())))) (fun u0 => bif u0.1 then cl (r63).dflt (M63 (x.2.1.2.1, ((0 : Int), ((10080 : Int), ())))) (fun u1 => bif u1.1 then cl (r63).dflt (M63 (x.2.1.2.2.1, ((0 : Int), ((99999 : Int), ())))) (fun u2 => bif u2.1 then cl (r67).dflt (M67 ((x.2.1.2.2.2.1, (x.2.1.2.2.2.2.1, ())), ((2880 : Int), ()))) (fun u3 => bif u3.1 then cl (r63).dflt (M63 (x.2.1.2.2.2.2.2.1, ((0 : Int), ((2880 : Int), ())))) (fun u4 => bif u4.1 then cl (r63).dflt (M63 (x.2.1.2.2.2.2.2.2.1, ((0 : Int), ((10000 : Int), ())))) (fun u5 => l (some u5)) (l none) else l (some (false, ()))) (l none) else l (some (false, ()))) (l none) else l (some (false, ()))) (l none) else l (some (false, ()))) (l none) else l (some (false, ()))) (l none)
theorem q85 (x : (a85).den) : runFn Try.prog E0 G85 Try.f85 l85 a85 r85 x = Q85 .leaf .any x := by kernel_rfl
def M85 (x : (a85).den) : Option (r85).den := Q85 (fun r => r) (fun _ _ => none) x
theorem m85 (x : (a85).den) : (runFn Try.prog E0 G85 Try.f85 l85 a85 r85 x).sure = M85 x := by rw [q85]; unfold M85 Q85; simp only [sure_cond, Tree.sure, sure_cl, sure_onExit, sure_onRet, sure_onPanL, sure_onNext, sure_onBrk, sure_onRetO, sure_onPan, sure_onOk, sure_onGPan]
def p85 (x : (a85).den) : Bool := (M85 x).isSome
def v85 (x : (a85).den) : (r85).den := (M85 x).getD (r85).dflt
def k85 : Con := ⟨a85, r85, p85, v85⟩
theorem h85 : Holds Try.prog 85 k85 := holds_of_M' (E := E0) follows_ok g85 eqTy_sound keyTy_sound at85 bd85 (by kernel_rfl) m85 fun G' hlo hF hE => LsOK_kn (by rw [lo85]; exact .nil)
/-- isobar/cone.valid$1 -/
noncomputable def c84 : Code := Try.f84.body.getD .skip
theorem at84 : Try.prog.funcs[84]? = some Try.f84 := by kernel_rfl
theorem bd84 : Try.f84.body = some c84 := by kernel_rfl
theorem cl84 : Callable Try.prog 84 := callable_of at84 (by kernel_rfl) (by kernel_rfl)
abbrev T21 : Ty := (.ptr T18)
abbrev T22 : Ty := (.cons T21 .nil)
abbrev T23 : Ty := (.cons T8 T22)
abbrev a84 : Ty := T23
abbrev r84 : Ty := T3
noncomputable def G84 : Ctx := Ctx.of [(85, .pure k85)]
theorem g84 : Sound Try.prog (G84) := sound_of (List.forall_mem_cons.2 ⟨⟨cl85, h85⟩, fun _ h => by cases h⟩)
theorem lo84 : loopsOf (c84) = [] := by kernel_rfl
noncomputable def l84 : List Loop := []
def Q84 {α : Type} (l : Option (r84).den → α) (an : α → α → α) (x : (a84).den) : α := cl (r85).dflt (M85 (x.2.1, (x.1, ()))) (fun u0 => l (some ((!u0.1), ()))) (l none)
theorem q84 (x : (a84).den) : runFn Try.prog E0 G84 Try.f84 l84 a84 r84 x = Q84 .leaf .any x := by kernel_rfl
def M84 (x : (a84).den) : Option (r84).den := Q84 (fun r => r) (fun _ _ => none) x
theorem m84 (x : (a84).den) : (runFn Try.prog E0 G84 Try.f84 l84 a84 r84 x).sure = M84 x := by rw [q84]; unfold M84 Q84; simp only [sure_cond, Tree.sure, sure_cl, sure_onExit, sure_onRet, sure_onPanL, sure_onNext, sure_onBrk, sure_onRetO, sure_onPan, sure_onOk, sure_onGPan]
def p84 (x : (a84).den) : Bool := (M84 x).isSome
def v84 (x : (a84).den) : (r84).den := (M84 x).getD (r84).dflt
def k84 : Con := ⟨a84, r84, p84, v84⟩
theorem h84 : Holds Try.prog 84 k84 := holds_of_M' (E := E0) follows_ok g84 eqTy_sound keyTy_sound at84 bd84 (by kernel_rfl) m84 fun G' hlo hF hE => LsOK_kn (by rw [lo84]; exact .nil)
/-- slices.IndexFunc[[]isobar/api.ConeLink,isobar/api.ConeLink] -/
noncomputable def c108 : Code := Try.f108.body.getD .skip
theorem at108 : Try.prog.funcs[108]? = some Try.f108 := by kernel_rfl
theorem bd108 : Try.f108.body = some c108 := by kernel_rfl
theorem cl108 : Callable Try.prog 108 := callable_of at108 (by kernel_rfl) (by kernel_rfl)
abbrev T24 : Ty := (.agg T2)
abbrev T25 : Ty := (.cons T24 .nil)
abbrev T26 : Ty := (.fn T25 T3)
abbrev T27 : Ty := (.cons T26 .nil)
abbrev T28 : Ty := (.cons (.sl T2) T27)
abbrev a108 : Ty := T28
abbrev r108 : Ty := T0
noncomputable def G108 : Ctx := Ctx.of []
theorem g108 : Sound Try.prog (G108) := sound_of (fun _ h => by cases h)
noncomputable def b108x0 : Code := loopBody ((loopsOf (c108))[0]?)
theorem lo108x0 : loopsOf (b108x0) = [] := by kernel_rfl
abbrev cs108x0 : List Pat := [.slot 0 (.pc (.sl T2)), .slot 1 (.pc T26), .slot 7 (.pc tI)]
abbrev vs108x0 : List Pat := [.slot 8 (.pc tI)]
abbrev ps108x0 : List Pat := [.slot 0 (.pc (.sl T2)), .slot 1 (.pc T26), .slot 7 (.pc tI), .slot 8 (.pc tI)]
def j108x0 : (patsTy cs108x0).den → (patsTy vs108x0).den → (patsTy ps108x0).den := fun c v => (c.1, (c.2.1, (c.2.2.1, v)))
def sp108x0 : (patsTy ps108x0).den → (patsTy cs108x0).den × (patsTy vs108x0).den := fun x => ((x.1, (x.2.1, (x.2.2.1, ()))), x.2.2.2)
abbrev wy108x0 : Ways := ⟨[(0, [])], [.slot 4 (.pc tI)], []⟩
abbrev wv108x0 : Ways := ⟨[(0, [])], [.slot 4 (.pc tI)], []⟩
def je108x0 : (id : Nat) → (patsTy cs108x0).den → (patsTy (wayP wv108x0 id)).den → (patsTy (wayP wy108x0 id)).den := fun id => match id with | 0 => fun c y => y | id => fun _ _ => (patsTy (wayP wy108x0 id)).dflt
def jr108x0 : (patsTy cs108x0).den → (patsTy (wv108x0).ret).den → (patsTy (wy108x0).ret).den := fun c y => y
def jp108x0 : (patsTy cs108x0).den → (patsTy (wv108x0).pan).den → (patsTy (wy108x0).pan).den := fun c y => y
def Z108x0 {α : Type} (l : RQ vs108x0 wv108x0 → α) (an : α → α → α) (c : (patsTy cs108x0).den) (v : (patsTy vs108x0).den) : α := bif (decide (v.1 < c.2.2.1)) then bif (decide (((0 : Int) ≤ v.1) ∧ (v.1 < ((c.1.n : Nat) : Int)))) then bif (c.2.1 ((c.1.g (Int.toNat v.1)), ())).1 then bif (c.2.1 ((c.1.g (Int.toNat v.1)), ())).2.1 then l (.out (.ret v)) else l (.next ((W (v.1 + (1 : Int))), ())) else l .bad else l .bad else l (.out (.exit 0 ()))
theorem z108x0 (c : (patsTy cs108x0).den) (v : (patsTy vs108x0).den) : roundQ Try.prog E0 G108 0 19 [] ps108x0 wy108x0 b108x0 [] (j108x0 c v) = Z108x0 (fun r => .leaf (r.lift j108x0 je108x0 jr108x0 jp108x0 c)) .any c v := by kernel_rfl
def S108x0 (c : (patsTy cs108x0).den) (v : (patsTy vs108x0).den) : RQ vs108x0 wv108x0 := Z108x0 (fun r => r) (fun _ _ => .bad) c v
theorem s108x0 (c : (patsTy cs108x0).den) (v : (patsTy vs108x0).den) : detQ (roundQ Try.prog E0 G108 0 19 [] ps108x0 wy108x0 b108x0 [] (j108x0 c v)) = (S108x0 c v).lift j108x0 je108x0 jr108x0 jp108x0 c := by rw [z108x0]; unfold S108x0 Z108x0; simp only [detQ_cond, lift_cond, lift_bad, detQ, detQ_cl, detQ_onExit, detQ_onRet, detQ_onPanL, detQ_onNext, detQ_onBrk, detQ_onRetO, detQ_onPan, detQ_onOk, detQ_onGPan, lift_cl, lift_onExit, lift_onRet, lift_onPanL, lift_onNext, lift_onBrk, lift_onRetO, lift_onPan, lift_onOk, lift_onGPan]
def L108x0 (c : (patsTy cs108x0).den) (v : (patsTy vs108x0).den) : LQ wv108x0 := iterQ (S108x0 c) big v
theorem lo108 : loopsOf (c108) = [.loop b108x0] := by kernel_rfl
noncomputable def l108 : List Loop := [.known (loopZ 0 [] ps108x0 fun x => spreadV wy108x0 je108x0 jr108x0 jp108x0 [] true (sp108x0 x).1 (L108x0 (sp108x0 x).1 (sp108x0 x).2) wy108x0.exits)]
def Q108 {α : Type} (l : Option (r108).den → α) (an : α → α → α) (x : (a108).den) : α := onExit (L108x0 (x.1, (x.2.1, (((x.1.n : Nat) : Int), ()))) ((0 : Int), ())) 0 (fun u0 => l (some ((-1 : Int), ()))) (onRet (L108x0 (x.1, (x.2.1, (((x.1.n : Nat) : Int), ()))) ((0 : Int), ())) (fun u1 => l (some u1)) (l none))
theorem q108 (x : (a108).den) : runFn Try.prog E0 G108 Try.f108 l108 a108 r108 x = Q108 .leaf .any x := by kernel_rfl
def M108 (x : (a108).den) : Option (r108).den := Q108 (fun r => r) (fun _ _ => none) x
theorem m108 (x : (a108).den) : (runFn Try.prog E0 G108 Try.f108 l108 a108 r108 x).sure = M108 x := by rw [q108]; unfold M108 Q108; simp only [sure_cond, Tree.sure, sure_cl, sure_onExit, sure_onRet, sure_onPanL, sure_onNext, sure_onBrk, sure_onRetO, sure_onPan, sure_onOk, sure_onGPan]
def p108 (x : (a108).den) : Bool := (M108 x).isSome
def v108 (x : (a108).den) : (r108).den := (M108 x).getD (r108).dflt
def k108 : Con := ⟨a108, r108, p108, v108⟩
theorem h108 : Holds Try.prog 108 k108 := holds_of_M' (E := E0) follows_ok g108 eqTy_sound keyTy_sound at108 bd108 (by kernel_rfl) m108 fun G' hlo hF hE => LsOK_kn (by rw [lo108]; exact .cons (loopV_ok hE hF hlo (LsOK_kn (by rw [lo108x0]; exact .nil)) (by kernel_rfl) (by kernel_rfl) sp108x0 (fun _ => rfl) (fun _ _ => rfl) (s108x0) big) (.nil))
/-- slices.ContainsFunc[[]isobar/api.ConeLink,isobar/api.ConeLink] -/
noncomputable def c86 : Code := Try.f86.body.getD .skip
theorem at86 : Try.prog.funcs[86]? = some Try.f86 := by kernel_rfl
theorem bd86 : Try.f86.body = some c86 := by kernel_rfl
theorem cl86 : Callable Try.prog 86 := callable_of at86 (by kernel_rfl) (by kernel_rfl)
abbrev a86 : Ty := T28
abbrev r86 : Ty := T3
noncomputable def G86 : Ctx := Ctx.of [(108, .pure k108)]
theorem g86 : Sound Try.prog (G86) := sound_of (List.forall_mem_cons.2 ⟨⟨cl108, h108⟩, fun _ h => by cases h⟩)
theorem lo86 : loopsOf (c86) = [] := by kernel_rfl
noncomputable def l86 : List Loop := []
def Q86 {α : Type} (l : Option (r86).den → α) (an : α → α → α) (x : (a86).den) : α := cl (r108).dflt (M108 x) (fun u0 => l (some ((decide ((0 : Int) ≤ u0.1)), ()))) (l none)
theorem q86 (x : (a86).den) : runFn Try.prog E0 G86 Try.f86 l86 a86 r86 x = Q86 .leaf .any x := by kernel_rfl
def M86 (x : (a86).den) : Option (r86).den := Q86 (fun r => r) (fun _ _ => none) x
theorem m86 (x : (a86).den) : (runFn Try.prog E0 G86 Try.f86 l86 a86 r86 x).sure = M86 x := by rw [q86]; unfold M86 Q86; simp only [sure_cond, Tree.sure, sure_cl, sure_onExit, sure_onRet, sure_onPanL, sure_onNext, sure_onBrk, sure_onRetO, sure_onPan, sure_onOk, sure_onGPan]
def p86 (x : (a86).den) : Bool := (M86 x).isSome
def v86 (x : (a86).den) : (r86).den := (M86 x).getD (r86).dflt
def k86 : Con := ⟨a86, r86, p86, v86⟩
theorem h86 : Holds Try.prog 86 k86 := holds_of_M' (E := E0) follows_ok g86 eqTy_sound keyTy_sound at86 bd86 (by kernel_rfl) m86 fun G' hlo hF hE => LsOK_kn (by rw [lo86]; exact .nil)
/-- isobar/cone.validLink -/
noncomputable def c88 : Code := Try.f88.body.getD .skip
theorem at88 : Try.prog.funcs[88]? = some Try.f88 := by kernel_rfl
theorem bd88 : Try.f88.body = some c88 := by kernel_rfl
theorem cl88 : Callable Try.prog 88 := callable_of at88 (by kernel_rfl) (by kernel_rfl)
abbrev T29 : Ty := (.cons T19 T25)
abbrev a88 : Ty := T29
abbrev r88 : Ty := T3
noncomputable def G88 : Ctx := Ctx.of [(63, .pure k63)]
theorem g88 : Sound Try.prog (G88) := sound_of (List.forall_mem_cons.2 ⟨⟨cl63, h63⟩, fun _ h => by cases h⟩)
theorem lo88 : loopsOf (c88) = [] := by kernel_rfl
noncomputable def l88 : List Loop := []
def Q88 {α : Type} (l : Option (r88).den → α) (an : α → α → α) (x : (a88).den) : α := cl (r63).dflt (M63 (x.2.1.1, ((0 : Int), ((W (x.1.1 - (1 : Int))), ())))) (fun u0 => bif u0.1 then cl (r63).dflt (M63 (x.2.1.2.1, ((0 : Int), ((W (x.1.1 - (1 : Int))), ())))) (fun u1 => bif u1.1 then bif (!(decide (x.2.1.1 = x.2.1.2.1))) then cl (r63).dflt (M63 (x.2.1.2.2.1, ((1 : Int), ((99999 : Int), ())))) (fun u2 => l (some u2)) (l none) else l (some (false, ())) else l (some (false, ()))) (l none) else l (some (false, ()))) (l none)
theorem q88 (x : (a88).den) : runFn Try.prog E0 G88 Try.f88 l88 a88 r88 x = Q88 .leaf .any x := by kernel_rfl
def M88 (x : (a88).den) : Option (r88).den := Q88 (fun r => r) (fun _ _ => none) x
theorem m88 (x : (a88).den) : (runFn Try.prog E0 G88 Try.f88 l88 a88 r88 x).sure = M88 x := by rw [q88]; unfold M88 Q88; simp only [sure_cond, Tree.sure, sure_cl, sure_onExit, sure_onRet, sure_onPanL, sure_onNext, sure_onBrk, sure_onRetO, sure_onPan, sure_onOk, sure_onGPan]
def p88 (x : (a88).den) : Bool := (M88 x).isSome
def v88 (x : (a88).den) : (r88).den := (M88 x).getD (r88).dflt
def k88 : Con := ⟨a88, r88, p88, v88⟩
theorem h88 : Holds Try.prog 88 k88 := holds_of_M' (E := E0) follows_ok g88 eqTy_sound keyTy_sound at88 bd88 (by kernel_rfl) m88 fun G' hlo hF hE => LsOK_kn (by rw [lo88]; exact .nil)
/-- isobar/cone.valid$2 -/
noncomputable def c87 : Code := Try.f87.body.getD .skip
theorem at87 : Try.prog.funcs[87]? = some Try.f87 := by kernel_rfl
theorem bd87 : Try.f87.body = some c87 := by kernel_rfl
theorem cl87 : Callable Try.prog 87 := callable_of at87 (by kernel_rfl) (by kernel_rfl)
abbrev T30 : Ty := (.cons T24 T22)
abbrev a87 : Ty := T30
abbrev r87 : Ty := T3
noncomputable def G87 : Ctx := Ctx.of [(88, .pure k88)]
theorem g87 : Sound Try.prog (G87) := sound_of (List.forall_mem_cons.2 ⟨⟨cl88, h88⟩, fun _ h => by cases h⟩)
theorem lo87 : loopsOf (c87) = [] := by kernel_rfl
noncomputable def l87 : List Loop := []
def Q87 {α : Type} (l : Option (r87).den → α) (an : α → α → α) (x : (a87).den) : α := cl (r88).dflt (M88 (x.2.1, (x.1, ()))) (fun u0 => l (some ((!u0.1), ()))) (l none)
theorem q87 (x : (a87).den) : runFn Try.prog E0 G87 Try.f87 l87 a87 r87 x = Q87 .leaf .any x := by kernel_rfl
def M87 (x : (a87).den) : Option (r87).den := Q87 (fun r => r) (fun _ _ => none) x
theorem m87 (x : (a87).den) : (runFn Try.prog E0 G87 Try.f87 l87 a87 r87 x).sure = M87 x := by rw [q87]; unfold M87 Q87; simp only [sure_cond, Tree.sure, sure_cl, sure_onExit, sure_onRet, sure_onPanL, sure_onNext, sure_onBrk, sure_onRetO, sure_onPan, sure_onOk, sure_onGPan]
def p87 (x : (a87).den) : Bool := (M87 x).isSome
def v87 (x : (a87).den) : (r87).den := (M87 x).getD (r87).dflt
def k87 : Con := ⟨a87, r87, p87, v87⟩
theorem h87 : Holds Try.prog 87 k87 := holds_of_M' (E := E0) follows_ok g87 eqTy_sound keyTy_sound at87 bd87 (by kernel_rfl) m87 fun G' hlo hF hE => LsOK_kn (by rw [lo87]; exact .nil)
/-- slices.IndexFunc[[]isobar/api.ConePort,isobar/api.ConePort] -/
noncomputable def c109 : Code := Try.f109.body.getD .skip
theorem at109 : Try.prog.funcs[109]? = some Try.f109 := by kernel_rfl
theorem bd109 : Try.f109.body = some c109 := by kernel_rfl
theorem cl109 : Callable Try.prog 109 := callable_of at109 (by kernel_rfl) (by kernel_rfl)
abbrev T31 : Ty := (.agg T4)
abbrev T32 : Ty := (.cons T31 .nil)
abbrev T33 : Ty := (.fn T32 T3)
abbrev T34 : Ty := (.cons T33 .nil)
abbrev T35 : Ty := (.cons (.sl T4) T34)
abbrev a109 : Ty := T35
abbrev r109 : Ty := T0
noncomputable def G109 : Ctx := Ctx.of []
theorem g109 : Sound Try.prog (G109) := sound_of (fun _ h => by cases h)
noncomputable def b109x0 : Code := loopBody ((loopsOf (c109))[0]?)
theorem lo109x0 : loopsOf (b109x0) = [] := by kernel_rfl
abbrev cs109x0 : List Pat := [.slot 0 (.pc (.sl T4)), .slot 1 (.pc T33), .slot 7 (.pc tI)]
abbrev vs109x0 : List Pat := [.slot 8 (.pc tI)]
abbrev ps109x0 : List Pat := [.slot 0 (.pc (.sl T4)), .slot 1 (.pc T33), .slot 7 (.pc tI), .slot 8 (.pc tI)]
def j109x0 : (patsTy cs109x0).den → (patsTy vs109x0).den → (patsTy ps109x0).den := fun c v => (c.1, (c.2.1, (c.2.2.1, v)))
def sp109x0 : (patsTy ps109x0).den → (patsTy cs109x0).den × (patsTy vs109x0).den := fun x => ((x.1, (x.2.1, (x.2.2.1, ()))), x.2.2.2)
abbrev wy109x0 : Ways := ⟨[(0, [])], [.slot 4 (.pc tI)], []⟩
abbrev wv109x0 : Ways := ⟨[(0, [])], [.slot 4 (.pc tI)], []⟩
def je109x0 : (id : Nat) → (patsTy cs109x0).den → (patsTy (wayP wv109x0 id)).den → (patsTy (wayP wy109x0 id)).den := fun id => match id with | 0 => fun c y => y | id => fun _ _ => (patsTy (wayP wy109x0 id)).dflt
def jr109x0 : (patsTy cs109x0).den → (patsTy (wv109x0).ret).den → (patsTy (wy109x0).ret).den := fun c y => y
def jp109x0 : (patsTy cs109x0).den → (patsTy (wv109x0).pan).den → (patsTy (wy109x0).pan).den := fun c y => y
def Z109x0 {α : Type} (l : RQ vs109x0 wv109x0 → α) (an : α → α → α) (c : (patsTy cs109x0).den) (v : (patsTy vs109x0).den) : α := bif (decide (v.1 < c.2.2.1)) then bif (decide (((0 : Int) ≤ v.1) ∧ (v.1 < ((c.1.n : Nat) : Int)))) then bif (c.2.1 ((c.1.g (Int.toNat v.1)), ())).1 then bif (c.2.1 ((c.1.g (Int.toNat v.1)), ())).2.1 then l (.out (.ret v)) else l (.next ((W (v.1 + (1 : Int))), ())) else l .bad else l .bad else l (.out (.exit 0 ()))
theorem z109x0 (c : (patsTy cs109x0).den) (v : (patsTy vs109x0).den) : roundQ Try.prog E0 G109 0 19 [] ps109x0 wy109x0 b109x0 [] (j109x0 c v) = Z109x0 (fun r => .leaf (r.lift j109x0 je109x0 jr109x0 jp109x0 c)) .any c v := by kernel_rfl
def S109x0 (c : (patsTy cs109x0).den) (v : (patsTy vs109x0).den) : RQ vs109x0 wv109x0 := Z109x0 (fun r => r) (fun _ _ => .bad) c v
theorem s109x0 (c : (patsTy cs109x0).den) (v : (patsTy vs109x0).den) : detQ (roundQ Try.prog E0 G109 0 19 [] ps109x0 wy109x0 b109x0 [] (j109x0 c v)) = (S109x0 c v).lift j109x0 je109x0 jr109x0 jp109x0 c := by rw [z109x0]; unfold S109x0 Z109x0; simp only [detQ_cond, lift_cond, lift_bad, detQ, detQ_cl, detQ_onExit, detQ_onRet, detQ_onPanL, detQ_onNext, detQ_onBrk, detQ_onRetO, detQ_onPan, detQ_onOk, detQ_onGPan, lift_cl, lift_onExit, lift_onRet, lift_onPanL, lift_onNext, lift_onBrk, lift_onRetO, lift_onPan, lift_onOk, lift_onGPan]
def L109x0 (c : (patsTy cs109x0).den) (v : (patsTy vs109x0).den) : LQ wv109x0 := iterQ (S109x0 c) big v
theorem lo109 : loopsOf (c109) = [.loop b109x0] := by kernel_rfl
noncomputable def l109 : List Loop := [.known (loopZ 0 [] ps109x0 fun x => spreadV wy109x0 je109x0 jr109x0 jp109x0 [] true (sp109x0 x).1 (L109x0 (sp109x0 x).1 (sp109x0 x).2) wy109x0.exits)]
def Q109 {α : Type} (l : Option (r109).den → α) (an : α → α → α) (x : (a109).den) : α := onExit (L109x0 (x.1, (x.2.1, (((x.1.n : Nat) : Int), ()))) ((0 : Int), ())) 0 (fun u0 => l (some ((-1 : Int), ()))) (onRet (L109x0 (x.1, (x.2.1, (((x.1.n : Nat) : Int), ()))) ((0 : Int), ())) (fun u1 => l (some u1)) (l none))
theorem q109 (x : (a109).den) : runFn Try.prog E0 G109 Try.f109 l109 a109 r109 x = Q109 .leaf .any x := by kernel_rfl
def M109 (x : (a109).den) : Option (r109).den := Q109 (fun r => r) (fun _ _ => none) x
theorem m109 (x : (a109).den) : (runFn Try.prog E0 G109 Try.f109 l109 a109 r109 x).sure = M109 x := by rw [q109]; unfold M109 Q109; simp only [sure_cond, Tree.sure, sure_cl, sure_onExit, sure_onRet, sure_onPanL, sure_onNext, sure_onBrk, sure_onRetO, sure_onPan, sure_onOk, sure_onGPan]
def p109 (x : (a109).den) : Bool := (M109 x).isSome
def v109 (x : (a109).den) : (r109).den := (M109 x).getD (r109).dflt
def k109 : Con := ⟨a109, r109, p109, v109⟩
theorem h109 : Holds Try.prog 109 k109 := holds_of_M' (E := E0) follows_ok g109 eqTy_sound keyTy_sound at109 bd109 (by kernel_rfl) m109 fun G' hlo hF hE => LsOK_kn (by rw [lo109]; exact .cons (loopV_ok hE hF hlo (LsOK_kn (by rw [lo109x0]; exact .nil)) (by kernel_rfl) (by kernel_rfl) sp109x0 (fun _ => rfl) (fun _ _ => rfl) (s109x0) big) (.nil))
/-- slices.ContainsFunc[[]isobar/api.ConePort,isobar/api.ConePort] -/
noncomputable def c89 : Code := Try.f89.body.getD .skip
theorem at89 : Try.prog.funcs[89]? = some Try.f89 := by kernel_rfl
theorem bd89 : Try.f89.body = some c89 := by kernel_rfl
theorem cl89 : Callable Try.prog 89 := callable_of at89 (by kernel_rfl) (by kernel_rfl)
abbrev a89 : Ty := T35
abbrev r89 : Ty := T3
noncomputable def G89 : Ctx := Ctx.of [(109, .pure k109)]
theorem g89 : Sound Try.prog (G89) := sound_of (List.forall_mem_cons.2 ⟨⟨cl109, h109⟩, fun _ h => by cases h⟩)
theorem lo89 : loopsOf (c89) = [] := by kernel_rfl
noncomputable def l89 : List Loop := []
def Q89 {α : Type} (l : Option (r89).den → α) (an : α → α → α) (x : (a89).den) : α := cl (r109).dflt (M109 x) (fun u0 => l (some ((decide ((0 : Int) ≤ u0.1)), ()))) (l none)
theorem q89 (x : (a89).den) : runFn Try.prog E0 G89 Try.f89 l89 a89 r89 x = Q89 .leaf .any x := by kernel_rfl
def M89 (x : (a89).den) : Option (r89).den := Q89 (fun r => r) (fun _ _ => none) x
theorem m89 (x : (a89).den) : (runFn Try.prog E0 G89 Try.f89 l89 a89 r89 x).sure = M89 x := by rw [q89]; unfold M89 Q89; simp only [sure_cond, Tree.sure, sure_cl, sure_onExit, sure_onRet, sure_onPanL, sure_onNext, sure_onBrk, sure_onRetO, sure_onPan, sure_onOk, sure_onGPan]
def p89 (x : (a89).den) : Bool := (M89 x).isSome
def v89 (x : (a89).den) : (r89).den := (M89 x).getD (r89).dflt
def k89 : Con := ⟨a89, r89, p89, v89⟩
theorem h89 : Holds Try.prog 89 k89 := holds_of_M' (E := E0) follows_ok g89 eqTy_sound keyTy_sound at89 bd89 (by kernel_rfl) m89 fun G' hlo hF hE => LsOK_kn (by rw [lo89]; exact .nil)
/-- isobar/cone.validPort -/
noncomputable def c91 : Code := Try.f91.body.getD .skip
theorem at91 : Try.prog.funcs[91]? = some Try.f91 := by kernel_rfl
theorem bd91 : Try.f91.body = some c91 := by kernel_rfl
theorem cl91 : Callable Try.prog 91 := callable_of at91 (by kernel_rfl) (by kernel_rfl)
abbrev a91 : Ty := T32
abbrev r91 : Ty := T3
noncomputable def G91 : Ctx := Ctx.of [(63, .pure k63), (67, .pure k67)]
theorem g91 : Sound Try.prog (G91) := sound_of (List.forall_mem_cons.2 ⟨⟨cl63, h63⟩, List.forall_mem_cons.2 ⟨⟨cl67, h67⟩, fun _ h => by cases h⟩⟩)
theorem lo91 : loopsOf (c91) = [] := by kernel_rfl
noncomputable def l91 : List Loop := []
def Q91 {α : Type} (l : Option (r91).den → α) (an : α → α → α) (x : (a91).den) : α := cl (r67).dflt (M67 ((x.1.1, (x.1.2.1, ())), ((2880 : Int), ()))) (fun u0 => bif u0.1 then bif (decide ((W (x.1.2.1 - x.1.1)) ≤ (300 : Int))) then cl (r63).dflt (M63 (x.1.2.2.1, ((0 : Int), ((50000 : Int), ())))) (fun u1 => bif u1.1 then cl (r63).dflt (M63 (x.1.2.2.2.1, ((0 : Int), ((50000 : Int), ())))) (fun u2 => l (some u2)) (l none) else l (some (false, ()))) (l none) else l (some (false, ())) else l (some (false, ()))) (l none)
theorem q91 (x : (a91).den) : runFn Try.prog E0 G91 Try.f91 l91 a91 r91 x = Q91 .leaf .any x := by kernel_rfl
def M91 (x : (a91).den) : Option (r91).den := Q91 (fun r => r) (fun _ _ => none) x
theorem m91 (x : (a91).den) : (runFn Try.prog E0 G91 Try.f91 l91 a91 r91 x).sure = M91 x := by rw [q91]; unfold M91 Q91; simp only [sure_cond, Tree.sure, sure_cl, sure_onExit, sure_onRet, sure_onPanL, sure_onNext, sure_onBrk, sure_onRetO, sure_onPan, sure_onOk, sure_onGPan]
def p91 (x : (a91).den) : Bool := (M91 x).isSome
def v91 (x : (a91).den) : (r91).den := (M91 x).getD (r91).dflt
def k91 : Con := ⟨a91, r91, p91, v91⟩
theorem h91 : Holds Try.prog 91 k91 := holds_of_M' (E := E0) follows_ok g91 eqTy_sound keyTy_sound at91 bd91 (by kernel_rfl) m91 fun G' hlo hF hE => LsOK_kn (by rw [lo91]; exact .nil)
/-- isobar/cone.valid$3 -/
noncomputable def c90 : Code := Try.f90.body.getD .skip
theorem at90 : Try.prog.funcs[90]? = some Try.f90 := by kernel_rfl
theorem bd90 : Try.f90.body = some c90 := by kernel_rfl
theorem cl90 : Callable Try.prog 90 := callable_of at90 (by kernel_rfl) (by kernel_rfl)
abbrev a90 : Ty := T32
abbrev r90 : Ty := T3
noncomputable def G90 : Ctx := Ctx.of [(91, .pure k91)]
theorem g90 : Sound Try.prog (G90) := sound_of (List.forall_mem_cons.2 ⟨⟨cl91, h91⟩, fun _ h => by cases h⟩)
theorem lo90 : loopsOf (c90) = [] := by kernel_rfl
noncomputable def l90 : List Loop := []
def Q90 {α : Type} (l : Option (r90).den → α) (an : α → α → α) (x : (a90).den) : α := cl (r91).dflt (M91 (x.1, ())) (fun u0 => l (some ((!u0.1), ()))) (l none)
theorem q90 (x : (a90).den) : runFn Try.prog E0 G90 Try.f90 l90 a90 r90 x = Q90 .leaf .any x := by kernel_rfl
def M90 (x : (a90).den) : Option (r90).den := Q90 (fun r => r) (fun _ _ => none) x
theorem m90 (x : (a90).den) : (runFn Try.prog E0 G90 Try.f90 l90 a90 r90 x).sure = M90 x := by rw [q90]; unfold M90 Q90; simp only [sure_cond, Tree.sure, sure_cl, sure_onExit, sure_onRet, sure_onPanL, sure_onNext, sure_onBrk, sure_onRetO, sure_onPan, sure_onOk, sure_onGPan]
def p90 (x : (a90).den) : Bool := (M90 x).isSome
def v90 (x : (a90).den) : (r90).den := (M90 x).getD (r90).dflt
def k90 : Con := ⟨a90, r90, p90, v90⟩
theorem h90 : Holds Try.prog 90 k90 := holds_of_M' (E := E0) follows_ok g90 eqTy_sound keyTy_sound at90 bd90 (by kernel_rfl) m90 fun G' hlo hF hE => LsOK_kn (by rw [lo90]; exact .nil)
/-- isobar/cone.valid -/
noncomputable def c55 : Code := Try.f55.body.getD .skip
theorem at55 : Try.prog.funcs[55]? = some Try.f55 := by kernel_rfl
theorem bd55 : Try.f55.body = some c55 := by kernel_rfl
theorem cl55 : Callable Try.prog 55 := callable_of at55 (by kernel_rfl) (by kernel_rfl)
abbrev T36 : Ty := (.cons T19 .nil)
abbrev a55 : Ty := T36
abbrev r55 : Ty := T3
noncomputable def G55 : Ctx := Ctx.of [(63, .pure k63), (83, .pure k83), (84, .pure k84), (86, .pure k86), (87, .pure k87), (89, .pure k89), (90, .pure k90)]
theorem g55 : Sound Try.prog (G55) := sound_of (List.forall_mem_cons.2 ⟨⟨cl63, h63⟩, List.forall_mem_cons.2 ⟨⟨cl83, h83⟩, List.forall_mem_cons.2 ⟨⟨cl84, h84⟩, List.forall_mem_cons.2 ⟨⟨cl86, h86⟩, List.forall_mem_cons.2 ⟨⟨cl87, h87⟩, List.forall_mem_cons.2 ⟨⟨cl89, h89⟩, List.forall_mem_cons.2 ⟨⟨cl90, h90⟩, fun _ h => by cases h⟩⟩⟩⟩⟩⟩⟩)
theorem lo55 : loopsOf (c55) = [] := by kernel_rfl
noncomputable def l55 : List Loop := []
def Q55 {α : Type} (l : Option (r55).den → α) (an : α → α → α) (x : (a55).den) : α := cl (r63).dflt (M63 (x.1.1, ((1 : Int), ((6 : Int), ())))) (fun u0 => bif u0.1 then bif (decide (((x.1.2.1.n : Nat) : Int) ≤ (9 : Int))) then bif (decide (((x.1.2.2.1.n : Nat) : Int) ≤ (8 : Int))) then bif (decide (((x.1.2.2.2.1.n : Nat) : Int) ≤ (4 : Int))) then cl (r63).dflt (M63 (x.1.2.2.2.2.1, ((1 : Int), ((99999 : Int), ())))) (fun u1 => bif u1.1 then cl (r63).dflt (M63 (x.1.2.2.2.2.2.1, ((1 : Int), ((2880 : Int), ())))) (fun u2 => bif u2.1 then cl (r63).dflt (M63 (x.1.2.2.2.2.2.2.1, ((1 : Int), ((2880 : Int), ())))) (fun u3 => bif u3.1 then bif (decide ((0 : Int) ≤ x.1.2.2.2.2.2.2.2.1)) then bif (decide (x.1.2.2.2.2.2.2.2.1 ≤ x.1.2.2.2.2.2.2.2.2.1)) then bif (decide (x.1.2.2.2.2.2.2.2.2.1 ≤ (1440 : Int))) then cl (r83).dflt (M83 (x.1.2.1, ((fun y1 => ((p84 (y1.1, (x.1, ()))), (v84 (y1.1, (x.1, ()))))), ()))) (fun u4 => bif (!u4.1) then cl (r86).dflt (M86 (x.1.2.2.1, ((fun y1 => ((p87 (y1.1, (x.1, ()))), (v87 (y1.1, (x.1, ()))))), ()))) (fun u5 => bif (!u5.1) then cl (r89).dflt (M89 (x.1.2.2.2.1, ((fun y1 => ((p90 y1), (v90 y1))), ()))) (fun u6 => l (some ((!u6.1), ()))) (l none) else l (some (false, ()))) (l none) else l (some (false, ()))) (l none) else l (some (false, ())) else l (some (false, ())) else l (some (false, ())) else l (some (false, ()))) (l none) else l (some (false, ()))) (l none) else l (some (false, ()))) (l none) else l (some (false, ())) else l (some (false, ())) else l (some (false, ())) else l (some (false, ()))) (l none)
theorem q55 (x : (a55).den) : runFn Try.prog E0 G55 Try.f55 l55 a55 r55 x = Q55 .leaf .any x := by kernel_rfl
def M55 (x : (a55).den) : Option (r55).den := Q55 (fun r => r) (fun _ _ => none) x
theorem m55 (x : (a55).den) : (runFn Try.prog E0 G55 Try.f55 l55 a55 r55 x).sure = M55 x := by rw [q55]; unfold M55 Q55; simp only [sure_cond, Tree.sure, sure_cl, sure_onExit, sure_onRet, sure_onPanL, sure_onNext, sure_onBrk, sure_onRetO, sure_onPan, sure_onOk, sure_onGPan]
def p55 (x : (a55).den) : Bool := (M55 x).isSome
def v55 (x : (a55).den) : (r55).den := (M55 x).getD (r55).dflt
def k55 : Con := ⟨a55, r55, p55, v55⟩
theorem h55 : Holds Try.prog 55 k55 := holds_of_M' (E := E0) follows_ok g55 eqTy_sound keyTy_sound at55 bd55 (by kernel_rfl) m55 fun G' hlo hF hE => LsOK_kn (by rw [lo55]; exact .nil)
/-- slices.EqualFunc[[]int,[]isobar/api.ConeReport,int,isobar/api.ConeReport] -/
noncomputable def c92 : Code := Try.f92.body.getD .skip
theorem at92 : Try.prog.funcs[92]? = some Try.f92 := by kernel_rfl
theorem bd92 : Try.f92.body = some c92 := by kernel_rfl
theorem cl92 : Callable Try.prog 92 := callable_of at92 (by kernel_rfl) (by kernel_rfl)
abbrev T37 : Ty := (.cons tI T9)
abbrev T38 : Ty := (.fn T37 T3)
abbrev T39 : Ty := (.cons T38 .nil)
abbrev T40 : Ty := (.cons (.sl T7) T39)
abbrev T41 : Ty := (.cons (.sl T0) T40)
abbrev a92 : Ty := T41
abbrev r92 : Ty := T3
noncomputable def G92 : Ctx := Ctx.of []
theorem g92 : Sound Try.prog (G92) := sound_of (fun _ h => by cases h)
noncomputable def b92x0 : Code := loopBody ((loopsOf (c92))[0]?)
theorem lo92x0 : loopsOf (b92x0) = [] := by kernel_rfl
abbrev cs92x0 : List Pat := [.slot 1 (.pc (.sl T7)), .slot 2 (.pc T38), .slot 15 (.pc (.sl T0)), .slot 16 (.pc tI)]
abbrev vs92x0 : List Pat := [.slot 17 (.pc tI)]
abbrev ps92x0 : List Pat := [.slot 1 (.pc (.sl T7)), .slot 2 (.pc T38), .slot 15 (.pc (.sl T0)), .slot 16 (.pc tI), .slot 17 (.pc tI)]
def j92x0 : (patsTy cs92x0).den → (patsTy vs92x0).den → (patsTy ps92x0).den := fun c v => (c.1, (c.2.1, (c.2.2.1, (c.2.2.2.1, v))))
def sp92x0 : (patsTy ps92x0).den → (patsTy cs92x0).den × (patsTy vs92x0).den := fun x => ((x.1, (x.2.1, (x.2.2.1, (x.2.2.2.1, ())))), x.2.2.2.2)
abbrev wy92x0 : Ways := ⟨[(0, [])], [.slot 6 (.pc .bool)], []⟩
abbrev wv92x0 : Ways := ⟨[(0, [])], [.slot 6 (.pc .bool)], []⟩
def je92x0 : (id : Nat) → (patsTy cs92x0).den → (patsTy (wayP wv92x0 id)).den → (patsTy (wayP wy92x0 id)).den := fun id => match id with | 0 => fun c y => y | id => fun _ _ => (patsTy (wayP wy92x0 id)).dflt
def jr92x0 : (patsTy cs92x0).den → (patsTy (wv92x0).ret).den → (patsTy (wy92x0).ret).den := fun c y => y
def jp92x0 : (patsTy cs92x0).den → (patsTy (wv92x0).pan).den → (patsTy (wy92x0).pan).den := fun c y => y
def Z92x0 {α : Type} (l : RQ vs92x0 wv92x0 → α) (an : α → α → α) (c : (patsTy cs92x0).den) (v : (patsTy vs92x0).den) : α := bif (decide (v.1 < c.2.2.2.1)) then bif (decide (((0 : Int) ≤ v.1) ∧ (v.1 < ((c.2.2.1.n : Nat) : Int)))) then bif (decide (((0 : Int) ≤ v.1) ∧ (v.1 < ((c.1.n : Nat) : Int)))) then bif (c.2.1 ((c.2.2.1.g (Int.toNat v.1)).1, ((c.1.g (Int.toNat v.1)), ()))).1 then bif (!(c.2.1 ((c.2.2.1.g (Int.toNat v.1)).1, ((c.1.g (Int.toNat v.1)), ()))).2.1) then l (.out (.ret (false, ()))) else l (.next ((W (v.1 + (1 : Int))), ())) else l .bad else l .bad else l .bad else l (.out (.exit 0 ()))
theorem z92x0 (c : (patsTy cs92x0).den) (v : (patsTy vs92x0).den) : roundQ Try.prog E0 G92 0 32 [] ps92x0 wy92x0 b92x0 [] (j92x0 c v) = Z92x0 (fun r => .leaf (r.lift j92x0 je92x0 jr92x0 jp92x0 c)) .any c v := by kernel_rfl
def S92x0 (c : (patsTy cs92x0).den) (v : (patsTy vs92x0).den) : RQ vs92x0 wv92x0 := Z92x0 (fun r => r) (fun _ _ => .bad) c v
theorem s92x0 (c : (patsTy cs92x0).den) (v : (patsTy vs92x0).den) : detQ (roundQ Try.prog E0 G92 0 32 [] ps92x0 wy92x0 b92x0 [] (j92x0 c v)) = (S92x0 c v).lift j92x0 je92x0 jr92x0 jp92x0 c := by rw [z92x0]; unfold S92x0 Z92x0; simp only [detQ_cond, lift_cond, lift_bad, detQ, detQ_cl, detQ_onExit, detQ_onRet, detQ_onPanL, detQ_onNext, detQ_onBrk, detQ_onRetO, detQ_onPan, detQ_onOk, detQ_onGPan, lift_cl, lift_onExit, lift_onRet, lift_onPanL, lift_onNext, lift_onBrk, lift_onRetO, lift_onPan, lift_onOk, lift_onGPan]
def L92x0 (c : (patsTy cs92x0).den) (v : (patsTy vs92x0).den) : LQ wv92x0 := iterQ (S92x0 c) big v
theorem lo92 : loopsOf (c92) = [.loop b92x0] := by kernel_rfl
noncomputable def l92 : List Loop := [.known (loopZ 0 [] ps92x0 fun x => spreadV wy92x0 je92x0 jr92x0 jp92x0 [] true (sp92x0 x).1 (L92x0 (sp92x0 x).1 (sp92x0 x).2) wy92x0.exits)]
def Q92 {α : Type} (l : Option (r92).den → α) (an : α → α → α) (x : (a92).den) : α := bif (!(decide (((x.1.n : Nat) : Int) = ((x.2.1.n : Nat) : Int)))) then l (some (false, ())) else onExit (L92x0 (x.2.1, (x.2.2.1, (x.1, (((x.1.n : Nat) : Int), ())))) ((0 : Int), ())) 0 (fun u0 => l (some (true, ()))) (onRet (L92x0 (x.2.1, (x.2.2.1, (x.1, (((x.1.n : Nat) : Int), ())))) ((0 : Int), ())) (fun u1 => l (some u1)) (l none))
theorem q92 (x : (a92).den) : runFn Try.prog E0 G92 Try.f92 l92 a92 r92 x = Q92 .leaf .any x := by kernel_rfl
def M92 (x : (a92).den) : Option (r92).den := Q92 (fun r => r) (fun _ _ => none) x
theorem m92 (x : (a92).den) : (runFn Try.prog E0 G92 Try.f92 l92 a92 r92 x).sure = M92 x := by rw [q92]; unfold M92 Q92; simp only [sure_cond, Tree.sure, sure_cl, sure_onExit, sure_onRet, sure_onPanL, sure_onNext, sure_onBrk, sure_onRetO, sure_onPan, sure_onOk, sure_onGPan]
def p92 (x : (a92).den) : Bool := (M92 x).isSome
def v92 (x : (a92).den) : (r92).den := (M92 x).getD (r92).dflt
def k92 : Con := ⟨a92, r92, p92, v92⟩
theorem h92 : Holds Try.prog 92 k92 := holds_of_M' (E := E0) follows_ok g92 eqTy_sound keyTy_sound at92 bd92 (by kernel_rfl) m92 fun G' hlo hF hE => LsOK_kn (by rw [lo92]; exact .cons (loopV_ok hE hF hlo (LsOK_kn (by rw [lo92x0]; exact .nil)) (by kernel_rfl) (by kernel_rfl) sp92x0 (fun _ => rfl) (fun _ _ => rfl) (s92x0) big) (.nil))
/-- isobar/cone.delayed$1 -/
noncomputable def c93 : Code := Try.f93.body.getD .skip
theorem at93 : Try.prog.funcs[93]? = some Try.f93 := by kernel_rfl
theorem bd93 : Try.f93.body = some c93 := by kernel_rfl
theorem cl93 : Callable Try.prog 93 := callable_of at93 (by kernel_rfl) (by kernel_rfl)
abbrev a93 : Ty := T37
abbrev r93 : Ty := T3
noncomputable def G93 : Ctx := Ctx.of [(63, .pure k63)]
theorem g93 : Sound Try.prog (G93) := sound_of (List.forall_mem_cons.2 ⟨⟨cl63, h63⟩, fun _ h => by cases h⟩)
theorem lo93 : loopsOf (c93) = [] := by kernel_rfl
noncomputable def l93 : List Loop := []
def Q93 {α : Type} (l : Option (r93).den → α) (an : α → α → α) (x : (a93).den) : α := cl (r63).dflt (M63 (x.1, (x.2.1.2.2.2.1, (x.2.1.2.2.2.2.1, ())))) (fun u0 => l (some u0)) (l none)
theorem q93 (x : (a93).den) : runFn Try.prog E0 G93 Try.f93 l93 a93 r93 x = Q93 .leaf .any x := by kernel_rfl
def M93 (x : (a93).den) : Option (r93).den := Q93 (fun r => r) (fun _ _ => none) x
theorem m93 (x : (a93).den) : (runFn Try.prog E0 G93 Try.f93 l93 a93 r93 x).sure = M93 x := by rw [q93]; unfold M93 Q93; simp only [sure_cond, Tree.sure, sure_cl, sure_onExit, sure_onRet, sure_onPanL, sure_onNext, sure_onBrk, sure_onRetO, sure_onPan, sure_onOk, sure_onGPan]
def p93 (x : (a93).den) : Bool := (M93 x).isSome
def v93 (x : (a93).den) : (r93).den := (M93 x).getD (r93).dflt
def k93 : Con := ⟨a93, r93, p93, v93⟩
theorem h93 : Holds Try.prog 93 k93 := holds_of_M' (E := E0) follows_ok g93 eqTy_sound keyTy_sound at93 bd93 (by kernel_rfl) m93 fun G' hlo hF hE => LsOK_kn (by rw [lo93]; exact .nil)
/-- isobar/cone.delayed -/
noncomputable def c56 : Code := Try.f56.body.getD .skip
theorem at56 : Try.prog.funcs[56]? = some Try.f56 := by kernel_rfl
theorem bd56 : Try.f56.body = some c56 := by kernel_rfl
theorem cl56 : Callable Try.prog 56 := callable_of at56 (by kernel_rfl) (by kernel_rfl)
abbrev T42 : Ty := (.cons (.sl T0) .nil)
abbrev T43 : Ty := (.cons T19 T42)
abbrev a56 : Ty := T43
abbrev r56 : Ty := T3
noncomputable def G56 : Ctx := Ctx.of [(92, .pure k92), (93, .pure k93)]
theorem g56 : Sound Try.prog (G56) := sound_of (List.forall_mem_cons.2 ⟨⟨cl92, h92⟩, List.forall_mem_cons.2 ⟨⟨cl93, h93⟩, fun _ h => by cases h⟩⟩)
theorem lo56 : loopsOf (c56) = [] := by kernel_rfl
noncomputable def l56 : List Loop := []
def Q56 {α : Type} (l : Option (r56).den → α) (an : α → α → α) (x : (a56).den) : α := cl (r92).dflt (M92 (x.2.1, (x.1.2.1, ((fun y1 => ((p93 y1), (v93 y1))), ())))) (fun u0 => l (some u0)) (l none)
theorem q56 (x : (a56).den) : runFn Try.prog E0 G56 Try.f56 l56 a56 r56 x = Q56 .leaf .any x := by kernel_rfl
def M56 (x : (a56).den) : Option (r56).den := Q56 (fun r => r) (fun _ _ => none) x
theorem m56 (x : (a56).den) : (runFn Try.prog E0 G56 Try.f56 l56 a56 r56 x).sure = M56 x := by rw [q56]; unfold M56 Q56; simp only [sure_cond, Tree.sure, sure_cl, sure_onExit, sure_onRet, sure_onPanL, sure_onNext, sure_onBrk, sure_onRetO, sure_onPan, sure_onOk, sure_onGPan]
def p56 (x : (a56).den) : Bool := (M56 x).isSome
def v56 (x : (a56).den) : (r56).den := (M56 x).getD (r56).dflt
def k56 : Con := ⟨a56, r56, p56, v56⟩
theorem h56 : Holds Try.prog 56 k56 := holds_of_M' (E := E0) follows_ok g56 eqTy_sound keyTy_sound at56 bd56 (by kernel_rfl) m56 fun G' hlo hF hE => LsOK_kn (by rw [lo56]; exact .nil)
/-- isobar/cone.far -/
noncomputable def c110 : Code := Try.f110.body.getD .skip
theorem at110 : Try.prog.funcs[110]? = some Try.f110 := by kernel_rfl
theorem bd110 : Try.f110.body = some c110 := by kernel_rfl
theorem cl110 : Callable Try.prog 110 := callable_of at110 (by kernel_rfl) (by kernel_rfl)
abbrev a110 : Ty := T1
abbrev r110 : Ty := T0
noncomputable def G110 : Ctx := Ctx.of []
theorem g110 : Sound Try.prog (G110) := sound_of (fun _ h => by cases h)
theorem lo110 : loopsOf (c110) = [] := by kernel_rfl
noncomputable def l110 : List Loop := []
def Q110 {α : Type} (l : Option (r110).den → α) (an : α → α → α) (x : (a110).den) : α := l (some ((mx (W (x.1 - x.2.1)) (W (x.2.1 - x.1))), ()))
theorem q110 (x : (a110).den) : runFn Try.prog E0 G110 Try.f110 l110 a110 r110 x = Q110 .leaf .any x := by kernel_rfl
def M110 (x : (a110).den) : Option (r110).den := Q110 (fun r => r) (fun _ _ => none) x
theorem m110 (x : (a110).den) : (runFn Try.prog E0 G110 Try.f110 l110 a110 r110 x).sure = M110 x := by rw [q110]; unfold M110 Q110; simp only [sure_cond, Tree.sure, sure_cl, sure_onExit, sure_onRet, sure_onPanL, sure_onNext, sure_onBrk, sure_onRetO, sure_onPan, sure_onOk, sure_onGPan]
def p110 (x : (a110).den) : Bool := (M110 x).isSome
def v110 (x : (a110).den) : (r110).den := (M110 x).getD (r110).dflt
def k110 : Con := ⟨a110, r110, p110, v110⟩
theorem h110 : Holds Try.prog 110 k110 := holds_of_M' (E := E0) follows_ok g110 eqTy_sound keyTy_sound at110 bd110 (by kernel_rfl) m110 fun G' hlo hF hE => LsOK_kn (by rw [lo110]; exact .nil)
/-- isobar/cone.falls -/
noncomputable def c111 : Code := Try.f111.body.getD .skip
theorem at111 : Try.prog.funcs[111]? = some Try.f111 := by kernel_rfl
theorem bd111 : Try.f111.body = some c111 := by kernel_rfl
theorem cl111 : Callable Try.prog 111 := callable_of at111 (by kernel_rfl) (by kernel_rfl)
abbrev T44 : Ty := (.cons T8 T9)
abbrev T45 : Ty := (.cons T19 T44)
abbrev a111 : Ty := T45
abbrev r111 : Ty := T3
noncomputable def G111 : Ctx := Ctx.of []
theorem g111 : Sound Try.prog (G111) := sound_of (fun _ h => by cases h)
theorem lo111 : loopsOf (c111) = [] := by kernel_rfl
noncomputable def l111 : List Loop := []
def Q111 {α : Type} (l : Option (r111).den → α) (an : α → α → α) (x : (a111).den) : α := bif (decide (x.2.1.1 = x.2.2.1.1)) then bif (decide (x.2.1.2.1 < x.2.2.1.2.1)) then l (some ((decide (x.1.2.2.2.2.1 ≤ (W (x.2.1.2.2.1 - x.2.2.1.2.2.1)))), ())) else l (some (false, ())) else l (some (false, ()))
theorem q111 (x : (a111).den) : runFn Try.prog E0 G111 Try.f111 l111 a111 r111 x = Q111 .leaf .any x := by kernel_rfl
def M111 (x : (a111).den) : Option (r111).den := Q111 (fun r => r) (fun _ _ => none) x
theorem m111 (x : (a111).den) : (runFn Try.prog E0 G111 Try.f111 l111 a111 r111 x).sure = M111 x := by rw [q111]; unfold M111 Q111; simp only [sure_cond, Tree.sure, sure_cl, sure_onExit, sure_onRet, sure_onPanL, sure_onNext, sure_onBrk, sure_onRetO, sure_onPan, sure_onOk, sure_onGPan]
def p111 (x : (a111).den) : Bool := (M111 x).isSome
def v111 (x : (a111).den) : (r111).den := (M111 x).getD (r111).dflt
def k111 : Con := ⟨a111, r111, p111, v111⟩
theorem h111 : Holds Try.prog 111 k111 := holds_of_M' (E := E0) follows_ok g111 eqTy_sound keyTy_sound at111 bd111 (by kernel_rfl) m111 fun G' hlo hF hE => LsOK_kn (by rw [lo111]; exact .nil)
/-- isobar/cone.differs$1 -/
noncomputable def c124 : Code := Try.f124.body.getD .skip
theorem at124 : Try.prog.funcs[124]? = some Try.f124 := by kernel_rfl
theorem bd124 : Try.f124.body = some c124 := by kernel_rfl
theorem cl124 : Callable Try.prog 124 := callable_of at124 (by kernel_rfl) (by kernel_rfl)
abbrev T46 : Ty := (.ptr T7)
abbrev T47 : Ty := (.cons T46 .nil)
abbrev T48 : Ty := (.cons T46 T47)
abbrev T49 : Ty := (.cons T24 T48)
abbrev a124 : Ty := T49
abbrev r124 : Ty := T3
noncomputable def G124 : Ctx := Ctx.of [(110, .pure k110)]
theorem g124 : Sound Try.prog (G124) := sound_of (List.forall_mem_cons.2 ⟨⟨cl110, h110⟩, fun _ h => by cases h⟩)
theorem lo124 : loopsOf (c124) = [] := by kernel_rfl
noncomputable def l124 : List Loop := []
def Q124 {α : Type} (l : Option (r124).den → α) (an : α → α → α) (x : (a124).den) : α := bif (decide (x.1.1 = x.2.1.1)) then bif (decide (x.1.2.1 = x.2.2.1.1)) then cl (r110).dflt (M110 (x.2.1.2.2.1, (x.2.2.1.2.2.1, ()))) (fun u0 => l (some ((decide (x.1.2.2.1 ≤ u0.1)), ()))) (l none) else bif (decide (x.1.1 = x.2.2.1.1)) then bif (decide (x.1.2.1 = x.2.1.1)) then cl (r110).dflt (M110 (x.2.1.2.2.1, (x.2.2.1.2.2.1, ()))) (fun u1 => l (some ((decide (x.1.2.2.1 ≤ u1.1)), ()))) (l none) else l (some (false, ())) else l (some (false, ())) else bif (decide (x.1.1 = x.2.2.1.1)) then bif (decide (x.1.2.1 = x.2.1.1)) then cl (r110).dflt (M110 (x.2.1.2.2.1, (x.2.2.1.2.2.1, ()))) (fun u2 => l (some ((decide (x.1.2.2.1 ≤ u2.1)), ()))) (l none) else l (some (false, ())) else l (some (false, ()))
theorem q124 (x : (a124).den) : runFn Try.prog E0 G124 Try.f124 l124 a124 r124 x = Q124 .leaf .any x := by kernel_rfl
def M124 (x : (a124).den) : Option (r124).den := Q124 (fun r => r) (fun _ _ => none) x
theorem m124 (x : (a124).den) : (runFn Try.prog E0 G124 Try.f124 l124 a124 r124 x).sure = M124 x := by rw [q124]; unfold M124 Q124; simp only [sure_cond, Tree.sure, sure_cl, sure_onExit, sure_onRet, sure_onPanL, sure_onNext, sure_onBrk, sure_onRetO, sure_onPan, sure_onOk, sure_onGPan]
def p124 (x : (a124).den) : Bool := (M124 x).isSome
def v124 (x : (a124).den) : (r124).den := (M124 x).getD (r124).dflt
def k124 : Con := ⟨a124, r124, p124, v124⟩
theorem h124 : Holds Try.prog 124 k124 := holds_of_M' (E := E0) follows_ok g124 eqTy_sound keyTy_sound at124 bd124 (by kernel_rfl) m124 fun G' hlo hF hE => LsOK_kn (by rw [lo124]; exact .nil)
/-- isobar/cone.differs -/
noncomputable def c112 : Code := Try.f112.body.getD .skip
theorem at112 : Try.prog.funcs[112]? = some Try.f112 := by kernel_rfl
theorem bd112 : Try.f112.body = some c112 := by kernel_rfl
theorem cl112 : Callable Try.prog 112 := callable_of at112 (by kernel_rfl) (by kernel_rfl)
abbrev a112 : Ty := T45
abbrev r112 : Ty := T3
noncomputable def G112 : Ctx := Ctx.of [(86, .pure k86), (124, .pure k124)]
theorem g112 : Sound Try.prog (G112) := sound_of (List.forall_mem_cons.2 ⟨⟨cl86, h86⟩, List.forall_mem_cons.2 ⟨⟨cl124, h124⟩, fun _ h => by cases h⟩⟩)
theorem lo112 : loopsOf (c112) = [] := by kernel_rfl
noncomputable def l112 : List Loop := []
def Q112 {α : Type} (l : Option (r112).den → α) (an : α → α → α) (x : (a112).den) : α := cl (r86).dflt (M86 (x.1.2.2.1, ((fun y1 => ((p124 (y1.1, (x.2.1, (x.2.2.1, ())))), (v124 (y1.1, (x.2.1, (x.2.2.1, ())))))), ()))) (fun u0 => l (some u0)) (l none)
theorem q112 (x : (a112).den) : runFn Try.prog E0 G112 Try.f112 l112 a112 r112 x = Q112 .leaf .any x := by kernel_rfl
def M112 (x : (a112).den) : Option (r112).den := Q112 (fun r => r) (fun _ _ => none) x
theorem m112 (x : (a112).den) : (runFn Try.prog E0 G112 Try.f112 l112 a112 r112 x).sure = M112 x := by rw [q112]; unfold M112 Q112; simp only [sure_cond, Tree.sure, sure_cl, sure_onExit, sure_onRet, sure_onPanL, sure_onNext, sure_onBrk, sure_onRetO, sure_onPan, sure_onOk, sure_onGPan]
def p112 (x : (a112).den) : Bool := (M112 x).isSome
def v112 (x : (a112).den) : (r112).den := (M112 x).getD (r112).dflt
def k112 : Con := ⟨a112, r112, p112, v112⟩
theorem h112 : Holds Try.prog 112 k112 := holds_of_M' (E := E0) follows_ok g112 eqTy_sound keyTy_sound at112 bd112 (by kernel_rfl) m112 fun G' hlo hF hE => LsOK_kn (by rw [lo112]; exact .nil)
/-- isobar/cone.alarm -/
noncomputable def c94 : Code := Try.f94.body.getD .skip
theorem at94 : Try.prog.funcs[94]? = some Try.f94 := by kernel_rfl
theorem bd94 : Try.f94.body = some c94 := by kernel_rfl
theorem cl94 : Callable Try.prog 94 := callable_of at94 (by kernel_rfl) (by kernel_rfl)
abbrev a94 : Ty := T45
abbrev r94 : Ty := T3
noncomputable def G94 : Ctx := Ctx.of [(110, .pure k110), (111, .pure k111), (112, .pure k112)]
theorem g94 : Sound Try.prog (G94) := sound_of (List.forall_mem_cons.2 ⟨⟨cl110, h110⟩, List.forall_mem_cons.2 ⟨⟨cl111, h111⟩, List.forall_mem_cons.2 ⟨⟨cl112, h112⟩, fun _ h => by cases h⟩⟩⟩)
theorem lo94 : loopsOf (c94) = [] := by kernel_rfl
noncomputable def l94 : List Loop := []
def Q94 {α : Type} (l : Option (r94).den → α) (an : α → α → α) (x : (a94).den) : α := cl (r110).dflt (M110 (x.2.1.2.1, (x.2.2.1.2.1, ()))) (fun u0 => bif (decide (u0.1 ≤ x.1.2.2.2.2.2.1)) then cl (r111).dflt (M111 (x.1, (x.2.1, (x.2.2.1, ())))) (fun u1 => bif u1.1 then l (some (true, ())) else cl (r111).dflt (M111 (x.1, (x.2.2.1, (x.2.1, ())))) (fun u2 => bif u2.1 then l (some (true, ())) else cl (r112).dflt (M112 (x.1, (x.2.1, (x.2.2.1, ())))) (fun u3 => l (some u3)) (l none)) (l none)) (l none) else l (some (false, ()))) (l none)
theorem q94 (x : (a94).den) : runFn Try.prog E0 G94 Try.f94 l94 a94 r94 x = Q94 .leaf .any x := by kernel_rfl
def M94 (x : (a94).den) : Option (r94).den := Q94 (fun r => r) (fun _ _ => none) x
theorem m94 (x : (a94).den) : (runFn Try.prog E0 G94 Try.f94 l94 a94 r94 x).sure = M94 x := by rw [q94]; unfold M94 Q94; simp only [sure_cond, Tree.sure, sure_cl, sure_onExit, sure_onRet, sure_onPanL, sure_onNext, sure_onBrk, sure_onRetO, sure_onPan, sure_onOk, sure_onGPan]
def p94 (x : (a94).den) : Bool := (M94 x).isSome
def v94 (x : (a94).den) : (r94).den := (M94 x).getD (r94).dflt
def k94 : Con := ⟨a94, r94, p94, v94⟩
theorem h94 : Holds Try.prog 94 k94 := holds_of_M' (E := E0) follows_ok g94 eqTy_sound keyTy_sound at94 bd94 (by kernel_rfl) m94 fun G' hlo hF hE => LsOK_kn (by rw [lo94]; exact .nil)
/-- isobar/cone.look -/
noncomputable def c57 : Code := Try.f57.body.getD .skip
theorem at57 : Try.prog.funcs[57]? = some Try.f57 := by kernel_rfl
theorem bd57 : Try.f57.body = some c57 := by kernel_rfl
theorem cl57 : Callable Try.prog 57 := callable_of at57 (by kernel_rfl) (by kernel_rfl)
abbrev T50 : Ty := (.map T13 .bool)
abbrev T51 : Ty := (.cons T50 .nil)
abbrev T52 : Ty := (.cons tI T51)
abbrev T53 : Ty := (.cons tI T52)
abbrev T54 : Ty := (.cons tI T53)
abbrev T55 : Ty := (.cons tI T54)
abbrev T56 : Ty := (.cons tI T55)
abbrev T57 : Ty := (.cons (.sl T4) T56)
abbrev T58 : Ty := (.cons (.sl T2) T57)
abbrev T59 : Ty := (.cons (.sl T7) T58)
abbrev T60 : Ty := (.cons tI T59)
abbrev T61 : Ty := (.agg T60)
abbrev T62 : Ty := (.cons T61 .nil)
abbrev a57 : Ty := T36
abbrev r57 : Ty := T62
noncomputable def G57 : Ctx := Ctx.of [(94, .pure k94)]
theorem g57 : Sound Try.prog (G57) := sound_of (List.forall_mem_cons.2 ⟨⟨cl94, h94⟩, fun _ h => by cases h⟩)
noncomputable def b57x0 : Code := loopBody ((loopsOf (c57))[0]?)
noncomputable def b57x0x0 : Code := loopBody ((loopsOf (b57x0))[0]?)
theorem lo57x0x0 : loopsOf (b57x0x0) = [] := by kernel_rfl
abbrev cs57x0x0 : List Pat := [.slot 1 (.ptr 1), .slot 2 (.ptr 2), .slot 3 (.mp 48), .slot 4 (.pc tI), .slot 5 (.ptr 1003050), .slot 9 (.pc (.sl T7)), .slot 10 (.pc tI), .slot 11 (.pc tI), .box 1 [.pc tI, .pc (.sl T7), .pc (.sl T2), .pc (.sl T4), .pc tI, .pc tI, .pc tI, .pc tI, .pc tI], .box 1003050 [.pc tI, .pc tI, .pc tI, .pc tI, .pc tI, .pc tI, .pc tI]]
abbrev vs57x0x0 : List Pat := [.slot 6 (.pc tI), .box 2 [.pc tI, .own 1003001 54 T7, .own 1003002 56 T2, .own 1003003 70 T4, .pc tI, .pc tI, .pc tI, .pc tI, .pc tI, .top], .mp 48 T13 .bool]
abbrev ps57x0x0 : List Pat := [.slot 1 (.ptr 1), .slot 2 (.ptr 2), .slot 3 (.mp 48), .slot 4 (.pc tI), .slot 5 (.ptr 1003050), .slot 9 (.pc (.sl T7)), .slot 10 (.pc tI), .slot 11 (.pc tI), .box 1 [.pc tI, .pc (.sl T7), .pc (.sl T2), .pc (.sl T4), .pc tI, .pc tI, .pc tI, .pc tI, .pc tI], .box 1003050 [.pc tI, .pc tI, .pc tI, .pc tI, .pc tI, .pc tI, .pc tI], .slot 6 (.pc tI), .box 2 [.pc tI, .own 1003001 54 T7, .own 1003002 56 T2, .own 1003003 70 T4, .pc tI, .pc tI, .pc tI, .pc tI, .pc tI, .top], .mp 48 T13 .bool]
def j57x0x0 : (patsTy cs57x0x0).den → (patsTy vs57x0x0).den → (patsTy ps57x0x0).den := fun c v => (c.1, (c.2.1, (c.2.2.1, (c.2.2.2.1, (c.2.2.2.2.1, (c.2.2.2.2.2.1, (c.2.2.2.2.2.2.1, (c.2.2.2.2.2.2.2.1, (c.2.2.2.2.2.2.2.2.1, (c.2.2.2.2.2.2.2.2.2.1, v))))))))))
def sp57x0x0 : (patsTy ps57x0x0).den → (patsTy cs57x0x0).den × (patsTy vs57x0x0).den := fun x => ((x.1, (x.2.1, (x.2.2.1, (x.2.2.2.1, (x.2.2.2.2.1, (x.2.2.2.2.2.1, (x.2.2.2.2.2.2.1, (x.2.2.2.2.2.2.2.1, (x.2.2.2.2.2.2.2.2.1, (x.2.2.2.2.2.2.2.2.2.1, ())))))))))), x.2.2.2.2.2.2.2.2.2.2)
abbrev wy57x0x0 : Ways := ⟨[(2, [.slot 1 (.ptr 1), .slot 2 (.ptr 2), .slot 3 (.mp 48), .slot 9 (.pc (.sl T7)), .slot 10 (.pc tI), .slot 11 (.pc tI), .box 1 [.pc tI, .pc (.sl T7), .pc (.sl T2), .pc (.sl T4), .pc tI, .pc tI, .pc tI, .pc tI, .pc tI], .box 2 [.pc tI, .own 1003001 54 T7, .own 1003002 56 T2, .own 1003003 70 T4, .pc tI, .pc tI, .pc tI, .pc tI, .pc tI, .top], .mp 48 T13 .bool])], [], []⟩
abbrev wv57x0x0 : Ways := ⟨[(2, [.box 2 [.pc tI, .own 1003001 54 T7, .own 1003002 56 T2, .own 1003003 70 T4, .pc tI, .pc tI, .pc tI, .pc tI, .pc tI, .top], .mp 48 T13 .bool])], [], []⟩
def je57x0x0 : (id : Nat) → (patsTy cs57x0x0).den → (patsTy (wayP wv57x0x0 id)).den → (patsTy (wayP wy57x0x0 id)).den := fun id => match id with | 2 => fun c y => (c.1, (c.2.1, (c.2.2.1, (c.2.2.2.2.2.1, (c.2.2.2.2.2.2.1, (c.2.2.2.2.2.2.2.1, (c.2.2.2.2.2.2.2.2.1, y))))))) | id => fun _ _ => (patsTy (wayP wy57x0x0 id)).dflt
def jr57x0x0 : (patsTy cs57x0x0).den → (patsTy (wv57x0x0).ret).den → (patsTy (wy57x0x0).ret).den := fun c y => y
def jp57x0x0 : (patsTy cs57x0x0).den → (patsTy (wv57x0x0).pan).den → (patsTy (wy57x0x0).pan).den := fun c y => y
def Z57x0x0 {α : Type} (l : RQ vs57x0x0 wv57x0x0 → α) (an : α → α → α) (c : (patsTy cs57x0x0).den) (v : (patsTy vs57x0x0).den) : α := bif (decide (v.1 < ((c.2.2.2.2.2.2.2.2.1.2.1.n : Nat) : Int))) then bif (decide (((0 : Int) ≤ v.1) ∧ (v.1 < ((c.2.2.2.2.2.2.2.2.1.2.1.n : Nat) : Int)))) then cl (r94).dflt (M94 (c.2.2.2.2.2.2.2.2.1, (c.2.2.2.2.2.2.2.2.2.1, ((c.2.2.2.2.2.2.2.2.1.2.1.g (Int.toNat v.1)), ())))) (fun u0 => bif u0.1 then l (.next ((W (v.1 + (1 : Int))), ((v.2.1.1, (v.2.1.2.1, (v.2.1.2.2.1, (v.2.1.2.2.2.1, (v.2.1.2.2.2.2.1, (v.2.1.2.2.2.2.2.1, (v.2.1.2.2.2.2.2.2.1, (v.2.1.2.2.2.2.2.2.2.1, (v.2.1.2.2.2.2.2.2.2.2.1, ((), ())))))))))), ((setMap (eqD T13) v.2.2.1 (c.2.2.2.1, (v.1, ())) true), ())))) else l (.next ((W (v.1 + (1 : Int))), ((v.2.1.1, (v.2.1.2.1, (v.2.1.2.2.1, (v.2.1.2.2.2.1, (v.2.1.2.2.2.2.1, (v.2.1.2.2.2.2.2.1, (v.2.1.2.2.2.2.2.2.1, (v.2.1.2.2.2.2.2.2.2.1, (v.2.1.2.2.2.2.2.2.2.2.1, ((), ())))))))))), v.2.2)))) (l .bad) else l .bad else l (.out (.exit 2 ((v.2.1.1, (v.2.1.2.1, (v.2.1.2.2.1, (v.2.1.2.2.2.1, (v.2.1.2.2.2.2.1, (v.2.1.2.2.2.2.2.1, (v.2.1.2.2.2.2.2.2.1, (v.2.1.2.2.2.2.2.2.2.1, (v.2.1.2.2.2.2.2.2.2.2.1, ((), ())))))))))), v.2.2)))
theorem z57x0x0 (c : (patsTy cs57x0x0).den) (v : (patsTy vs57x0x0).den) : roundQ Try.prog E0 G57 0 41 [] ps57x0x0 wy57x0x0 b57x0x0 [] (j57x0x0 c v) = Z57x0x0 (fun r => .leaf (r.lift j57x0x0 je57x0x0 jr57x0x0 jp57x0x0 c)) .any c v := by kernel_rfl
def S57x0x0 (c : (patsTy cs57x0x0).den) (v : (patsTy vs57x0x0).den) : RQ vs57x0x0 wv57x0x0 := Z57x0x0 (fun r => r) (fun _ _ => .bad) c v
theorem s57x0x0 (c : (patsTy cs57x0x0).den) (v : (patsTy vs57x0x0).den) : detQ (roundQ Try.prog E0 G57 0 41 [] ps57x0x0 wy57x0x0 b57x0x0 [] (j57x0x0 c v)) = (S57x0x0 c v).lift j57x0x0 je57x0x0 jr57x0x0 jp57x0x0 c := by rw [z57x0x0]; unfold S57x0x0 Z57x0x0; simp only [detQ_cond, lift_cond, lift_bad, detQ, detQ_cl, detQ_onExit, detQ_onRet, detQ_onPanL, detQ_onNext, detQ_onBrk, detQ_onRetO, detQ_onPan, detQ_onOk, detQ_onGPan, lift_cl, lift_onExit, lift_onRet, lift_onPanL, lift_onNext, lift_onBrk, lift_onRetO, lift_onPan, lift_onOk, lift_onGPan]
def L57x0x0 (c : (patsTy cs57x0x0).den) (v : (patsTy vs57x0x0).den) : LQ wv57x0x0 := iterQ (S57x0x0 c) big v
theorem lo57x0 : loopsOf (b57x0) = [.loop b57x0x0] := by kernel_rfl
abbrev cs57x0 : List Pat := [.slot 1 (.ptr 1), .slot 2 (.ptr 2), .slot 3 (.mp 48), .slot 9 (.pc (.sl T7)), .slot 10 (.pc tI), .box 1 [.pc tI, .pc (.sl T7), .pc (.sl T2), .pc (.sl T4), .pc tI, .pc tI, .pc tI, .pc tI, .pc tI]]
abbrev vs57x0 : List Pat := [.slot 11 (.pc tI), .box 2 [.pc tI, .own 1003001 54 T7, .own 1003002 56 T2, .own 1003003 70 T4, .pc tI, .pc tI, .pc tI, .pc tI, .pc tI, .top], .mp 48 T13 .bool]
abbrev ps57x0 : List Pat := [.slot 1 (.ptr 1), .slot 2 (.ptr 2), .slot 3 (.mp 48), .slot 9 (.pc (.sl T7)), .slot 10 (.pc tI), .box 1 [.pc tI, .pc (.sl T7), .pc (.sl T2), .pc (.sl T4), .pc tI, .pc tI, .pc tI, .pc tI, .pc tI], .slot 11 (.pc tI), .box 2 [.pc tI, .own 1003001 54 T7, .own 1003002 56 T2, .own 1003003 70 T4, .pc tI, .pc tI, .pc tI, .pc tI, .pc tI, .top], .mp 48 T13 .bool]
def j57x0 : (patsTy cs57x0).den → (patsTy vs57x0).den → (patsTy ps57x0).den := fun c v => (c.1, (c.2.1, (c.2.2.1, (c.2.2.2.1, (c.2.2.2.2.1, (c.2.2.2.2.2.1, v))))))
def sp57x0 : (patsTy ps57x0).den → (patsTy cs57x0).den × (patsTy vs57x0).den := fun x => ((x.1, (x.2.1, (x.2.2.1, (x.2.2.2.1, (x.2.2.2.2.1, (x.2.2.2.2.2.1, ())))))), x.2.2.2.2.2.2)
abbrev wy57x0 : Ways := ⟨[(0, [.slot 1 (.ptr 1), .slot 2 (.ptr 2), .slot 3 (.mp 48), .box 1 [.pc tI, .pc (.sl T7), .pc (.sl T2), .pc (.sl T4), .pc tI, .pc tI, .pc tI, .pc tI, .pc tI], .box 2 [.pc tI, .own 1003001 54 T7, .own 1003002 56 T2, .own 1003003 70 T4, .pc tI, .pc tI, .pc tI, .pc tI, .pc tI, .top], .mp 48 T13 .bool])], [], []⟩
abbrev wv57x0 : Ways := ⟨[(0, [.box 2 [.pc tI, .own 1003001 54 T7, .own 1003002 56 T2, .own 1003003 70 T4, .pc tI, .pc tI, .pc tI, .pc tI, .pc tI, .top], .mp 48 T13 .bool])], [], []⟩
def je57x0 : (id : Nat) → (patsTy cs57x0).den → (patsTy (wayP wv57x0 id)).den → (patsTy (wayP wy57x0 id)).den := fun id => match id with | 0 => fun c y => (c.1, (c.2.1, (c.2.2.1, (c.2.2.2.2.2.1, y)))) | id => fun _ _ => (patsTy (wayP wy57x0 id)).dflt
def jr57x0 : (patsTy cs57x0).den → (patsTy (wv57x0).ret).den → (patsTy (wy57x0).ret).den := fun c y => y
def jp57x0 : (patsTy cs57x0).den → (patsTy (wv57x0).pan).den → (patsTy (wy57x0).pan).den := fun c y => y
def Z57x0 {α : Type} (l : RQ vs57x0 wv57x0 → α) (an : α → α → α) (c : (patsTy cs57x0).den) (v : (patsTy vs57x0).den) : α := bif (decide (v.1 < c.2.2.2.2.1)) then bif (decide (((0 : Int) ≤ v.1) ∧ (v.1 < ((c.2.2.2.1.n : Nat) : Int)))) then onExit (L57x0x0 ((), ((), ((), (v.1, ((), (c.2.2.2.1, (c.2.2.2.2.1, (v.1, (c.2.2.2.2.2.1, ((c.2.2.2.1.g (Int.toNat v.1)), ())))))))))) ((W (v.1 + (1 : Int))), ((v.2.1.1, (v.2.1.2.1, (v.2.1.2.2.1, (v.2.1.2.2.2.1, (v.2.1.2.2.2.2.1, (v.2.1.2.2.2.2.2.1, (v.2.1.2.2.2.2.2.2.1, (v.2.1.2.2.2.2.2.2.2.1, (v.2.1.2.2.2.2.2.2.2.2.1, ((), ())))))))))), v.2.2))) 2 (fun u1 => l (.next ((W (v.1 + (1 : Int))), ((u1.1.1, (u1.1.2.1, (u1.1.2.2.1, (u1.1.2.2.2.1, (u1.1.2.2.2.2.1, (u1.1.2.2.2.2.2.1, (u1.1.2.2.2.2.2.2.1, (u1.1.2.2.2.2.2.2.2.1, (u1.1.2.2.2.2.2.2.2.2.1, ((), ())))))))))), u1.2)))) (l .bad) else l .bad else l (.out (.exit 0 ((v.2.1.1, (v.2.1.2.1, (v.2.1.2.2.1, (v.2.1.2.2.2.1, (v.2.1.2.2.2.2.1, (v.2.1.2.2.2.2.2.1, (v.2.1.2.2.2.2.2.2.1, (v.2.1.2.2.2.2.2.2.2.1, (v.2.1.2.2.2.2.2.2.2.2.1, ((), ())))))))))), v.2.2)))
theorem z57x0 (c : (patsTy cs57x0).den) (v : (patsTy vs57x0).den) : roundQ Try.prog E0 G57 0 41 [] ps57x0 wy57x0 b57x0 [.known (loopZ 0 [] ps57x0x0 fun x => spreadV wy57x0x0 je57x0x0 jr57x0x0 jp57x0x0 [] false (sp57x0x0 x).1 (L57x0x0 (sp57x0x0 x).1 (sp57x0x0 x).2) wy57x0x0.exits)] (j57x0 c v) = Z57x0 (fun r => .leaf (r.lift j57x0 je57x0 jr57x0 jp57x0 c)) .any c v := by kernel_rfl
def S57x0 (c : (patsTy cs57x0).den) (v : (patsTy vs57x0).den) : RQ vs57x0 wv57x0 := Z57x0 (fun r => r) (fun _ _ => .bad) c v
theorem s57x0 (c : (patsTy cs57x0).den) (v : (patsTy vs57x0).den) : detQ (roundQ Try.prog E0 G57 0 41 [] ps57x0 wy57x0 b57x0 [.known (loopZ 0 [] ps57x0x0 fun x => spreadV wy57x0x0 je57x0x0 jr57x0x0 jp57x0x0 [] false (sp57x0x0 x).1 (L57x0x0 (sp57x0x0 x).1 (sp57x0x0 x).2) wy57x0x0.exits)] (j57x0 c v)) = (S57x0 c v).lift j57x0 je57x0 jr57x0 jp57x0 c := by rw [z57x0]; unfold S57x0 Z57x0; simp only [detQ_cond, lift_cond, lift_bad, detQ, detQ_cl, detQ_onExit, detQ_onRet, detQ_onPanL, detQ_onNext, detQ_onBrk, detQ_onRetO, detQ_onPan, detQ_onOk, detQ_onGPan, lift_cl, lift_onExit, lift_onRet, lift_onPanL, lift_onNext, lift_onBrk, lift_onRetO, lift_onPan, lift_onOk, lift_onGPan]
def L57x0 (c : (patsTy cs57x0).den) (v : (patsTy vs57x0).den) : LQ wv57x0 := iterQ (S57x0 c) big v
theorem lo57 : loopsOf (c57) = [.loop b57x0] := by kernel_rfl
noncomputable def l57 : List Loop := [.known (loopZ 0 [] ps57x0 fun x => spreadV wy57x0 je57x0 jr57x0 jp57x0 [] false (sp57x0 x).1 (L57x0 (sp57x0 x).1 (sp57x0 x).2) wy57x0.exits)]
def Q57 {α : Type} (l : Option (r57).den → α) (an : α → α → α) (x : (a57).den) : α := onExit (L57x0 ((), ((), ((), (x.1.2.1, (((x.1.2.1.n : Nat) : Int), (x.1, ())))))) ((0 : Int), (((0 : Int), ((⟨0, fun i => ((0 : Int), ((0 : Int), ((0 : Int), ((0 : Int), ((0 : Int), ((0 : Int), ((0 : Int), ())))))))⟩ : Sl _), ((⟨0, fun i => ((0 : Int), ((0 : Int), ((0 : Int), ())))⟩ : Sl _), ((⟨0, fun i => ((0 : Int), ((0 : Int), ((0 : Int), ((0 : Int), ()))))⟩ : Sl _), ((0 : Int), ((0 : Int), ((0 : Int), ((0 : Int), ((0 : Int), ((), ())))))))))), ((fun y1 => none), ())))) 0 (fun u2 => l (some ((x.1.1, (x.1.2.1, (x.1.2.2.1, (x.1.2.2.2.1, (x.1.2.2.2.2.1, (x.1.2.2.2.2.2.1, (x.1.2.2.2.2.2.2.1, (x.1.2.2.2.2.2.2.2.1, (x.1.2.2.2.2.2.2.2.2.1, u2.2))))))))), ()))) (l none)
theorem q57 (x : (a57).den) : runFn Try.prog E0 G57 Try.f57 l57 a57 r57 x = Q57 .leaf .any x := by kernel_rfl
def M57 (x : (a57).den) : Option (r57).den := Q57 (fun r => r) (fun _ _ => none) x
theorem m57 (x : (a57).den) : (runFn Try.prog E0 G57 Try.f57 l57 a57 r57 x).sure = M57 x := by rw [q57]; unfold M57 Q57; simp only [sure_cond, Tree.sure, sure_cl, sure_onExit, sure_onRet, sure_onPanL, sure_onNext, sure_onBrk, sure_onRetO, sure_onPan, sure_onOk, sure_onGPan]
def p57 (x : (a57).den) : Bool := (M57 x).isSome
def v57 (x : (a57).den) : (r57).den := (M57 x).getD (r57).dflt
def k57 : Con := ⟨a57, r57, p57, v57⟩
theorem h57 : Holds Try.prog 57 k57 := holds_of_M' (E := E0) follows_ok g57 eqTy_sound keyTy_sound at57 bd57 (by kernel_rfl) m57 fun G' hlo hF hE => LsOK_kn (by rw [lo57]; exact .cons (loopV_ok hE hF hlo (LsOK_kn (by rw [lo57x0]; exact .cons (loopV_ok hE hF hlo (LsOK_kn (by rw [lo57x0x0]; exact .nil)) (by kernel_rfl) (by kernel_rfl) sp57x0x0 (fun _ => rfl) (fun _ _ => rfl) (s57x0x0) big) (.nil))) (by kernel_rfl) (by kernel_rfl) sp57x0 (fun _ => rfl) (fun _ _ => rfl) (s57x0) big) (.nil))
/-- (isobar/cone.watch).alarms -/
noncomputable def c69 : Code := Try.f69.body.getD .skip
theorem at69 : Try.prog.funcs[69]? = some Try.f69 := by kernel_rfl
theorem bd69 : Try.f69.body = some c69 := by kernel_rfl
theorem cl69 : Callable Try.prog 69 := callable_of at69 (by kernel_rfl) (by kernel_rfl)
abbrev fst69 : Ty := T62
abbrev cap69 : Ty := .nil
abbrev T63 : Ty := (.cons T13 .nil)
abbrev e69 : Ty := T63
theorem none_sound : Sound Try.prog (fun _ => none) := fun _ _ h => by cases h
abbrev al_R : Ty := .cons tI (.cons tI (.cons tI (.cons tI (.cons tI (.cons tI (.cons tI .nil))))))
abbrev al_L : Ty := .cons tI (.cons tI (.cons tI .nil))
abbrev al_P : Ty := .cons tI (.cons tI (.cons tI (.cons tI .nil)))
abbrev al_pr : Ty := .cons tI (.cons tI .nil)
abbrev al_kf : Ty := .cons tI (.cons (.sl al_R) (.cons (.sl al_L) (.cons (.sl al_P) (.cons tI (.cons tI (.cons tI (.cons tI (.cons tI (.cons (.map (.agg al_pr) .bool) .nil)))))))))
abbrev al_bx : List CPat := [.pc tI, .pc (.sl al_R), .pc (.sl al_L), .pc (.sl al_P), .pc tI, .pc tI, .pc tI, .pc tI, .pc tI, .pc (.map (.agg al_pr) .bool)]
abbrev al_eF : Ty := .cons (.agg al_pr) .nil
abbrev al_ps0 : List Pat := [.tr al_eF, .slot 1 .yld, .slot 2 (.ptr 2), .slot 10 (.pc tI), .slot 11 (.pc tI), .box 2 al_bx]
abbrev al_ps2 : List Pat := [.tr al_eF, .slot 1 .yld, .slot 2 (.ptr 2), .slot 4 (.pc tI), .slot 10 (.pc tI), .slot 11 (.pc tI), .slot 17 (.pc tI), .slot 18 (.pc tI), .box 2 al_bx]
abbrev al_wy2 : Ways := ⟨[(2, al_ps0)], [.tr al_eF], [.tr al_eF]⟩
abbrev al_wy0 : Ways := ⟨[(0, [.tr al_eF])], [.tr al_eF], [.tr al_eF]⟩
noncomputable def al_b0 : Code := ((Try.f69.body).bind bodyOf).getD .skip
noncomputable def al_b2 : Code := (bodyOf al_b0).getD .skip
def al_itm (i j : Int) : al_eF.den := ((i, (j, ())), ())
def al_is (k : al_kf.den) (i j : Int) : Bool := (k.2.2.2.2.2.2.2.2.2.1 (i, (j, ()))).getD false
def al_n (k : al_kf.den) : Int := (k.2.1.n : Int)
def al_push (tr : Sl al_eF.den) (i : al_eF.den) : Sl al_eF.den := catSl tr ⟨1, fun _ => i⟩
theorem al_round2 (tr : Sl al_eF.den) (i n0 i0 n j : Int) (k : al_kf.den) :
    roundT true Try.prog E0 (fun _ => none) 0 36 [] al_ps2 al_wy2 al_b2 [] (tr, (), (), i, n0, i0, n, j, k, ()) =
      bif decide (j < n) then bif al_is k i j then
        .any (.leaf (.next (al_push tr (al_itm i j), (), (), i, n0, i0, n, W (j + 1), k, ())))
          (.any (.leaf (.out (.stop al_eF (al_push tr (al_itm i j))))) (.leaf (.out (.foreign al_eF (al_push tr (al_itm i j))))))
        else .leaf (.next (tr, (), (), i, n0, i0, n, W (j + 1), k, ()))
      else .leaf (.out (.exit 2 al_ps0 (tr, (), (), n0, i0, k, ()))) := by
  kernel_rfl

def al_yl (id : Nat) (qs : List Pat) (y : (patsTy qs).den) (T : Sl al_eF.den) : Tree LO := .any (.leaf (.exit id qs y)) (.any (.leaf (.stop al_eF T)) (.leaf (.foreign al_eF T)))
theorem al_yl_fine {id : Nat} {qs : List Pat} {y : (patsTy qs).den} {T : Sl al_eF.den} {o : LO} (h : (al_yl id qs y T).Has o) : o ≠ .bad := by
  rcases h with h | h | h <;> (rw [show o = _ from h]; simp)
theorem al_yl_self {id : Nat} {qs : List Pat} {y : (patsTy qs).den} {T : Sl al_eF.den} : ∀ o, (al_yl id qs y T).Has o → Cov (al_yl id qs y T) o := fun o h => ⟨o, h, .refl (al_yl_fine h)⟩
theorem al_yl_stop {id : Nat} {qs : List Pat} {y : (patsTy qs).den} {T T' : Sl al_eF.den} (h : T'.list <+: T.list) : Cov (al_yl id qs y T) (.stop al_eF T') := ⟨_, .inr (.inl rfl), .stop h⟩
theorem al_yl_foreign {id : Nat} {qs : List Pat} {y : (patsTy qs).den} {T T' : Sl al_eF.den} (h : T'.list <+: T.list) : Cov (al_yl id qs y T) (.foreign al_eF T') := ⟨_, .inr (.inr rfl), .foreign h⟩
theorem al_br_true {b : Bool} {l r : Tree LO} (hb : b = true) : (∀ o, (Tree.br b l r).Has o → l.Has o) ∧ ∀ o, Cov l o → Cov (Tree.br b l r) o := by
  subst hb
  exact ⟨fun o h => h, fun o ⟨o', h1, h2⟩ => ⟨o', h1, h2⟩⟩
theorem al_br_fine {b : Bool} {l : Tree LO} (h : Fine (Tree.br b l (.leaf .bad))) : b = true := by
  cases b with
  | true => rfl
  | false => exact absurd rfl (h .bad rfl)
theorem al_push_list (tr : Sl al_eF.den) (i : al_eF.den) : (al_push tr i).list = tr.list ++ [i] := list_append tr i

def al_step (k : al_kf.den) (i j : Int) (tr : Sl al_eF.den) : Sl al_eF.den := bif al_is k i j then al_push tr (al_itm i j) else tr
def al_acc (k : al_kf.den) (i : Int) : Nat → Int → Sl al_eF.den → Sl al_eF.den
  | 0, _, tr => tr
  | m + 1, j, tr => al_acc k i m (j + 1) (al_step k i j tr)
theorem al_step_pre (k : al_kf.den) (i j : Int) (tr : Sl al_eF.den) : tr.list <+: (al_step k i j tr).list := by
  unfold al_step
  cases al_is k i j with
  | true => rw [cond_true, al_push_list]; exact List.prefix_append _ _
  | false => exact List.prefix_refl _
theorem al_acc_pre (k : al_kf.den) (i : Int) : ∀ (m : Nat) (j : Int) (tr : Sl al_eF.den), tr.list <+: (al_acc k i m j tr).list
  | 0, _, tr => List.prefix_refl _
  | m + 1, j, tr => (al_step_pre k i j tr).trans (al_acc_pre k i m (j + 1) _)
def al_ok (n j : Int) : Bool := decide (n ≤ 9223372036854775806 ∧ 0 ≤ j)
def al_f2 : (patsTy al_ps2).den → Tree LO := fun (tr, _, _, i, n0, i0, n, j, k, _) =>
  .br (al_ok n j) (al_yl 2 al_ps0 (al_acc k i (n - j).toNat j tr, (), (), n0, i0, k, ()) (al_acc k i (n - j).toNat j tr)) (.leaf .bad)
def al_m2 : (patsTy al_ps2).den → Nat := fun (_, _, _, _, _, _, n, j, _, _) => (n - j).toNat
theorem al_loop2_round' (tr : Sl al_eF.den) (i n0 i0 n j : Int) (k : al_kf.den) (hf : Fine (al_f2 (tr, (), (), i, n0, i0, n, j, k, ()))) :
    (roundT true Try.prog E0 (fun _ => none) 0 36 [] al_ps2 al_wy2 al_b2 [] (tr, (), (), i, n0, i0, n, j, k, ())).All (ResOk al_m2 al_f2 (tr, (), (), i, n0, i0, n, j, k, ())) := by
  have hok : al_ok n j = true := al_br_fine hf
  obtain ⟨_, e0⟩ := al_br_true (l := al_yl 2 al_ps0 (al_acc k i (n - j).toNat j tr, (), (), n0, i0, k, ()) (al_acc k i (n - j).toNat j tr)) (r := .leaf .bad) hok
  obtain ⟨h1, h2⟩ : n ≤ 9223372036854775806 ∧ 0 ≤ j := of_decide_eq_true hok
  rw [al_round2]
  by_cases ht : j < n
  · have hW : W (j + 1) = j + 1 := IntWalk.i64_in _ ⟨by omega, by omega⟩
    have hn : (n - j).toNat = (n - (j + 1)).toNat + 1 := by omega
    have hok' : al_ok n (j + 1) = true := decide_eq_true ⟨h1, by omega⟩
    simp only [ht, decide_true, cond_true, hW]
    have next : ∀ tr', al_step k i j tr = tr' → ResOk al_m2 al_f2 (tr, (), (), i, n0, i0, n, j, k, ()) (.next (tr', (), (), i, n0, i0, n, j + 1, k, ())) := fun tr' htr => by
      obtain ⟨e1, _⟩ := al_br_true (l := al_yl 2 al_ps0 (al_acc k i (n - (j + 1)).toNat (j + 1) tr', (), (), n0, i0, k, ()) (al_acc k i (n - (j + 1)).toNat (j + 1) tr')) (r := .leaf .bad) hok'
      refine ⟨?_, fun o' ho => ?_⟩
      · show (n - (j + 1)).toNat < (n - j).toNat
        omega
      · have := e1 o' ho
        rw [show al_acc k i (n - (j + 1)).toNat (j + 1) tr' = al_acc k i (n - j).toNat j tr by rw [hn, ← htr]; rfl] at this
        exact e0 o' (al_yl_self o' this)
    cases c1 : al_is k i j with
    | false => exact next tr (by simp [al_step, c1])
    | true =>
      have hs : al_step k i j tr = al_push tr (al_itm i j) := by simp only [al_step, c1, cond_true]
      have hp : (al_push tr (al_itm i j)).list <+: (al_acc k i (n - j).toNat j tr).list := by
        rw [hn, ← hs]; exact al_acc_pre k i _ _ _
      exact ⟨next _ hs, e0 _ (al_yl_stop hp), e0 _ (al_yl_foreign hp)⟩
  · have ht' : decide (j < n) = false := decide_eq_false ht
    rw [ht', cond_false]
    have hn : (n - j).toNat = 0 := by omega
    refine e0 _ ⟨_, .inl rfl, ?_⟩
    rw [hn]
    exact .refl (by simp)
theorem al_loop2_round (x : (patsTy al_ps2).den) (hf : Fine (al_f2 x)) : (roundT true Try.prog E0 (fun _ => none) 0 36 [] al_ps2 al_wy2 al_b2 [] x).All (ResOk al_m2 al_f2 x) := by
  obtain ⟨tr, ⟨⟩, ⟨⟩, i, n0, i0, n, j, k, ⟨⟩⟩ := x
  exact al_loop2_round' tr i n0 i0 n j k hf

noncomputable abbrev al_ls0 : List Loop := [.known (loopF 0 [] al_ps2 al_f2)]
def al_row (k : al_kf.den) (i : Int) (tr : Sl al_eF.den) : Sl al_eF.den := al_acc k i (al_n k - 0).toNat 0 tr
theorem al_round0 (tr : Sl al_eF.den) (n i : Int) (k : al_kf.den) :
    roundT true Try.prog E0 (fun _ => none) 0 36 [] al_ps0 al_wy0 al_b0 al_ls0 (tr, (), (), n, i, k, ()) =
      bif decide (i < n) then
        bif al_ok (al_n k) 0 then
          .any (.leaf (.next (al_row k i tr, (), (), n, W (i + 1), k, ())))
            (.any (.leaf (.out (.stop al_eF (al_row k i tr)))) (.leaf (.out (.foreign al_eF (al_row k i tr)))))
        else .leaf (.out .bad)
      else .leaf (.out (.exit 0 [.tr al_eF] (tr, ()))) := by
  kernel_rfl
theorem al_row_pre (k : al_kf.den) (i : Int) (tr : Sl al_eF.den) : tr.list <+: (al_row k i tr).list := al_acc_pre k i _ _ _
def al_all (k : al_kf.den) : Nat → Int → Sl al_eF.den → Sl al_eF.den
  | 0, _, tr => tr
  | m + 1, i, tr => al_all k m (i + 1) (al_row k i tr)
theorem al_all_pre (k : al_kf.den) : ∀ (m : Nat) (i : Int) (tr : Sl al_eF.den), tr.list <+: (al_all k m i tr).list
  | 0, _, tr => List.prefix_refl _
  | m + 1, i, tr => (al_row_pre k i tr).trans (al_all_pre k m (i + 1) _)
def al_f0 : (patsTy al_ps0).den → Tree LO := fun (tr, _, _, n, i, k, _) =>
  .br (al_ok n i && al_ok (al_n k) 0) (al_yl 0 [.tr al_eF] (al_all k (n - i).toNat i tr, ()) (al_all k (n - i).toNat i tr)) (.leaf .bad)
def al_m0 : (patsTy al_ps0).den → Nat := fun (_, _, _, n, i, _, _) => (n - i).toNat
theorem al_loop0_round' (tr : Sl al_eF.den) (n i : Int) (k : al_kf.den) (hf : Fine (al_f0 (tr, (), (), n, i, k, ()))) :
    (roundT true Try.prog E0 (fun _ => none) 0 36 [] al_ps0 al_wy0 al_b0 al_ls0 (tr, (), (), n, i, k, ())).All (ResOk al_m0 al_f0 (tr, (), (), n, i, k, ())) := by
  have hok : (al_ok n i && al_ok (al_n k) 0) = true := al_br_fine hf
  obtain ⟨_, e0⟩ := al_br_true (l := al_yl 0 [.tr al_eF] (al_all k (n - i).toNat i tr, ()) (al_all k (n - i).toNat i tr)) (r := .leaf .bad) hok
  rw [Bool.and_eq_true] at hok
  obtain ⟨h1, h2⟩ : n ≤ 9223372036854775806 ∧ 0 ≤ i := of_decide_eq_true hok.1
  rw [al_round0]
  by_cases ht : i < n
  · have hW : W (i + 1) = i + 1 := IntWalk.i64_in _ ⟨by omega, by omega⟩
    have hn : (n - i).toNat = (n - (i + 1)).toNat + 1 := by omega
    have hok' : (al_ok n (i + 1) && al_ok (al_n k) 0) = true := by rw [hok.2, Bool.and_true]; exact decide_eq_true ⟨h1, by omega⟩
    simp only [ht, decide_true, cond_true, hW, hok.2]
    obtain ⟨e1, _⟩ := al_br_true (l := al_yl 0 [.tr al_eF] (al_all k (n - (i + 1)).toNat (i + 1) (al_row k i tr), ()) (al_all k (n - (i + 1)).toNat (i + 1) (al_row k i tr))) (r := .leaf .bad) hok'
    have hp : (al_row k i tr).list <+: (al_all k (n - i).toNat i tr).list := by
      rw [hn]; exact al_all_pre k _ _ _
    refine ⟨⟨?_, fun o' ho => ?_⟩, e0 _ (al_yl_stop hp), e0 _ (al_yl_foreign hp)⟩
    · show (n - (i + 1)).toNat < (n - i).toNat
      omega
    · have := e1 o' ho
      rw [show al_all k (n - (i + 1)).toNat (i + 1) (al_row k i tr) = al_all k (n - i).toNat i tr by rw [hn]; rfl] at this
      exact e0 o' (al_yl_self o' this)
  · have ht' : decide (i < n) = false := decide_eq_false ht
    rw [ht', cond_false]
    have hn : (n - i).toNat = 0 := by omega
    refine e0 _ ⟨_, .inl rfl, ?_⟩
    rw [hn]
    exact .refl (by simp)
theorem al_loop0_round (x : (patsTy al_ps0).den) (hf : Fine (al_f0 x)) : (roundT true Try.prog E0 (fun _ => none) 0 36 [] al_ps0 al_wy0 al_b0 al_ls0 x).All (ResOk al_m0 al_f0 x) := by
  obtain ⟨tr, ⟨⟩, ⟨⟩, n, i, k, ⟨⟩⟩ := x
  exact al_loop0_round' tr n i k hf
def al_items (k : al_kf.den) : Sl al_eF.den := al_all k (al_n k - 0).toNat 0 ⟨0, fun _ => al_eF.dflt⟩
def ip69 (x : (fst69).den) (_ : (cap69).den) : Bool := al_ok (al_n x.1) 0
def ii69 (x : (fst69).den) (_ : (cap69).den) : Sl (e69).den := al_items x.1
def i69 : ICon := ⟨fst69, cap69, e69, ip69, ii69⟩
noncomputable abbrev al_ls : List Loop := [.known (loopF 0 [] al_ps0 al_f0)]
theorem al_run69 (k : al_kf.den) : runI Try.prog E0 (fun _ => none) Try.f69 al_ls i69 (k, ()) () =
    bif al_ok (al_n k) 0 && al_ok (al_n k) 0 then .any (.leaf (.full ⟨al_eF, true, al_items k⟩)) (.any (.leaf (.stop ⟨al_eF, false, al_items k⟩)) (.leaf (.foreign ⟨al_eF, false, al_items k⟩)))
    else .leaf .bad := by
  kernel_rfl
theorem al_loops69 (G' : Gh) (h0 : G'.lo = 0) (hok : G'.Ok Try.prog) : LsOK Try.prog 36 G' 69 Fence.wide 0 c69 al_ls := by
  have hE : Env Try.prog E0 (fun _ => none) G' Fence.wide := ⟨follows_ok, none_sound, eqTy_sound, keyTy_sound, hok, .wide, fun _ => rfl⟩
  have l2 : LoopOK Try.prog 36 G' 69 Fence.wide 0 (.loop al_b2) (loopF 0 [] al_ps2 al_f2) := by
    have := loop_ok (fid := 69) (r := 0) (N := 36) (dfr := []) hE (tr := true) (.inl rfl) (ps := al_ps2) (wy := al_wy2) (body := al_b2) (ls := []) LsOK_nil (by kernel_rfl) (by kernel_rfl) al_f2 al_m2 (by rw [h0]; exact al_loop2_round)
    rw [h0] at this; exact this
  have l0 : LoopOK Try.prog 36 G' 69 Fence.wide 0 (.loop al_b0) (loopF 0 [] al_ps0 al_f0) := by
    have := loop_ok (fid := 69) (r := 0) (N := 36) (dfr := []) hE (tr := true) (.inl rfl) (ps := al_ps0) (wy := al_wy0) (body := al_b0) (ls := al_ls0) (LsOK_one l2 (by kernel_rfl) (by kernel_rfl)) (by kernel_rfl) (by kernel_rfl) al_f0 al_m0 (by rw [h0]; exact al_loop0_round)
    rw [h0] at this; exact this
  exact LsOK_one l0 (by kernel_rfl) (by kernel_rfl)
theorem h69 : IHolds Try.prog 69 i69 := by
  refine iholds_of_run follows_ok none_sound eqTy_sound keyTy_sound (E := E0) at69 bd69 (ls := al_ls) i69 rfl rfl (Nat.le_of_ble_eq_true (by kernel_rfl)) (by kernel_rfl) (fun G' h0 hok _ => al_loops69 G' h0 hok) ?_
  rintro ⟨k, ⟨⟩⟩ ⟨⟩ hp
  rw [al_run69]
  have hp : al_ok (al_n k) 0 = true := hp
  rw [hp, Bool.and_self, cond_true]
  exact ⟨⟨_, rfl, rfl⟩, ⟨_, rfl, List.prefix_refl _⟩, _, rfl, List.prefix_refl _⟩

/-- (isobar/cone.watch).sight -/
noncomputable def c102 : Code := Try.f102.body.getD .skip
theorem at102 : Try.prog.funcs[102]? = some Try.f102 := by kernel_rfl
theorem bd102 : Try.f102.body = some c102 := by kernel_rfl
theorem cl102 : Callable Try.prog 102 := callable_of at102 (by kernel_rfl) (by kernel_rfl)
abbrev T64 : Ty := (.cons T13 T42)
abbrev T65 : Ty := (.cons T61 T64)
abbrev a102 : Ty := T65
abbrev r102 : Ty := T1
noncomputable def G102 : Ctx := Ctx.of []
theorem g102 : Sound Try.prog (G102) := sound_of (fun _ h => by cases h)
theorem lo102 : loopsOf (c102) = [] := by kernel_rfl
noncomputable def l102 : List Loop := []
def Q102 {α : Type} (l : Option (r102).den → α) (an : α → α → α) (x : (a102).den) : α := bif (decide (((0 : Int) ≤ x.2.1.1) ∧ (x.2.1.1 < ((x.1.2.1.n : Nat) : Int)))) then bif (decide (((0 : Int) ≤ x.2.1.2.1) ∧ (x.2.1.2.1 < ((x.1.2.1.n : Nat) : Int)))) then bif (decide (((0 : Int) ≤ x.2.1.1) ∧ (x.2.1.1 < ((x.2.2.1.n : Nat) : Int)))) then bif (decide (((0 : Int) ≤ x.2.1.2.1) ∧ (x.2.1.2.1 < ((x.2.2.1.n : Nat) : Int)))) then l (some ((mx (W ((x.1.2.1.g (Int.toNat x.2.1.1)).2.1 + (x.2.2.1.g (Int.toNat x.2.1.1)).1)) (W ((x.1.2.1.g (Int.toNat x.2.1.2.1)).2.1 + (x.2.2.1.g (Int.toNat x.2.1.2.1)).1))), ((W ((mx (x.1.2.1.g (Int.toNat x.2.1.1)).2.1 (x.1.2.1.g (Int.toNat x.2.1.2.1)).2.1) + x.1.2.2.2.2.2.2.1)), ()))) else l none else l none else l none else l none
theorem q102 (x : (a102).den) : runFn Try.prog E0 G102 Try.f102 l102 a102 r102 x = Q102 .leaf .any x := by kernel_rfl
def M102 (x : (a102).den) : Option (r102).den := Q102 (fun r => r) (fun _ _ => none) x
theorem m102 (x : (a102).den) : (runFn Try.prog E0 G102 Try.f102 l102 a102 r102 x).sure = M102 x := by rw [q102]; unfold M102 Q102; simp only [sure_cond, Tree.sure, sure_cl, sure_onExit, sure_onRet, sure_onPanL, sure_onNext, sure_onBrk, sure_onRetO, sure_onPan, sure_onOk, sure_onGPan]
def p102 (x : (a102).den) : Bool := (M102 x).isSome
def v102 (x : (a102).den) : (r102).den := (M102 x).getD (r102).dflt
def k102 : Con := ⟨a102, r102, p102, v102⟩
theorem h102 : Holds Try.prog 102 k102 := holds_of_M' (E := E0) follows_ok g102 eqTy_sound keyTy_sound at102 bd102 (by kernel_rfl) m102 fun G' hlo hF hE => LsOK_kn (by rw [lo102]; exact .nil)
/-- (isobar/cone.watch).must -/
noncomputable def c96 : Code := Try.f96.body.getD .skip
theorem at96 : Try.prog.funcs[96]? = some Try.f96 := by kernel_rfl
theorem bd96 : Try.f96.body = some c96 := by kernel_rfl
theorem cl96 : Callable Try.prog 96 := callable_of at96 (by kernel_rfl) (by kernel_rfl)
abbrev r96 : Ty := T0
abbrev ps96 : List Pat := [.agg 0 tX, .slot 1 (.pc tL)]
abbrev pans96 : List (Nat × Ty) := [(125, .agg (.cons tI .nil))]
noncomputable def G96 : Ctx := Ctx.of [(69, .iter i69), (102, .pure k102)]
theorem g96 : Sound Try.prog (G96) := sound_of (List.forall_mem_cons.2 ⟨⟨cl69, h69⟩, List.forall_mem_cons.2 ⟨⟨cl102, h102⟩, fun _ h => by cases h⟩⟩)
noncomputable def b96x0 : Code := rangeBody ((loopsOf (c96))[0]?)
noncomputable def as96x0 : Code := rangeAs ((loopsOf (c96))[0]?)
abbrev mp96x0 : List Pat := [.slot 2 (.ptr 102), .slot 3 (.ptr 103), .slot 5 (.ptr 144), .box 102 [.pc tI, .pc (.sl T7), .pc (.sl T2), .pc (.sl T4), .pc tI, .pc tI, .pc tI, .pc tI, .pc tI, .pc T50], .box 103 [.pc (.sl T0)], .box 144 [.pc tI]]
theorem lo96x0 : loopsOf (b96x0) = [] := by kernel_rfl
def Z96x0 {α : Type} (l : RO mp96x0 → α) (an : α → α → α) (x : (patsTy mp96x0).den) (it : Ty.den T63) : α := cl (r102).dflt (M102 (x.2.2.2.1, (it.1, x.2.2.2.2.1))) (fun u0 => bif (decide (u0.1 < u0.2.1)) then bif (decide (x.2.2.2.2.2.1.1 < (0 : Int))) then l (.next ((), ((), ((), (x.2.2.2.1, (x.2.2.2.2.1, ((u0.1, ()), ()))))))) else bif (decide (u0.1 < x.2.2.2.2.2.1.1)) then l (.next ((), ((), ((), (x.2.2.2.1, (x.2.2.2.2.1, ((u0.1, ()), ()))))))) else l (.next ((), ((), ((), (x.2.2.2.1, (x.2.2.2.2.1, (x.2.2.2.2.2.1, ()))))))) else l (.next ((), ((), ((), (x.2.2.2.1, (x.2.2.2.2.1, (x.2.2.2.2.2.1, ())))))))) (l .bad)
theorem z96x0 (x : (patsTy mp96x0).den) (it : Ty.den T63) : stepR Try.prog E0 G96 100 500000 39 [11] as96x0 b96x0 [] [] T63 mp96x0 x it = Z96x0 .leaf .any x it := by kernel_rfl
def S96x0 (x : (patsTy mp96x0).den) (it : Ty.den T63) : RO mp96x0 := Z96x0 (fun r => r) (fun _ _ => .bad) x it
theorem s96x0 (x : (patsTy mp96x0).den) (it : Ty.den T63) : (stepR Try.prog E0 G96 100 500000 39 [11] as96x0 b96x0 [] [] T63 mp96x0 x it).detB .bad = S96x0 x it := by rw [z96x0]; unfold S96x0 Z96x0; simp only [detB_cond, Tree.detB, detB_cl, detB_onExit, detB_onRet, detB_onPanL, detB_onNext, detB_onBrk, detB_onRetO, detB_onPan, detB_onOk, detB_onGPan]
def L96x0 (x : (patsTy mp96x0).den) (l : List (Ty.den T63)) : RO mp96x0 := runAllD S96x0 x l
theorem lo96 : loopsOf (c96) = [.rangeFunc (.tmp 10) #[11] as96x0 b96x0] := by kernel_rfl
noncomputable def l96 : List Loop := [.known (rangeD 100 [] 10 T63 mp96x0 [] [] (fun x l => L96x0 x l))]
abbrev T66 : Ty := (.agg T0)
def Q96 {α : Type} (l : GO r96 (objPats ps96) → α) (an : α → α → α) (x : (patsTy ps96).den) : α := bif (ip69 (x.1, ()) ()) then onNext (L96x0 ((), ((), ((), (x.1, (x.2, (((-1 : Int), ()), ())))))) (Sl.list (ii69 (x.1, ()) ()))) (fun u1 => bif (decide (u1.2.2.2.2.2.1.1 < (0 : Int))) then l (.pan 125 T66 (((u1.2.2.2.2.1.1.n : Nat) : Int), ()) ()) else l (.ok u1.2.2.2.2.2.1 ())) (onRetO (L96x0 ((), ((), ((), (x.1, (x.2, (((-1 : Int), ()), ())))))) (Sl.list (ii69 (x.1, ()) ()))) (fun u2 => l .bad) (l .bad)) else l .bad
theorem q96 (x : (patsTy ps96).den) : runG Try.prog E0 G96 Try.f96 l96 100 r96 ps96 x = Q96 .leaf .any x := by kernel_rfl
def U96 (x : (patsTy ps96).den) : GO r96 (objPats ps96) := Q96 (fun r => r) (fun _ _ => .bad) x
theorem m96 (x : (patsTy ps96).den) : (runG Try.prog E0 G96 Try.f96 l96 100 r96 ps96 x).detB .bad = U96 x := by rw [q96]; unfold U96 Q96; simp only [detB_cond, Tree.detB, detB_cl, detB_onExit, detB_onRet, detB_onPanL, detB_onNext, detB_onBrk, detB_onRetO, detB_onPan, detB_onOk, detB_onGPan]
theorem h96 : GHolds Try.prog 96 (gappD Try.f96.ntmps r96 ps96 pans96 U96) := gappD_holds (E := E0) follows_ok g96 eqTy_sound keyTy_sound at96 bd96 (by kernel_rfl) (fun G' hlo hF hE => LsOK_kn (by rw [lo96]; exact .cons (rangeD_ok hE hF hlo at96 (by kernel_rfl) (by kernel_rfl) (by kernel_rfl) (by kernel_rfl) (by kernel_rfl) (fun G' hlo hF l hE => LsOK_nil) (fun G' hlo hF l hE => LsOK_kn (by rw [lo96x0]; exact .nil)) s96x0) (.nil))) pans96 m96
/-- (isobar/cone.watch).first$1 -/
noncomputable def c95 : Code := Try.f95.body.getD .skip
theorem at95 : Try.prog.funcs[95]? = some Try.f95 := by kernel_rfl
theorem bd95 : Try.f95.body = some c95 := by kernel_rfl
theorem cl95 : Callable Try.prog 95 := callable_of at95 (by kernel_rfl) (by kernel_rfl)
abbrev ps95 : List Pat := [.slot 0 (.ptr 4), .slot 1 (.ptr 5), .box 4 [.pc tI], .box 5 [.pc .bool]]
noncomputable def G95 : Ctx := Ctx.of []
theorem g95 : Sound Try.prog (G95) := sound_of (fun _ h => by cases h)
noncomputable def rest95 : Code := match c95 with | .seq _ r => r | _ => .skip
theorem gbad95 : GHolds Try.prog 95 (fun _ _ _ _ => .leaf .bad) := fun _ _ _ _ _ _ _ _ _ _ _ _ _ _ _ _ hall => absurd rfl (hall .bad rfl)
noncomputable def d95 : DApp := dapp Try.f95.ntmps ps95 (runD Try.prog E0 G95 Try.f95.ntmps rest95 [] 100 ps95 5)
noncomputable def op95 : Oper := match c95 with | .seq (.region _ ops _) _ => ops.toList.headD default | _ => default
noncomputable def rid95 : Nat := match c95 with | .seq (.region r _ _) _ => r | _ => 0
noncomputable def cal95 : Call := match op95.op with | .call c => c | _ => default
theorem dh95 : DHolds Try.prog 95 d95 := dholds_of_run (E := E0) (o := op95) (rid := rid95) (c := cal95) follows_ok g95 eqTy_sound keyTy_sound at95 (rest := rest95) (by kernel_rfl) (by kernel_rfl) (by kernel_rfl) (by kernel_rfl) (by kernel_rfl) (by kernel_rfl) (by kernel_rfl) (by kernel_rfl) (by kernel_rfl) fun G' _ _ _ => LsOK_nil
/-- (isobar/cone.watch).first -/
noncomputable def c58 : Code := Try.f58.body.getD .skip
theorem at58 : Try.prog.funcs[58]? = some Try.f58 := by kernel_rfl
theorem bd58 : Try.f58.body = some c58 := by kernel_rfl
theorem cl58 : Callable Try.prog 58 := callable_of at58 (by kernel_rfl) (by kernel_rfl)
abbrev T67 : Ty := (.cons T61 T42)
abbrev T68 : Ty := (.cons tI T3)
abbrev a58 : Ty := T67
abbrev r58 : Ty := T68
noncomputable def G58 : Ctx := Ctx.of [(95, .gen (fun _ _ _ _ => .leaf .bad)), (96, .gen (gappD Try.f96.ntmps r96 ps96 pans96 U96))]
theorem g58 : Sound Try.prog (G58) := sound_of (List.forall_mem_cons.2 ⟨⟨cl95, gbad95⟩, List.forall_mem_cons.2 ⟨⟨cl96, h96⟩, fun _ h => by cases h⟩⟩)
theorem lo58 : loopsOf (c58) = [] := by kernel_rfl
noncomputable def l58 : List Loop := []
noncomputable def D58 : DCtx := DCtx.of [(95, d95)]
theorem ds58 : DSound Try.prog D58 := dsound_of (List.forall_mem_cons.2 ⟨⟨cl95, dh95⟩, fun _ h => by cases h⟩)
def Q58 {α : Type} (l : Option (r58).den → α) (an : α → α → α) (x : (a58).den) : α := onGPan (U96 (x.1, x.2)) 125 T66 (fun u0 => l (some ((0 : Int), (false, ())))) (onOk (U96 (x.1, x.2)) (fun u1 => l (some (u1.1.1, (true, ())))) (l none))
theorem q58 (x : (a58).den) : runFnD Try.prog E0 G58 D58 Try.f58 l58 a58 r58 x = Q58 .leaf .any x := by kernel_rfl
def M58 (x : (a58).den) : Option (r58).den := Q58 (fun r => r) (fun _ _ => none) x
theorem m58 (x : (a58).den) : (runFnD Try.prog E0 G58 D58 Try.f58 l58 a58 r58 x).sure = M58 x := by rw [q58]; unfold M58 Q58; simp only [sure_cond, Tree.sure, sure_cl, sure_onExit, sure_onRet, sure_onPanL, sure_onNext, sure_onBrk, sure_onRetO, sure_onPan, sure_onOk, sure_onGPan]
def p58 (x : (a58).den) : Bool := (M58 x).isSome
def v58 (x : (a58).den) : (r58).den := (M58 x).getD (r58).dflt
def k58 : Con := ⟨a58, r58, p58, v58⟩
theorem h58 : Holds Try.prog 58 k58 := holds_of_MD (E := E0) follows_ok g58 ds58 eqTy_sound keyTy_sound at58 bd58 (by kernel_rfl) m58 fun G' hlo hF hE => LsOK_kn (by rw [lo58]; exact .nil)
/-- isobar/cone.Play -/
noncomputable def c19 : Code := Try.f19.body.getD .skip
theorem at19 : Try.prog.funcs[19]? = some Try.f19 := by kernel_rfl
theorem bd19 : Try.f19.body = some c19 := by kernel_rfl
theorem cl19 : Callable Try.prog 19 := callable_of at19 (by kernel_rfl) (by kernel_rfl)
abbrev a19 : Ty := T43
abbrev r19 : Ty := T1
noncomputable def G19 : Ctx := Ctx.of [(55, .pure k55), (56, .pure k56), (57, .pure k57), (58, .pure k58)]
theorem g19 : Sound Try.prog (G19) := sound_of (List.forall_mem_cons.2 ⟨⟨cl55, h55⟩, List.forall_mem_cons.2 ⟨⟨cl56, h56⟩, List.forall_mem_cons.2 ⟨⟨cl57, h57⟩, List.forall_mem_cons.2 ⟨⟨cl58, h58⟩, fun _ h => by cases h⟩⟩⟩⟩)
theorem lo19 : loopsOf (c19) = [] := by kernel_rfl
noncomputable def l19 : List Loop := []
def Q19 {α : Type} (l : Option (r19).den → α) (an : α → α → α) (x : (a19).den) : α := cl (r55).dflt (M55 (x.1, ())) (fun u0 => bif (!u0.1) then l (some ((0 : Int), ((2 : Int), ()))) else cl (r56).dflt (M56 (x.1, x.2)) (fun u1 => bif (!u1.1) then l (some ((0 : Int), ((2 : Int), ()))) else cl (r57).dflt (M57 (x.1, ())) (fun u2 => cl (r58).dflt (M58 (u2.1, x.2)) (fun u3 => bif (!u3.2.1) then l (some ((0 : Int), ((5 : Int), ()))) else l (some (u3.1, ((0 : Int), ())))) (l none)) (l none)) (l none)) (l none)
theorem q19 (x : (a19).den) : runFn Try.prog E0 G19 Try.f19 l19 a19 r19 x = Q19 .leaf .any x := by kernel_rfl
def M19 (x : (a19).den) : Option (r19).den := Q19 (fun r => r) (fun _ _ => none) x
theorem m19 (x : (a19).den) : (runFn Try.prog E0 G19 Try.f19 l19 a19 r19 x).sure = M19 x := by rw [q19]; unfold M19 Q19; simp only [sure_cond, Tree.sure, sure_cl, sure_onExit, sure_onRet, sure_onPanL, sure_onNext, sure_onBrk, sure_onRetO, sure_onPan, sure_onOk, sure_onGPan]
def p19 (x : (a19).den) : Bool := (M19 x).isSome
def v19 (x : (a19).den) : (r19).den := (M19 x).getD (r19).dflt
def k19 : Con := ⟨a19, r19, p19, v19⟩
theorem h19 : Holds Try.prog 19 k19 := holds_of_M' (E := E0) follows_ok g19 eqTy_sound keyTy_sound at19 bd19 (by kernel_rfl) m19 fun G' hlo hF hE => LsOK_kn (by rw [lo19]; exact .nil)
/-- (isobar/cone.watch).soon -/
noncomputable def c97 : Code := Try.f97.body.getD .skip
theorem at97 : Try.prog.funcs[97]? = some Try.f97 := by kernel_rfl
theorem bd97 : Try.f97.body = some c97 := by kernel_rfl
theorem cl97 : Callable Try.prog 97 := callable_of at97 (by kernel_rfl) (by kernel_rfl)
abbrev T69 : Ty := (.cons T61 T0)
abbrev a97 : Ty := T69
abbrev r97 : Ty := T0
noncomputable def G97 : Ctx := Ctx.of []
theorem g97 : Sound Try.prog (G97) := sound_of (fun _ h => by cases h)
theorem lo97 : loopsOf (c97) = [] := by kernel_rfl
noncomputable def l97 : List Loop := []
def Q97 {α : Type} (l : Option (r97).den → α) (an : α → α → α) (x : (a97).den) : α := bif (decide (((0 : Int) ≤ x.2.1) ∧ (x.2.1 < ((x.1.2.1.n : Nat) : Int)))) then l (some ((x.1.2.1.g (Int.toNat x.2.1)).2.2.2.1, ())) else l none
theorem q97 (x : (a97).den) : runFn Try.prog E0 G97 Try.f97 l97 a97 r97 x = Q97 .leaf .any x := by kernel_rfl
def M97 (x : (a97).den) : Option (r97).den := Q97 (fun r => r) (fun _ _ => none) x
theorem m97 (x : (a97).den) : (runFn Try.prog E0 G97 Try.f97 l97 a97 r97 x).sure = M97 x := by rw [q97]; unfold M97 Q97; simp only [sure_cond, Tree.sure, sure_cl, sure_onExit, sure_onRet, sure_onPanL, sure_onNext, sure_onBrk, sure_onRetO, sure_onPan, sure_onOk, sure_onGPan]
def p97 (x : (a97).den) : Bool := (M97 x).isSome
def v97 (x : (a97).den) : (r97).den := (M97 x).getD (r97).dflt
def k97 : Con := ⟨a97, r97, p97, v97⟩
theorem h97 : Holds Try.prog 97 k97 := holds_of_M' (E := E0) follows_ok g97 eqTy_sound keyTy_sound at97 bd97 (by kernel_rfl) m97 fun G' hlo hF hE => LsOK_kn (by rw [lo97]; exact .nil)
/-- (isobar/cone.watch).late -/
noncomputable def c98 : Code := Try.f98.body.getD .skip
theorem at98 : Try.prog.funcs[98]? = some Try.f98 := by kernel_rfl
theorem bd98 : Try.f98.body = some c98 := by kernel_rfl
theorem cl98 : Callable Try.prog 98 := callable_of at98 (by kernel_rfl) (by kernel_rfl)
abbrev a98 : Ty := T69
abbrev r98 : Ty := T0
noncomputable def G98 : Ctx := Ctx.of []
theorem g98 : Sound Try.prog (G98) := sound_of (fun _ h => by cases h)
theorem lo98 : loopsOf (c98) = [] := by kernel_rfl
noncomputable def l98 : List Loop := []
def Q98 {α : Type} (l : Option (r98).den → α) (an : α → α → α) (x : (a98).den) : α := bif (decide (((0 : Int) ≤ x.2.1) ∧ (x.2.1 < ((x.1.2.1.n : Nat) : Int)))) then l (some ((x.1.2.1.g (Int.toNat x.2.1)).2.2.2.2.1, ())) else l none
theorem q98 (x : (a98).den) : runFn Try.prog E0 G98 Try.f98 l98 a98 r98 x = Q98 .leaf .any x := by kernel_rfl
def M98 (x : (a98).den) : Option (r98).den := Q98 (fun r => r) (fun _ _ => none) x
theorem m98 (x : (a98).den) : (runFn Try.prog E0 G98 Try.f98 l98 a98 r98 x).sure = M98 x := by rw [q98]; unfold M98 Q98; simp only [sure_cond, Tree.sure, sure_cl, sure_onExit, sure_onRet, sure_onPanL, sure_onNext, sure_onBrk, sure_onRetO, sure_onPan, sure_onOk, sure_onGPan]
def p98 (x : (a98).den) : Bool := (M98 x).isSome
def v98 (x : (a98).den) : (r98).den := (M98 x).getD (r98).dflt
def k98 : Con := ⟨a98, r98, p98, v98⟩
theorem h98 : Holds Try.prog 98 k98 := holds_of_M' (E := E0) follows_ok g98 eqTy_sound keyTy_sound at98 bd98 (by kernel_rfl) m98 fun G' hlo hF hE => LsOK_kn (by rw [lo98]; exact .nil)
/-- (isobar/cone.watch).ends -/
noncomputable def c62 : Code := Try.f62.body.getD .skip
theorem at62 : Try.prog.funcs[62]? = some Try.f62 := by kernel_rfl
theorem bd62 : Try.f62.body = some c62 := by kernel_rfl
theorem cl62 : Callable Try.prog 62 := callable_of at62 (by kernel_rfl) (by kernel_rfl)
abbrev T70 : Ty := (.cons (.sl T0) T42)
abbrev T71 : Ty := (.agg T70)
abbrev T72 : Ty := (.cons T71 .nil)
abbrev a62 : Ty := T62
abbrev r62 : Ty := T72
noncomputable def G62 : Ctx := Ctx.of [(97, .pure k97), (98, .pure k98)]
theorem g62 : Sound Try.prog (G62) := sound_of (List.forall_mem_cons.2 ⟨⟨cl97, h97⟩, List.forall_mem_cons.2 ⟨⟨cl98, h98⟩, fun _ h => by cases h⟩⟩)
noncomputable def b62x0 : Code := loopBody ((loopsOf (c62))[0]?)
noncomputable def b62x0x0 : Code := loopBody ((loopsOf (b62x0))[0]?)
abbrev T73 : Ty := (.fn T0 T0)
abbrev T74 : Ty := (.cons T73 .nil)
abbrev T75 : Ty := (.cons T73 T74)
theorem lo62x0_0v0 : loopsOf (b62x0x0) = [] := by kernel_rfl
abbrev cs62x0_0v0 : List Pat := [.slot 1 (.ptr 1), .slot 2 (.ptr 2), .slot 3 (.ptr 41), .slot 4 (.k (0 : Int)), .slot 5 (.pc T73), .agg 12 T75, .slot 13 (.pc tI), .slot 20 (.pc tI), .box 1 [.pc tI, .pc (.sl T7), .pc (.sl T2), .pc (.sl T4), .pc tI, .pc tI, .pc tI, .pc tI, .pc tI, .pc T50], .box 2 [.own 1003000 3 T0, .own 1003001 3 T0]]
abbrev vs62x0_0v0 : List Pat := [.slot 21 (.pc tI), .box 41 [.own 1042000 3 T0, .own 1042001 3 T0]]
abbrev ps62x0_0v0 : List Pat := [.slot 1 (.ptr 1), .slot 2 (.ptr 2), .slot 3 (.ptr 41), .slot 4 (.k (0 : Int)), .slot 5 (.pc T73), .agg 12 T75, .slot 13 (.pc tI), .slot 20 (.pc tI), .box 1 [.pc tI, .pc (.sl T7), .pc (.sl T2), .pc (.sl T4), .pc tI, .pc tI, .pc tI, .pc tI, .pc tI, .pc T50], .box 2 [.own 1003000 3 T0, .own 1003001 3 T0], .slot 21 (.pc tI), .box 41 [.own 1042000 3 T0, .own 1042001 3 T0]]
def j62x0_0v0 : (patsTy cs62x0_0v0).den → (patsTy vs62x0_0v0).den → (patsTy ps62x0_0v0).den := fun c v => (c.1, (c.2.1, (c.2.2.1, (c.2.2.2.1, (c.2.2.2.2.1, (c.2.2.2.2.2.1, (c.2.2.2.2.2.2.1, (c.2.2.2.2.2.2.2.1, (c.2.2.2.2.2.2.2.2.1, (c.2.2.2.2.2.2.2.2.2.1, v))))))))))
def sp62x0_0v0 : (patsTy ps62x0_0v0).den → (patsTy cs62x0_0v0).den × (patsTy vs62x0_0v0).den := fun x => ((x.1, (x.2.1, (x.2.2.1, (x.2.2.2.1, (x.2.2.2.2.1, (x.2.2.2.2.2.1, (x.2.2.2.2.2.2.1, (x.2.2.2.2.2.2.2.1, (x.2.2.2.2.2.2.2.2.1, (x.2.2.2.2.2.2.2.2.2.1, ())))))))))), x.2.2.2.2.2.2.2.2.2.2)
abbrev wy62x0_0v0 : Ways := ⟨[(2, [.slot 1 (.ptr 1), .slot 2 (.ptr 2), .slot 3 (.ptr 41), .agg 12 T75, .slot 13 (.pc tI), .box 1 [.pc tI, .pc (.sl T7), .pc (.sl T2), .pc (.sl T4), .pc tI, .pc tI, .pc tI, .pc tI, .pc tI, .pc T50], .box 2 [.own 1003000 3 T0, .own 1003001 3 T0], .box 41 [.own 1042000 3 T0, .own 1042001 3 T0]])], [], []⟩
abbrev wv62x0_0v0 : Ways := ⟨[(2, [.box 41 [.own 1042000 3 T0, .own 1042001 3 T0]])], [], []⟩
def je62x0_0v0 : (id : Nat) → (patsTy cs62x0_0v0).den → (patsTy (wayP wv62x0_0v0 id)).den → (patsTy (wayP wy62x0_0v0 id)).den := fun id => match id with | 2 => fun c y => (c.1, (c.2.1, (c.2.2.1, (c.2.2.2.2.2.1, (c.2.2.2.2.2.2.1, (c.2.2.2.2.2.2.2.2.1, (c.2.2.2.2.2.2.2.2.2.1, y))))))) | id => fun _ _ => (patsTy (wayP wy62x0_0v0 id)).dflt
def jr62x0_0v0 : (patsTy cs62x0_0v0).den → (patsTy (wv62x0_0v0).ret).den → (patsTy (wy62x0_0v0).ret).den := fun c y => y
def jp62x0_0v0 : (patsTy cs62x0_0v0).den → (patsTy (wv62x0_0v0).pan).den → (patsTy (wy62x0_0v0).pan).den := fun c y => y
def Z62x0_0v0 {α : Type} (l : RQ vs62x0_0v0 wv62x0_0v0 → α) (an : α → α → α) (c : (patsTy cs62x0_0v0).den) (v : (patsTy vs62x0_0v0).den) : α := bif (decide (v.1 < c.2.2.2.2.2.2.2.1)) then bif (c.2.2.2.2.1 (v.1, ())).1 then bif (decide (((v.2.1.1.n + 1) * 8) ≤ 140737488355328)) then l (.next ((W (v.1 + (1 : Int))), (((catSl v.2.1.1 (⟨1, fun i => List.getD [(c.2.2.2.2.1 (v.1, ())).2] i (c.2.2.2.2.1 (v.1, ())).2⟩ : Sl (Ty.den T0))), v.2.1.2), ()))) else l .bad else l .bad else l (.out (.exit 2 (v.2.1, ())))
theorem z62x0_0v0 (c : (patsTy cs62x0_0v0).den) (v : (patsTy vs62x0_0v0).den) : roundQ Try.prog E0 G62 0 38 [] ps62x0_0v0 wy62x0_0v0 b62x0x0 [] (j62x0_0v0 c v) = Z62x0_0v0 (fun r => .leaf (r.lift j62x0_0v0 je62x0_0v0 jr62x0_0v0 jp62x0_0v0 c)) .any c v := by kernel_rfl
def S62x0_0v0 (c : (patsTy cs62x0_0v0).den) (v : (patsTy vs62x0_0v0).den) : RQ vs62x0_0v0 wv62x0_0v0 := Z62x0_0v0 (fun r => r) (fun _ _ => .bad) c v
theorem s62x0_0v0 (c : (patsTy cs62x0_0v0).den) (v : (patsTy vs62x0_0v0).den) : detQ (roundQ Try.prog E0 G62 0 38 [] ps62x0_0v0 wy62x0_0v0 b62x0x0 [] (j62x0_0v0 c v)) = (S62x0_0v0 c v).lift j62x0_0v0 je62x0_0v0 jr62x0_0v0 jp62x0_0v0 c := by rw [z62x0_0v0]; unfold S62x0_0v0 Z62x0_0v0; simp only [detQ_cond, lift_cond, lift_bad, detQ, detQ_cl, detQ_onExit, detQ_onRet, detQ_onPanL, detQ_onNext, detQ_onBrk, detQ_onRetO, detQ_onPan, detQ_onOk, detQ_onGPan, lift_cl, lift_onExit, lift_onRet, lift_onPanL, lift_onNext, lift_onBrk, lift_onRetO, lift_onPan, lift_onOk, lift_onGPan]
def L62x0_0v0 (c : (patsTy cs62x0_0v0).den) (v : (patsTy vs62x0_0v0).den) : LQ wv62x0_0v0 := iterQ (S62x0_0v0 c) big v
theorem lo62x0_0v1 : loopsOf (b62x0x0) = [] := by kernel_rfl
abbrev cs62x0_0v1 : List Pat := [.slot 1 (.ptr 1), .slot 2 (.ptr 2), .slot 3 (.ptr 41), .slot 4 (.k (1 : Int)), .slot 5 (.pc T73), .agg 12 T75, .slot 13 (.pc tI), .slot 20 (.pc tI), .box 1 [.pc tI, .pc (.sl T7), .pc (.sl T2), .pc (.sl T4), .pc tI, .pc tI, .pc tI, .pc tI, .pc tI, .pc T50], .box 2 [.own 1003000 3 T0, .own 1003001 3 T0]]
abbrev vs62x0_0v1 : List Pat := [.slot 21 (.pc tI), .box 41 [.own 1042000 3 T0, .own 1042001 3 T0]]
abbrev ps62x0_0v1 : List Pat := [.slot 1 (.ptr 1), .slot 2 (.ptr 2), .slot 3 (.ptr 41), .slot 4 (.k (1 : Int)), .slot 5 (.pc T73), .agg 12 T75, .slot 13 (.pc tI), .slot 20 (.pc tI), .box 1 [.pc tI, .pc (.sl T7), .pc (.sl T2), .pc (.sl T4), .pc tI, .pc tI, .pc tI, .pc tI, .pc tI, .pc T50], .box 2 [.own 1003000 3 T0, .own 1003001 3 T0], .slot 21 (.pc tI), .box 41 [.own 1042000 3 T0, .own 1042001 3 T0]]
def j62x0_0v1 : (patsTy cs62x0_0v1).den → (patsTy vs62x0_0v1).den → (patsTy ps62x0_0v1).den := fun c v => (c.1, (c.2.1, (c.2.2.1, (c.2.2.2.1, (c.2.2.2.2.1, (c.2.2.2.2.2.1, (c.2.2.2.2.2.2.1, (c.2.2.2.2.2.2.2.1, (c.2.2.2.2.2.2.2.2.1, (c.2.2.2.2.2.2.2.2.2.1, v))))))))))
def sp62x0_0v1 : (patsTy ps62x0_0v1).den → (patsTy cs62x0_0v1).den × (patsTy vs62x0_0v1).den := fun x => ((x.1, (x.2.1, (x.2.2.1, (x.2.2.2.1, (x.2.2.2.2.1, (x.2.2.2.2.2.1, (x.2.2.2.2.2.2.1, (x.2.2.2.2.2.2.2.1, (x.2.2.2.2.2.2.2.2.1, (x.2.2.2.2.2.2.2.2.2.1, ())))))))))), x.2.2.2.2.2.2.2.2.2.2)
abbrev wy62x0_0v1 : Ways := ⟨[(2, [.slot 1 (.ptr 1), .slot 2 (.ptr 2), .slot 3 (.ptr 41), .agg 12 T75, .slot 13 (.pc tI), .box 1 [.pc tI, .pc (.sl T7), .pc (.sl T2), .pc (.sl T4), .pc tI, .pc tI, .pc tI, .pc tI, .pc tI, .pc T50], .box 2 [.own 1003000 3 T0, .own 1003001 3 T0], .box 41 [.own 1042000 3 T0, .own 1042001 3 T0]])], [], []⟩
abbrev wv62x0_0v1 : Ways := ⟨[(2, [.box 41 [.own 1042000 3 T0, .own 1042001 3 T0]])], [], []⟩
def je62x0_0v1 : (id : Nat) → (patsTy cs62x0_0v1).den → (patsTy (wayP wv62x0_0v1 id)).den → (patsTy (wayP wy62x0_0v1 id)).den := fun id => match id with | 2 => fun c y => (c.1, (c.2.1, (c.2.2.1, (c.2.2.2.2.2.1, (c.2.2.2.2.2.2.1, (c.2.2.2.2.2.2.2.2.1, (c.2.2.2.2.2.2.2.2.2.1, y))))))) | id => fun _ _ => (patsTy (wayP wy62x0_0v1 id)).dflt
def jr62x0_0v1 : (patsTy cs62x0_0v1).den → (patsTy (wv62x0_0v1).ret).den → (patsTy (wy62x0_0v1).ret).den := fun c y => y
def jp62x0_0v1 : (patsTy cs62x0_0v1).den → (patsTy (wv62x0_0v1).pan).den → (patsTy (wy62x0_0v1).pan).den := fun c y => y
def Z62x0_0v1 {α : Type} (l : RQ vs62x0_0v1 wv62x0_0v1 → α) (an : α → α → α) (c : (patsTy cs62x0_0v1).den) (v : (patsTy vs62x0_0v1).den) : α := bif (decide (v.1 < c.2.2.2.2.2.2.2.1)) then bif (c.2.2.2.2.1 (v.1, ())).1 then bif (decide (((v.2.1.2.1.n + 1) * 8) ≤ 140737488355328)) then l (.next ((W (v.1 + (1 : Int))), ((v.2.1.1, ((catSl v.2.1.2.1 (⟨1, fun i => List.getD [(c.2.2.2.2.1 (v.1, ())).2] i (c.2.2.2.2.1 (v.1, ())).2⟩ : Sl (Ty.den T0))), ())), ()))) else l .bad else l .bad else l (.out (.exit 2 (v.2.1, ())))
theorem z62x0_0v1 (c : (patsTy cs62x0_0v1).den) (v : (patsTy vs62x0_0v1).den) : roundQ Try.prog E0 G62 0 38 [] ps62x0_0v1 wy62x0_0v1 b62x0x0 [] (j62x0_0v1 c v) = Z62x0_0v1 (fun r => .leaf (r.lift j62x0_0v1 je62x0_0v1 jr62x0_0v1 jp62x0_0v1 c)) .any c v := by kernel_rfl
def S62x0_0v1 (c : (patsTy cs62x0_0v1).den) (v : (patsTy vs62x0_0v1).den) : RQ vs62x0_0v1 wv62x0_0v1 := Z62x0_0v1 (fun r => r) (fun _ _ => .bad) c v
theorem s62x0_0v1 (c : (patsTy cs62x0_0v1).den) (v : (patsTy vs62x0_0v1).den) : detQ (roundQ Try.prog E0 G62 0 38 [] ps62x0_0v1 wy62x0_0v1 b62x0x0 [] (j62x0_0v1 c v)) = (S62x0_0v1 c v).lift j62x0_0v1 je62x0_0v1 jr62x0_0v1 jp62x0_0v1 c := by rw [z62x0_0v1]; unfold S62x0_0v1 Z62x0_0v1; simp only [detQ_cond, lift_cond, lift_bad, detQ, detQ_cl, detQ_onExit, detQ_onRet, detQ_onPanL, detQ_onNext, detQ_onBrk, detQ_onRetO, detQ_onPan, detQ_onOk, detQ_onGPan, lift_cl, lift_onExit, lift_onRet, lift_onPanL, lift_onNext, lift_onBrk, lift_onRetO, lift_onPan, lift_onOk, lift_onGPan]
def L62x0_0v1 (c : (patsTy cs62x0_0v1).den) (v : (patsTy vs62x0_0v1).den) : LQ wv62x0_0v1 := iterQ (S62x0_0v1 c) big v
theorem lo62x0 : loopsOf (b62x0) = [.loop b62x0x0] := by kernel_rfl
theorem lo62 : loopsOf (c62) = [.loop b62x0] := by kernel_rfl
noncomputable def l62 : List Loop := [.unroll 3 [.known (altK 4 (0 : Int) (loopZ 0 [] ps62x0_0v0 fun x => spreadV wy62x0_0v0 je62x0_0v0 jr62x0_0v0 jp62x0_0v0 [] false (sp62x0_0v0 x).1 (L62x0_0v0 (sp62x0_0v0 x).1 (sp62x0_0v0 x).2) wy62x0_0v0.exits) (loopZ 0 [] ps62x0_0v1 fun x => spreadV wy62x0_0v1 je62x0_0v1 jr62x0_0v1 jp62x0_0v1 [] false (sp62x0_0v1 x).1 (L62x0_0v1 (sp62x0_0v1 x).1 (sp62x0_0v1 x).2) wy62x0_0v1.exits))]]
def Q62 {α : Type} (l : Option (r62).den → α) (an : α → α → α) (x : (a62).den) : α := onExit (L62x0_0v0 ((), ((), ((), ((), ((fun y1 => ((p97 (x.1, y1)), (v97 (x.1, y1)))), (((fun y1 => ((p97 (x.1, y1)), (v97 (x.1, y1)))), ((fun y1 => ((p98 (x.1, y1)), (v98 (x.1, y1)))), ())), ((0 : Int), (((x.1.2.1.n : Nat) : Int), (x.1, (((⟨0, fun i => ((0 : Int), ())⟩ : Sl _), ((⟨0, fun i => ((0 : Int), ())⟩ : Sl _), ())), ())))))))))) ((0 : Int), (((⟨0, fun i => ((0 : Int), ())⟩ : Sl _), ((⟨0, fun i => ((0 : Int), ())⟩ : Sl _), ())), ()))) 2 (fun u0 => onExit (L62x0_0v1 ((), ((), ((), ((), ((fun y1 => ((p98 (x.1, y1)), (v98 (x.1, y1)))), (((fun y1 => ((p97 (x.1, y1)), (v97 (x.1, y1)))), ((fun y1 => ((p98 (x.1, y1)), (v98 (x.1, y1)))), ())), ((1 : Int), (((x.1.2.1.n : Nat) : Int), (x.1, (((⟨0, fun i => ((0 : Int), ())⟩ : Sl _), ((⟨0, fun i => ((0 : Int), ())⟩ : Sl _), ())), ())))))))))) ((0 : Int), (u0.1, ()))) 2 (fun u1 => l (some (u1.1, ()))) (l none)) (l none)
theorem q62 (x : (a62).den) : runFn Try.prog E0 G62 Try.f62 l62 a62 r62 x = Q62 .leaf .any x := by kernel_rfl
def M62 (x : (a62).den) : Option (r62).den := Q62 (fun r => r) (fun _ _ => none) x
theorem m62 (x : (a62).den) : (runFn Try.prog E0 G62 Try.f62 l62 a62 r62 x).sure = M62 x := by rw [q62]; unfold M62 Q62; simp only [sure_cond, Tree.sure, sure_cl, sure_onExit, sure_onRet, sure_onPanL, sure_onNext, sure_onBrk, sure_onRetO, sure_onPan, sure_onOk, sure_onGPan]
def p62 (x : (a62).den) : Bool := (M62 x).isSome
def v62 (x : (a62).den) : (r62).den := (M62 x).getD (r62).dflt
def k62 : Con := ⟨a62, r62, p62, v62⟩
theorem h62 : Holds Try.prog 62 k62 := holds_of_M' (E := E0) follows_ok g62 eqTy_sound keyTy_sound at62 bd62 (by kernel_rfl) m62 fun G' hlo hF hE => LsOK_kn (by rw [lo62]; exact .unr (LsOK_kn (by rw [lo62x0]; exact .cons ((loop_alt (loopV_ok hE hF hlo (LsOK_kn (by rw [lo62x0_0v0]; exact .nil)) (by kernel_rfl) (by kernel_rfl) sp62x0_0v0 (fun _ => rfl) (fun _ _ => rfl) (s62x0_0v0) big) (loopV_ok hE hF hlo (LsOK_kn (by rw [lo62x0_0v1]; exact .nil)) (by kernel_rfl) (by kernel_rfl) sp62x0_0v1 (fun _ => rfl) (fun _ _ => rfl) (s62x0_0v1) big))) (.nil))) (.nil))
/-- isobar/cone.See -/
noncomputable def c23 : Code := Try.f23.body.getD .skip
theorem at23 : Try.prog.funcs[23]? = some Try.f23 := by kernel_rfl
theorem bd23 : Try.f23.body = some c23 := by kernel_rfl
theorem cl23 : Callable Try.prog 23 := callable_of at23 (by kernel_rfl) (by kernel_rfl)
abbrev a23 : Ty := T36
abbrev r23 : Ty := T2
noncomputable def G23 : Ctx := Ctx.of [(55, .pure k55), (57, .pure k57), (58, .pure k58), (62, .pure k62)]
theorem g23 : Sound Try.prog (G23) := sound_of (List.forall_mem_cons.2 ⟨⟨cl55, h55⟩, List.forall_mem_cons.2 ⟨⟨cl57, h57⟩, List.forall_mem_cons.2 ⟨⟨cl58, h58⟩, List.forall_mem_cons.2 ⟨⟨cl62, h62⟩, fun _ h => by cases h⟩⟩⟩⟩)
theorem lo23 : loopsOf (c23) = [] := by kernel_rfl
noncomputable def l23 : List Loop := []
def Q23 {α : Type} (l : Option (r23).den → α) (an : α → α → α) (x : (a23).den) : α := cl (r55).dflt (M55 (x.1, ())) (fun u0 => bif (!u0.1) then l (some ((0 : Int), ((0 : Int), ((2 : Int), ())))) else cl (r57).dflt (M57 (x.1, ())) (fun u1 => cl (r62).dflt (M62 (u1.1, ())) (fun u2 => cl (r58).dflt (M58 (u1.1, (u2.1.1, ()))) (fun u3 => bif (!u3.2.1) then l (some ((0 : Int), ((0 : Int), ((5 : Int), ())))) else cl (r58).dflt (M58 (u1.1, u2.1.2)) (fun u4 => bif (!u4.2.1) then l (some (u3.1, ((-1 : Int), ((0 : Int), ())))) else l (some (u3.1, (u4.1, ((0 : Int), ()))))) (l none)) (l none)) (l none)) (l none)) (l none)
theorem q23 (x : (a23).den) : runFn Try.prog E0 G23 Try.f23 l23 a23 r23 x = Q23 .leaf .any x := by kernel_rfl
def M23 (x : (a23).den) : Option (r23).den := Q23 (fun r => r) (fun _ _ => none) x
theorem m23 (x : (a23).den) : (runFn Try.prog E0 G23 Try.f23 l23 a23 r23 x).sure = M23 x := by rw [q23]; unfold M23 Q23; simp only [sure_cond, Tree.sure, sure_cl, sure_onExit, sure_onRet, sure_onPanL, sure_onNext, sure_onBrk, sure_onRetO, sure_onPan, sure_onOk, sure_onGPan]
def p23 (x : (a23).den) : Bool := (M23 x).isSome
def v23 (x : (a23).den) : (r23).den := (M23 x).getD (r23).dflt
def k23 : Con := ⟨a23, r23, p23, v23⟩
theorem h23 : Holds Try.prog 23 k23 := holds_of_M' (E := E0) follows_ok g23 eqTy_sound keyTy_sound at23 bd23 (by kernel_rfl) m23 fun G' hlo hF hE => LsOK_kn (by rw [lo23]; exact .nil)
/-- isobar/cone.word -/
noncomputable def c64 : Code := Try.f64.body.getD .skip
theorem at64 : Try.prog.funcs[64]? = some Try.f64 := by kernel_rfl
theorem bd64 : Try.f64.body = some c64 := by kernel_rfl
theorem cl64 : Callable Try.prog 64 := callable_of at64 (by kernel_rfl) (by kernel_rfl)
abbrev T76 : Ty := (.cons .bool T3)
abbrev a64 : Ty := T76
abbrev r64 : Ty := T0
noncomputable def G64 : Ctx := Ctx.of []
theorem g64 : Sound Try.prog (G64) := sound_of (fun _ h => by cases h)
theorem lo64 : loopsOf (c64) = [] := by kernel_rfl
noncomputable def l64 : List Loop := []
def Q64 {α : Type} (l : Option (r64).den → α) (an : α → α → α) (x : (a64).den) : α := bif x.1 then bif x.2.1 then l (some ((3 : Int), ())) else l (some ((2 : Int), ())) else bif x.2.1 then l (some ((3 : Int), ())) else l (some ((1 : Int), ()))
theorem q64 (x : (a64).den) : runFn Try.prog E0 G64 Try.f64 l64 a64 r64 x = Q64 .leaf .any x := by kernel_rfl
def M64 (x : (a64).den) : Option (r64).den := Q64 (fun r => r) (fun _ _ => none) x
theorem m64 (x : (a64).den) : (runFn Try.prog E0 G64 Try.f64 l64 a64 r64 x).sure = M64 x := by rw [q64]; unfold M64 Q64; simp only [sure_cond, Tree.sure, sure_cl, sure_onExit, sure_onRet, sure_onPanL, sure_onNext, sure_onBrk, sure_onRetO, sure_onPan, sure_onOk, sure_onGPan]
def p64 (x : (a64).den) : Bool := (M64 x).isSome
def v64 (x : (a64).den) : (r64).den := (M64 x).getD (r64).dflt
def k64 : Con := ⟨a64, r64, p64, v64⟩
theorem h64 : Holds Try.prog 64 k64 := holds_of_M' (E := E0) follows_ok g64 eqTy_sound keyTy_sound at64 bd64 (by kernel_rfl) m64 fun G' hlo hF hE => LsOK_kn (by rw [lo64]; exact .nil)
/-- isobar/cone.find[int] -/
noncomputable def c80 : Code := Try.f80.body.getD .skip
theorem at80 : Try.prog.funcs[80]? = some Try.f80 := by kernel_rfl
theorem bd80 : Try.f80.body = some c80 := by kernel_rfl
theorem cl80 : Callable Try.prog 80 := callable_of at80 (by kernel_rfl) (by kernel_rfl)
abbrev T77 : Ty := (.fn T0 T3)
abbrev T78 : Ty := (.cons T77 .nil)
abbrev T79 : Ty := (.cons tI T78)
abbrev T80 : Ty := (.cons tI T79)
abbrev a80 : Ty := T80
abbrev r80 : Ty := T68
noncomputable def G80 : Ctx := Ctx.of []
theorem g80 : Sound Try.prog (G80) := sound_of (fun _ h => by cases h)
noncomputable def b80x0 : Code := loopBody ((loopsOf (c80))[0]?)
theorem lo80x0 : loopsOf (b80x0) = [] := by kernel_rfl
abbrev cs80x0 : List Pat := [.slot 0 (.pc tI), .slot 2 (.pc T77), .slot 12 (.pc tI)]
abbrev vs80x0 : List Pat := [.slot 13 (.pc tI)]
abbrev ps80x0 : List Pat := [.slot 0 (.pc tI), .slot 2 (.pc T77), .slot 12 (.pc tI), .slot 13 (.pc tI)]
def j80x0 : (patsTy cs80x0).den → (patsTy vs80x0).den → (patsTy ps80x0).den := fun c v => (c.1, (c.2.1, (c.2.2.1, v)))
def sp80x0 : (patsTy ps80x0).den → (patsTy cs80x0).den × (patsTy vs80x0).den := fun x => ((x.1, (x.2.1, (x.2.2.1, ()))), x.2.2.2)
abbrev wy80x0 : Ways := ⟨[(0, [])], [.slot 6 (.pc tI), .slot 7 (.pc .bool)], []⟩
abbrev wv80x0 : Ways := ⟨[(0, [])], [.slot 6 (.pc tI), .slot 7 (.pc .bool)], []⟩
def je80x0 : (id : Nat) → (patsTy cs80x0).den → (patsTy (wayP wv80x0 id)).den → (patsTy (wayP wy80x0 id)).den := fun id => match id with | 0 => fun c y => y | id => fun _ _ => (patsTy (wayP wy80x0 id)).dflt
def jr80x0 : (patsTy cs80x0).den → (patsTy (wv80x0).ret).den → (patsTy (wy80x0).ret).den := fun c y => y
def jp80x0 : (patsTy cs80x0).den → (patsTy (wv80x0).pan).den → (patsTy (wy80x0).pan).den := fun c y => y
def Z80x0 {α : Type} (l : RQ vs80x0 wv80x0 → α) (an : α → α → α) (c : (patsTy cs80x0).den) (v : (patsTy vs80x0).den) : α := bif (decide (v.1 < c.2.2.1)) then bif (c.2.1 ((W (c.1 + v.1)), ())).1 then bif (c.2.1 ((W (c.1 + v.1)), ())).2.1 then l (.out (.ret ((W (c.1 + v.1)), (true, ())))) else l (.next ((W (v.1 + (1 : Int))), ())) else l .bad else l (.out (.exit 0 ()))
theorem z80x0 (c : (patsTy cs80x0).den) (v : (patsTy vs80x0).den) : roundQ Try.prog E0 G80 0 25 [] ps80x0 wy80x0 b80x0 [] (j80x0 c v) = Z80x0 (fun r => .leaf (r.lift j80x0 je80x0 jr80x0 jp80x0 c)) .any c v := by kernel_rfl
def S80x0 (c : (patsTy cs80x0).den) (v : (patsTy vs80x0).den) : RQ vs80x0 wv80x0 := Z80x0 (fun r => r) (fun _ _ => .bad) c v
theorem s80x0 (c : (patsTy cs80x0).den) (v : (patsTy vs80x0).den) : detQ (roundQ Try.prog E0 G80 0 25 [] ps80x0 wy80x0 b80x0 [] (j80x0 c v)) = (S80x0 c v).lift j80x0 je80x0 jr80x0 jp80x0 c := by rw [z80x0]; unfold S80x0 Z80x0; simp only [detQ_cond, lift_cond, lift_bad, detQ, detQ_cl, detQ_onExit, detQ_onRet, detQ_onPanL, detQ_onNext, detQ_onBrk, detQ_onRetO, detQ_onPan, detQ_onOk, detQ_onGPan, lift_cl, lift_onExit, lift_onRet, lift_onPanL, lift_onNext, lift_onBrk, lift_onRetO, lift_onPan, lift_onOk, lift_onGPan]
def L80x0 (c : (patsTy cs80x0).den) (v : (patsTy vs80x0).den) : LQ wv80x0 := iterQ (S80x0 c) big v
theorem lo80 : loopsOf (c80) = [.loop b80x0] := by kernel_rfl
noncomputable def l80 : List Loop := [.known (loopZ 0 [] ps80x0 fun x => spreadV wy80x0 je80x0 jr80x0 jp80x0 [] true (sp80x0 x).1 (L80x0 (sp80x0 x).1 (sp80x0 x).2) wy80x0.exits)]
def Q80 {α : Type} (l : Option (r80).den → α) (an : α → α → α) (x : (a80).den) : α := onExit (L80x0 (x.1, (x.2.2.1, ((W ((W (x.2.1 - x.1)) + (1 : Int))), ()))) ((0 : Int), ())) 0 (fun u0 => l (some ((0 : Int), (false, ())))) (onRet (L80x0 (x.1, (x.2.2.1, ((W ((W (x.2.1 - x.1)) + (1 : Int))), ()))) ((0 : Int), ())) (fun u1 => l (some u1)) (l none))
theorem q80 (x : (a80).den) : runFn Try.prog E0 G80 Try.f80 l80 a80 r80 x = Q80 .leaf .any x := by kernel_rfl
def M80 (x : (a80).den) : Option (r80).den := Q80 (fun r => r) (fun _ _ => none) x
theorem m80 (x : (a80).den) : (runFn Try.prog E0 G80 Try.f80 l80 a80 r80 x).sure = M80 x := by rw [q80]; unfold M80 Q80; simp only [sure_cond, Tree.sure, sure_cl, sure_onExit, sure_onRet, sure_onPanL, sure_onNext, sure_onBrk, sure_onRetO, sure_onPan, sure_onOk, sure_onGPan]
def p80 (x : (a80).den) : Bool := (M80 x).isSome
def v80 (x : (a80).den) : (r80).den := (M80 x).getD (r80).dflt
def k80 : Con := ⟨a80, r80, p80, v80⟩
theorem h80 : Holds Try.prog 80 k80 := holds_of_M' (E := E0) follows_ok g80 eqTy_sound keyTy_sound at80 bd80 (by kernel_rfl) m80 fun G' hlo hF hE => LsOK_kn (by rw [lo80]; exact .cons (loopV_ok hE hF hlo (LsOK_kn (by rw [lo80x0]; exact .nil)) (by kernel_rfl) (by kernel_rfl) sp80x0 (fun _ => rfl) (fun _ _ => rfl) (s80x0) big) (.nil))
/-- (isobar/cone.watch).sees -/
noncomputable def c72 : Code := Try.f72.body.getD .skip
theorem at72 : Try.prog.funcs[72]? = some Try.f72 := by kernel_rfl
theorem bd72 : Try.f72.body = some c72 := by kernel_rfl
theorem cl72 : Callable Try.prog 72 := callable_of at72 (by kernel_rfl) (by kernel_rfl)
abbrev T81 : Ty := (.cons (.sl T0) T0)
abbrev T82 : Ty := (.cons T61 T81)
abbrev a72 : Ty := T82
abbrev r72 : Ty := T3
noncomputable def G72 : Ctx := Ctx.of [(69, .iter i69), (102, .pure k102)]
theorem g72 : Sound Try.prog (G72) := sound_of (List.forall_mem_cons.2 ⟨⟨cl69, h69⟩, List.forall_mem_cons.2 ⟨⟨cl102, h102⟩, fun _ h => by cases h⟩⟩)
noncomputable def b72x0 : Code := rangeBody ((loopsOf (c72))[0]?)
noncomputable def as72x0 : Code := rangeAs ((loopsOf (c72))[0]?)
abbrev mp72x0 : List Pat := [.slot 3 (.ptr 3), .slot 4 (.ptr 4), .slot 5 (.ptr 5), .slot 6 (.ptr 6), .box 3 [.pc tI, .pc (.sl T7), .pc (.sl T2), .pc (.sl T4), .pc tI, .pc tI, .pc tI, .pc tI, .pc tI, .pc T50], .box 4 [.pc (.sl T0)], .box 5 [.pc tI], .box 6 [.pc .bool]]
theorem lo72x0 : loopsOf (b72x0) = [] := by kernel_rfl
def Z72x0 {α : Type} (l : RO mp72x0 → α) (an : α → α → α) (x : (patsTy mp72x0).den) (it : Ty.den T63) : α := cl (r102).dflt (M102 (x.2.2.2.2.1, (it.1, x.2.2.2.2.2.1))) (fun u0 => bif (decide (u0.1 ≤ x.2.2.2.2.2.2.1.1)) then bif (decide (x.2.2.2.2.2.2.1.1 < u0.2.1)) then l (.ret ((), ((), ((), ((), (x.2.2.2.2.1, (x.2.2.2.2.2.1, (x.2.2.2.2.2.2.1, ((true, ()), ()))))))))) else l (.next ((), ((), ((), ((), (x.2.2.2.2.1, (x.2.2.2.2.2.1, (x.2.2.2.2.2.2.1, (x.2.2.2.2.2.2.2.1, ()))))))))) else l (.next ((), ((), ((), ((), (x.2.2.2.2.1, (x.2.2.2.2.2.1, (x.2.2.2.2.2.2.1, (x.2.2.2.2.2.2.2.1, ())))))))))) (l .bad)
theorem z72x0 (x : (patsTy mp72x0).den) (it : Ty.den T63) : stepR Try.prog E0 G72 0 500000 28 [12] as72x0 b72x0 [] [] T63 mp72x0 x it = Z72x0 .leaf .any x it := by kernel_rfl
def S72x0 (x : (patsTy mp72x0).den) (it : Ty.den T63) : RO mp72x0 := Z72x0 (fun r => r) (fun _ _ => .bad) x it
theorem s72x0 (x : (patsTy mp72x0).den) (it : Ty.den T63) : (stepR Try.prog E0 G72 0 500000 28 [12] as72x0 b72x0 [] [] T63 mp72x0 x it).detB .bad = S72x0 x it := by rw [z72x0]; unfold S72x0 Z72x0; simp only [detB_cond, Tree.detB, detB_cl, detB_onExit, detB_onRet, detB_onPanL, detB_onNext, detB_onBrk, detB_onRetO, detB_onPan, detB_onOk, detB_onGPan]
def L72x0 (x : (patsTy mp72x0).den) (l : List (Ty.den T63)) : RO mp72x0 := runAllD S72x0 x l
theorem lo72 : loopsOf (c72) = [.rangeFunc (.tmp 11) #[12] as72x0 b72x0] := by kernel_rfl
noncomputable def l72 : List Loop := [.known (rangeD 0 [] 11 T63 mp72x0 [] [] (fun x l => L72x0 x l))]
def Q72 {α : Type} (l : Option (r72).den → α) (an : α → α → α) (x : (a72).den) : α := bif (ip69 (x.1, ()) ()) then onNext (L72x0 ((), ((), ((), ((), (x.1, ((x.2.1, ()), (x.2.2, ((false, ()), ())))))))) (Sl.list (ii69 (x.1, ()) ()))) (fun u1 => l (some (false, ()))) (onRetO (L72x0 ((), ((), ((), ((), (x.1, ((x.2.1, ()), (x.2.2, ((false, ()), ())))))))) (Sl.list (ii69 (x.1, ()) ()))) (fun u2 => l (some u2.2.2.2.2.2.2.2.1)) (l none)) else l none
theorem q72 (x : (a72).den) : runFn Try.prog E0 G72 Try.f72 l72 a72 r72 x = Q72 .leaf .any x := by kernel_rfl
def M72 (x : (a72).den) : Option (r72).den := Q72 (fun r => r) (fun _ _ => none) x
theorem m72 (x : (a72).den) : (runFn Try.prog E0 G72 Try.f72 l72 a72 r72 x).sure = M72 x := by rw [q72]; unfold M72 Q72; simp only [sure_cond, Tree.sure, sure_cl, sure_onExit, sure_onRet, sure_onPanL, sure_onNext, sure_onBrk, sure_onRetO, sure_onPan, sure_onOk, sure_onGPan]
def p72 (x : (a72).den) : Bool := (M72 x).isSome
def v72 (x : (a72).den) : (r72).den := (M72 x).getD (r72).dflt
def k72 : Con := ⟨a72, r72, p72, v72⟩
theorem h72 : Holds Try.prog 72 k72 := holds_of_M' (E := E0) follows_ok g72 eqTy_sound keyTy_sound at72 bd72 (by kernel_rfl) m72 fun G' hlo hF hE => LsOK_kn (by rw [lo72]; exact .cons (rangeD_ok hE hF hlo at72 (by kernel_rfl) (by kernel_rfl) (by kernel_rfl) (by kernel_rfl) (by kernel_rfl) (fun G' hlo hF l hE => LsOK_nil) (fun G' hlo hF l hE => LsOK_kn (by rw [lo72x0]; exact .nil)) s72x0) (.nil))
/-- (isobar/cone.watch).up$1 -/
noncomputable def c99 : Code := Try.f99.body.getD .skip
theorem at99 : Try.prog.funcs[99]? = some Try.f99 := by kernel_rfl
theorem bd99 : Try.f99.body = some c99 := by kernel_rfl
theorem cl99 : Callable Try.prog 99 := callable_of at99 (by kernel_rfl) (by kernel_rfl)
abbrev T83 : Ty := (.ptr T60)
abbrev T84 : Ty := (.ptr T70)
abbrev T85 : Ty := (.ptr T0)
abbrev T86 : Ty := (.cons T85 .nil)
abbrev T87 : Ty := (.cons T84 T86)
abbrev T88 : Ty := (.cons T83 T87)
abbrev T89 : Ty := (.cons tI T88)
abbrev a99 : Ty := T89
abbrev r99 : Ty := T3
noncomputable def G99 : Ctx := Ctx.of [(72, .pure k72)]
theorem g99 : Sound Try.prog (G99) := sound_of (List.forall_mem_cons.2 ⟨⟨cl72, h72⟩, fun _ h => by cases h⟩)
theorem lo99 : loopsOf (c99) = [] := by kernel_rfl
noncomputable def l99 : List Loop := []
def Q99 {α : Type} (l : Option (r99).den → α) (an : α → α → α) (x : (a99).den) : α := cl (r72).dflt (M72 (x.2.1, (x.2.2.1.1, ((W (x.2.2.2.1.1 - x.1)), ())))) (fun u0 => l (some u0)) (l none)
theorem q99 (x : (a99).den) : runFn Try.prog E0 G99 Try.f99 l99 a99 r99 x = Q99 .leaf .any x := by kernel_rfl
def M99 (x : (a99).den) : Option (r99).den := Q99 (fun r => r) (fun _ _ => none) x
theorem m99 (x : (a99).den) : (runFn Try.prog E0 G99 Try.f99 l99 a99 r99 x).sure = M99 x := by rw [q99]; unfold M99 Q99; simp only [sure_cond, Tree.sure, sure_cl, sure_onExit, sure_onRet, sure_onPanL, sure_onNext, sure_onBrk, sure_onRetO, sure_onPan, sure_onOk, sure_onGPan]
def p99 (x : (a99).den) : Bool := (M99 x).isSome
def v99 (x : (a99).den) : (r99).den := (M99 x).getD (r99).dflt
def k99 : Con := ⟨a99, r99, p99, v99⟩
theorem h99 : Holds Try.prog 99 k99 := holds_of_M' (E := E0) follows_ok g99 eqTy_sound keyTy_sound at99 bd99 (by kernel_rfl) m99 fun G' hlo hF hE => LsOK_kn (by rw [lo99]; exact .nil)
/-- (isobar/cone.watch).up$2 -/
noncomputable def c100 : Code := Try.f100.body.getD .skip
theorem at100 : Try.prog.funcs[100]? = some Try.f100 := by kernel_rfl
theorem bd100 : Try.f100.body = some c100 := by kernel_rfl
theorem cl100 : Callable Try.prog 100 := callable_of at100 (by kernel_rfl) (by kernel_rfl)
abbrev a100 : Ty := T89
abbrev r100 : Ty := T3
noncomputable def G100 : Ctx := Ctx.of [(72, .pure k72)]
theorem g100 : Sound Try.prog (G100) := sound_of (List.forall_mem_cons.2 ⟨⟨cl72, h72⟩, fun _ h => by cases h⟩)
theorem lo100 : loopsOf (c100) = [] := by kernel_rfl
noncomputable def l100 : List Loop := []
def Q100 {α : Type} (l : Option (r100).den → α) (an : α → α → α) (x : (a100).den) : α := cl (r72).dflt (M72 (x.2.1, (x.2.2.1.2.1, ((W (x.2.2.2.1.1 - x.1)), ())))) (fun u0 => l (some ((!u0.1), ()))) (l none)
theorem q100 (x : (a100).den) : runFn Try.prog E0 G100 Try.f100 l100 a100 r100 x = Q100 .leaf .any x := by kernel_rfl
def M100 (x : (a100).den) : Option (r100).den := Q100 (fun r => r) (fun _ _ => none) x
theorem m100 (x : (a100).den) : (runFn Try.prog E0 G100 Try.f100 l100 a100 r100 x).sure = M100 x := by rw [q100]; unfold M100 Q100; simp only [sure_cond, Tree.sure, sure_cl, sure_onExit, sure_onRet, sure_onPanL, sure_onNext, sure_onBrk, sure_onRetO, sure_onPan, sure_onOk, sure_onGPan]
def p100 (x : (a100).den) : Bool := (M100 x).isSome
def v100 (x : (a100).den) : (r100).den := (M100 x).getD (r100).dflt
def k100 : Con := ⟨a100, r100, p100, v100⟩
theorem h100 : Holds Try.prog 100 k100 := holds_of_M' (E := E0) follows_ok g100 eqTy_sound keyTy_sound at100 bd100 (by kernel_rfl) m100 fun G' hlo hF hE => LsOK_kn (by rw [lo100]; exact .nil)
/-- (isobar/cone.watch).up -/
noncomputable def c65 : Code := Try.f65.body.getD .skip
theorem at65 : Try.prog.funcs[65]? = some Try.f65 := by kernel_rfl
theorem bd65 : Try.f65.body = some c65 := by kernel_rfl
theorem cl65 : Callable Try.prog 65 := callable_of at65 (by kernel_rfl) (by kernel_rfl)
abbrev T90 : Ty := (.cons T61 T1)
abbrev a65 : Ty := T90
abbrev r65 : Ty := T76
noncomputable def G65 : Ctx := Ctx.of [(62, .pure k62), (80, .pure k80), (99, .pure k99), (100, .pure k100)]
theorem g65 : Sound Try.prog (G65) := sound_of (List.forall_mem_cons.2 ⟨⟨cl62, h62⟩, List.forall_mem_cons.2 ⟨⟨cl80, h80⟩, List.forall_mem_cons.2 ⟨⟨cl99, h99⟩, List.forall_mem_cons.2 ⟨⟨cl100, h100⟩, fun _ h => by cases h⟩⟩⟩⟩)
theorem lo65 : loopsOf (c65) = [] := by kernel_rfl
noncomputable def l65 : List Loop := []
def Q65 {α : Type} (l : Option (r65).den → α) (an : α → α → α) (x : (a65).den) : α := cl (r62).dflt (M62 (x.1, ())) (fun u0 => bif (decide (((0 : Int) ≤ x.2.1) ∧ (x.2.1 < ((x.1.2.2.2.1.n : Nat) : Int)))) then cl (r80).dflt (M80 ((x.1.2.2.2.1.g (Int.toNat x.2.1)).1, ((x.1.2.2.2.1.g (Int.toNat x.2.1)).2.1, ((fun y1 => ((p99 (y1.1, (x.1, (u0.1, (x.2.2, ()))))), (v99 (y1.1, (x.1, (u0.1, (x.2.2, ()))))))), ())))) (fun u1 => bif (!u1.2.1) then l (some (false, (false, ()))) else cl (r80).dflt (M80 ((x.1.2.2.2.1.g (Int.toNat x.2.1)).1, ((x.1.2.2.2.1.g (Int.toNat x.2.1)).2.1, ((fun y1 => ((p100 (y1.1, (x.1, (u0.1, (x.2.2, ()))))), (v100 (y1.1, (x.1, (u0.1, (x.2.2, ()))))))), ())))) (fun u2 => l (some (true, ((!u2.2.1), ())))) (l none)) (l none) else l none) (l none)
theorem q65 (x : (a65).den) : runFn Try.prog E0 G65 Try.f65 l65 a65 r65 x = Q65 .leaf .any x := by kernel_rfl
def M65 (x : (a65).den) : Option (r65).den := Q65 (fun r => r) (fun _ _ => none) x
theorem m65 (x : (a65).den) : (runFn Try.prog E0 G65 Try.f65 l65 a65 r65 x).sure = M65 x := by rw [q65]; unfold M65 Q65; simp only [sure_cond, Tree.sure, sure_cl, sure_onExit, sure_onRet, sure_onPanL, sure_onNext, sure_onBrk, sure_onRetO, sure_onPan, sure_onOk, sure_onGPan]
def p65 (x : (a65).den) : Bool := (M65 x).isSome
def v65 (x : (a65).den) : (r65).den := (M65 x).getD (r65).dflt
def k65 : Con := ⟨a65, r65, p65, v65⟩
theorem h65 : Holds Try.prog 65 k65 := holds_of_M' (E := E0) follows_ok g65 eqTy_sound keyTy_sound at65 bd65 (by kernel_rfl) m65 fun G' hlo hF hE => LsOK_kn (by rw [lo65]; exact .nil)
/-- isobar/cone.Up -/
noncomputable def c25 : Code := Try.f25.body.getD .skip
theorem at25 : Try.prog.funcs[25]? = some Try.f25 := by kernel_rfl
theorem bd25 : Try.f25.body = some c25 := by kernel_rfl
theorem cl25 : Callable Try.prog 25 := callable_of at25 (by kernel_rfl) (by kernel_rfl)
abbrev T91 : Ty := (.cons T19 T1)
abbrev a25 : Ty := T91
abbrev r25 : Ty := T1
noncomputable def G25 : Ctx := Ctx.of [(55, .pure k55), (57, .pure k57), (63, .pure k63), (64, .pure k64), (65, .pure k65)]
theorem g25 : Sound Try.prog (G25) := sound_of (List.forall_mem_cons.2 ⟨⟨cl55, h55⟩, List.forall_mem_cons.2 ⟨⟨cl57, h57⟩, List.forall_mem_cons.2 ⟨⟨cl63, h63⟩, List.forall_mem_cons.2 ⟨⟨cl64, h64⟩, List.forall_mem_cons.2 ⟨⟨cl65, h65⟩, fun _ h => by cases h⟩⟩⟩⟩⟩)
theorem lo25 : loopsOf (c25) = [] := by kernel_rfl
noncomputable def l25 : List Loop := []
def Q25 {α : Type} (l : Option (r25).den → α) (an : α → α → α) (x : (a25).den) : α := cl (r55).dflt (M55 (x.1, ())) (fun u0 => bif (!u0.1) then l (some ((0 : Int), ((2 : Int), ()))) else cl (r63).dflt (M63 (x.2.1, ((0 : Int), ((W (((x.1.2.2.2.1.n : Nat) : Int) - (1 : Int))), ())))) (fun u1 => bif (!u1.1) then l (some ((0 : Int), ((2 : Int), ()))) else cl (r63).dflt (M63 (x.2.2.1, ((0 : Int), ((20000 : Int), ())))) (fun u2 => bif (!u2.1) then l (some ((0 : Int), ((2 : Int), ()))) else cl (r57).dflt (M57 (x.1, ())) (fun u3 => cl (r65).dflt (M65 (u3.1, x.2)) (fun u4 => cl (r64).dflt (M64 u4) (fun u5 => l (some (u5.1, ((0 : Int), ())))) (l none)) (l none)) (l none)) (l none)) (l none)) (l none)
theorem q25 (x : (a25).den) : runFn Try.prog E0 G25 Try.f25 l25 a25 r25 x = Q25 .leaf .any x := by kernel_rfl
def M25 (x : (a25).den) : Option (r25).den := Q25 (fun r => r) (fun _ _ => none) x
theorem m25 (x : (a25).den) : (runFn Try.prog E0 G25 Try.f25 l25 a25 r25 x).sure = M25 x := by rw [q25]; unfold M25 Q25; simp only [sure_cond, Tree.sure, sure_cl, sure_onExit, sure_onRet, sure_onPanL, sure_onNext, sure_onBrk, sure_onRetO, sure_onPan, sure_onOk, sure_onGPan]
def p25 (x : (a25).den) : Bool := (M25 x).isSome
def v25 (x : (a25).den) : (r25).den := (M25 x).getD (r25).dflt
def k25 : Con := ⟨a25, r25, p25, v25⟩
theorem h25 : Holds Try.prog 25 k25 := holds_of_M' (E := E0) follows_ok g25 eqTy_sound keyTy_sound at25 bd25 (by kernel_rfl) m25 fun G' hlo hF hE => LsOK_kn (by rw [lo25]; exact .nil)
/-- (isobar/cone.watch).reach -/
noncomputable def c68 : Code := Try.f68.body.getD .skip
theorem at68 : Try.prog.funcs[68]? = some Try.f68 := by kernel_rfl
theorem bd68 : Try.f68.body = some c68 := by kernel_rfl
theorem cl68 : Callable Try.prog 68 := callable_of at68 (by kernel_rfl) (by kernel_rfl)
abbrev a68 : Ty := T90
abbrev r68 : Ty := T0
noncomputable def G68 : Ctx := Ctx.of []
theorem g68 : Sound Try.prog (G68) := sound_of (fun _ h => by cases h)
theorem lo68 : loopsOf (c68) = [] := by kernel_rfl
noncomputable def l68 : List Loop := []
def Q68 {α : Type} (l : Option (r68).den → α) (an : α → α → α) (x : (a68).den) : α := bif (decide (x.1.2.2.2.2.2.2.2.1 ≤ (Int.tmod x.2.2.1 (1440 : Int)))) then bif (decide ((Int.tmod x.2.2.1 (1440 : Int)) < x.1.2.2.2.2.2.2.2.2.1)) then bif (decide (((0 : Int) ≤ x.2.1) ∧ (x.2.1 < ((x.1.2.2.2.1.n : Nat) : Int)))) then l (some ((x.1.2.2.2.1.g (Int.toNat x.2.1)).2.2.1, ())) else l none else bif (decide (((0 : Int) ≤ x.2.1) ∧ (x.2.1 < ((x.1.2.2.2.1.n : Nat) : Int)))) then l (some (x.1.2.2.2.1.g (Int.toNat x.2.1)).2.2.2) else l none else bif (decide (((0 : Int) ≤ x.2.1) ∧ (x.2.1 < ((x.1.2.2.2.1.n : Nat) : Int)))) then l (some (x.1.2.2.2.1.g (Int.toNat x.2.1)).2.2.2) else l none
theorem q68 (x : (a68).den) : runFn Try.prog E0 G68 Try.f68 l68 a68 r68 x = Q68 .leaf .any x := by kernel_rfl
def M68 (x : (a68).den) : Option (r68).den := Q68 (fun r => r) (fun _ _ => none) x
theorem m68 (x : (a68).den) : (runFn Try.prog E0 G68 Try.f68 l68 a68 r68 x).sure = M68 x := by rw [q68]; unfold M68 Q68; simp only [sure_cond, Tree.sure, sure_cl, sure_onExit, sure_onRet, sure_onPanL, sure_onNext, sure_onBrk, sure_onRetO, sure_onPan, sure_onOk, sure_onGPan]
def p68 (x : (a68).den) : Bool := (M68 x).isSome
def v68 (x : (a68).den) : (r68).den := (M68 x).getD (r68).dflt
def k68 : Con := ⟨a68, r68, p68, v68⟩
theorem h68 : Holds Try.prog 68 k68 := holds_of_M' (E := E0) follows_ok g68 eqTy_sound keyTy_sound at68 bd68 (by kernel_rfl) m68 fun G' hlo hF hE => LsOK_kn (by rw [lo68]; exact .nil)
/-- isobar/cone.Warned -/
noncomputable def c30 : Code := Try.f30.body.getD .skip
theorem at30 : Try.prog.funcs[30]? = some Try.f30 := by kernel_rfl
theorem bd30 : Try.f30.body = some c30 := by kernel_rfl
theorem cl30 : Callable Try.prog 30 := callable_of at30 (by kernel_rfl) (by kernel_rfl)
abbrev T92 : Ty := (.cons tI T32)
abbrev T93 : Ty := (.cons T19 T92)
abbrev a30 : Ty := T93
abbrev r30 : Ty := T1
noncomputable def G30 : Ctx := Ctx.of [(55, .pure k55), (57, .pure k57), (63, .pure k63), (64, .pure k64), (65, .pure k65), (67, .pure k67), (68, .pure k68)]
theorem g30 : Sound Try.prog (G30) := sound_of (List.forall_mem_cons.2 ⟨⟨cl55, h55⟩, List.forall_mem_cons.2 ⟨⟨cl57, h57⟩, List.forall_mem_cons.2 ⟨⟨cl63, h63⟩, List.forall_mem_cons.2 ⟨⟨cl64, h64⟩, List.forall_mem_cons.2 ⟨⟨cl65, h65⟩, List.forall_mem_cons.2 ⟨⟨cl67, h67⟩, List.forall_mem_cons.2 ⟨⟨cl68, h68⟩, fun _ h => by cases h⟩⟩⟩⟩⟩⟩⟩)
noncomputable def b30x0 : Code := loopBody ((loopsOf (c30))[0]?)
theorem lo30x0 : loopsOf (b30x0) = [] := by kernel_rfl
abbrev cs30x0 : List Pat := [.slot 1 (.pc tI), .slot 5 (.ptr 5), .slot 8 (.ptr 228), .slot 59 (.pc tI), .box 5 [.pc tI, .pc tI, .pc tI, .pc tI], .box 228 [.pc tI, .pc (.sl T7), .pc (.sl T2), .pc (.sl T4), .pc tI, .pc tI, .pc tI, .pc tI, .pc tI, .pc T50]]
abbrev vs30x0 : List Pat := [.slot 9 (.pc .bool), .slot 10 (.pc .bool), .slot 60 (.pc tI)]
abbrev ps30x0 : List Pat := [.slot 1 (.pc tI), .slot 5 (.ptr 5), .slot 8 (.ptr 228), .slot 59 (.pc tI), .box 5 [.pc tI, .pc tI, .pc tI, .pc tI], .box 228 [.pc tI, .pc (.sl T7), .pc (.sl T2), .pc (.sl T4), .pc tI, .pc tI, .pc tI, .pc tI, .pc tI, .pc T50], .slot 9 (.pc .bool), .slot 10 (.pc .bool), .slot 60 (.pc tI)]
def j30x0 : (patsTy cs30x0).den → (patsTy vs30x0).den → (patsTy ps30x0).den := fun c v => (c.1, (c.2.1, (c.2.2.1, (c.2.2.2.1, (c.2.2.2.2.1, (c.2.2.2.2.2.1, v))))))
def sp30x0 : (patsTy ps30x0).den → (patsTy cs30x0).den × (patsTy vs30x0).den := fun x => ((x.1, (x.2.1, (x.2.2.1, (x.2.2.2.1, (x.2.2.2.2.1, (x.2.2.2.2.2.1, ())))))), x.2.2.2.2.2.2)
abbrev wy30x0 : Ways := ⟨[(0, [.slot 9 (.pc .bool), .slot 10 (.pc .bool)])], [], []⟩
abbrev wv30x0 : Ways := ⟨[(0, [.slot 9 (.pc .bool), .slot 10 (.pc .bool)])], [], []⟩
def je30x0 : (id : Nat) → (patsTy cs30x0).den → (patsTy (wayP wv30x0 id)).den → (patsTy (wayP wy30x0 id)).den := fun id => match id with | 0 => fun c y => y | id => fun _ _ => (patsTy (wayP wy30x0 id)).dflt
def jr30x0 : (patsTy cs30x0).den → (patsTy (wv30x0).ret).den → (patsTy (wy30x0).ret).den := fun c y => y
def jp30x0 : (patsTy cs30x0).den → (patsTy (wv30x0).pan).den → (patsTy (wy30x0).pan).den := fun c y => y
def Z30x0 {α : Type} (l : RQ vs30x0 wv30x0 → α) (an : α → α → α) (c : (patsTy cs30x0).den) (v : (patsTy vs30x0).den) : α := bif (decide (v.2.2.1 < c.2.2.2.1)) then cl (r65).dflt (M65 (c.2.2.2.2.2.1, (c.1, ((W (c.2.2.2.2.1.1 + v.2.2.1)), ())))) (fun u0 => cl (r68).dflt (M68 (c.2.2.2.2.2.1, (c.1, ((W (c.2.2.2.2.1.1 + v.2.2.1)), ())))) (fun u1 => bif v.1 then bif v.2.1 then bif u0.2.1 then bif (!(decide (c.2.2.2.2.1.2.2.2.1 ≤ u1.1))) then l (.out (.exit 0 (true, ((decide (c.2.2.2.2.1.2.2.2.1 ≤ u1.1)), ())))) else l (.next (true, ((decide (c.2.2.2.2.1.2.2.2.1 ≤ u1.1)), ((W (v.2.2.1 + (1 : Int))), ())))) else l (.out (.exit 0 (true, (false, ())))) else l (.out (.exit 0 (true, (false, ())))) else bif u0.1 then bif v.2.1 then bif u0.2.1 then bif (decide (c.2.2.2.2.1.2.2.1 ≤ u1.1)) then bif (!(decide (c.2.2.2.2.1.2.2.2.1 ≤ u1.1))) then l (.out (.exit 0 ((decide (c.2.2.2.2.1.2.2.1 ≤ u1.1)), ((decide (c.2.2.2.2.1.2.2.2.1 ≤ u1.1)), ())))) else l (.next ((decide (c.2.2.2.2.1.2.2.1 ≤ u1.1)), ((decide (c.2.2.2.2.1.2.2.2.1 ≤ u1.1)), ((W (v.2.2.1 + (1 : Int))), ())))) else l (.next ((decide (c.2.2.2.2.1.2.2.1 ≤ u1.1)), ((decide (c.2.2.2.2.1.2.2.2.1 ≤ u1.1)), ((W (v.2.2.1 + (1 : Int))), ())))) else bif (decide (c.2.2.2.2.1.2.2.1 ≤ u1.1)) then l (.out (.exit 0 ((decide (c.2.2.2.2.1.2.2.1 ≤ u1.1)), (false, ())))) else l (.next ((decide (c.2.2.2.2.1.2.2.1 ≤ u1.1)), (false, ((W (v.2.2.1 + (1 : Int))), ())))) else bif (decide (c.2.2.2.2.1.2.2.1 ≤ u1.1)) then l (.out (.exit 0 ((decide (c.2.2.2.2.1.2.2.1 ≤ u1.1)), (false, ())))) else l (.next ((decide (c.2.2.2.2.1.2.2.1 ≤ u1.1)), (false, ((W (v.2.2.1 + (1 : Int))), ())))) else bif v.2.1 then bif u0.2.1 then l (.next (false, ((decide (c.2.2.2.2.1.2.2.2.1 ≤ u1.1)), ((W (v.2.2.1 + (1 : Int))), ())))) else l (.next (false, (false, ((W (v.2.2.1 + (1 : Int))), ())))) else l (.next (false, (false, ((W (v.2.2.1 + (1 : Int))), ()))))) (l .bad)) (l .bad) else l (.out (.exit 0 (v.1, (v.2.1, ()))))
theorem z30x0 (c : (patsTy cs30x0).den) (v : (patsTy vs30x0).den) : roundQ Try.prog E0 G30 0 110 [] ps30x0 wy30x0 b30x0 [] (j30x0 c v) = Z30x0 (fun r => .leaf (r.lift j30x0 je30x0 jr30x0 jp30x0 c)) .any c v := by kernel_rfl
def S30x0 (c : (patsTy cs30x0).den) (v : (patsTy vs30x0).den) : RQ vs30x0 wv30x0 := Z30x0 (fun r => r) (fun _ _ => .bad) c v
theorem s30x0 (c : (patsTy cs30x0).den) (v : (patsTy vs30x0).den) : detQ (roundQ Try.prog E0 G30 0 110 [] ps30x0 wy30x0 b30x0 [] (j30x0 c v)) = (S30x0 c v).lift j30x0 je30x0 jr30x0 jp30x0 c := by rw [z30x0]; unfold S30x0 Z30x0; simp only [detQ_cond, lift_cond, lift_bad, detQ, detQ_cl, detQ_onExit, detQ_onRet, detQ_onPanL, detQ_onNext, detQ_onBrk, detQ_onRetO, detQ_onPan, detQ_onOk, detQ_onGPan, lift_cl, lift_onExit, lift_onRet, lift_onPanL, lift_onNext, lift_onBrk, lift_onRetO, lift_onPan, lift_onOk, lift_onGPan]
def L30x0 (c : (patsTy cs30x0).den) (v : (patsTy vs30x0).den) : LQ wv30x0 := iterQ (S30x0 c) big v
theorem lo30 : loopsOf (c30) = [.loop b30x0] := by kernel_rfl
noncomputable def l30 : List Loop := [.known (loopZ 0 [] ps30x0 fun x => spreadV wy30x0 je30x0 jr30x0 jp30x0 [] false (sp30x0 x).1 (L30x0 (sp30x0 x).1 (sp30x0 x).2) wy30x0.exits)]
def Q30 {α : Type} (l : Option (r30).den → α) (an : α → α → α) (x : (a30).den) : α := cl (r55).dflt (M55 (x.1, ())) (fun u2 => bif (!u2.1) then l (some ((0 : Int), ((2 : Int), ()))) else cl (r63).dflt (M63 (x.2.1, ((0 : Int), ((W (((x.1.2.2.2.1.n : Nat) : Int) - (1 : Int))), ())))) (fun u3 => bif (!u3.1) then l (some ((0 : Int), ((2 : Int), ()))) else cl (r67).dflt (M67 ((x.2.2.1.1, (x.2.2.1.2.1, ())), ((20000 : Int), ()))) (fun u4 => bif (!u4.1) then l (some ((0 : Int), ((2 : Int), ()))) else bif (decide ((300 : Int) < (W (x.2.2.1.2.1 - x.2.2.1.1)))) then l (some ((0 : Int), ((2 : Int), ()))) else cl (r67).dflt (M67 (x.2.2.1.2.2, ((50000 : Int), ()))) (fun u5 => bif (!u5.1) then l (some ((0 : Int), ((2 : Int), ()))) else cl (r57).dflt (M57 (x.1, ())) (fun u6 => onExit (L30x0 (x.2.1, ((), ((), ((W ((W (x.2.2.1.2.1 - x.2.2.1.1)) + (1 : Int))), (x.2.2.1, (u6.1, ())))))) (false, (true, ((0 : Int), ())))) 0 (fun u7 => cl (r64).dflt (M64 u7) (fun u8 => l (some (u8.1, ((0 : Int), ())))) (l none)) (l none)) (l none)) (l none)) (l none)) (l none)) (l none)
theorem q30 (x : (a30).den) : runFn Try.prog E0 G30 Try.f30 l30 a30 r30 x = Q30 .leaf .any x := by kernel_rfl
def M30 (x : (a30).den) : Option (r30).den := Q30 (fun r => r) (fun _ _ => none) x
theorem m30 (x : (a30).den) : (runFn Try.prog E0 G30 Try.f30 l30 a30 r30 x).sure = M30 x := by rw [q30]; unfold M30 Q30; simp only [sure_cond, Tree.sure, sure_cl, sure_onExit, sure_onRet, sure_onPanL, sure_onNext, sure_onBrk, sure_onRetO, sure_onPan, sure_onOk, sure_onGPan]
def p30 (x : (a30).den) : Bool := (M30 x).isSome
def v30 (x : (a30).den) : (r30).den := (M30 x).getD (r30).dflt
def k30 : Con := ⟨a30, r30, p30, v30⟩
theorem h30 : Holds Try.prog 30 k30 := holds_of_M' (E := E0) follows_ok g30 eqTy_sound keyTy_sound at30 bd30 (by kernel_rfl) m30 fun G' hlo hF hE => LsOK_kn (by rw [lo30]; exact .cons (loopV_ok hE hF hlo (LsOK_kn (by rw [lo30x0]; exact .nil)) (by kernel_rfl) (by kernel_rfl) sp30x0 (fun _ => rfl) (fun _ _ => rfl) (s30x0) big) (.nil))
/-- isobar/cone.Alarms -/
noncomputable def c35 : Code := Try.f35.body.getD .skip
theorem at35 : Try.prog.funcs[35]? = some Try.f35 := by kernel_rfl
theorem bd35 : Try.f35.body = some c35 := by kernel_rfl
theorem cl35 : Callable Try.prog 35 := callable_of at35 (by kernel_rfl) (by kernel_rfl)
abbrev T94 : Ty := (.cons (.sl T1) T0)
abbrev a35 : Ty := T36
abbrev r35 : Ty := T94
noncomputable def G35 : Ctx := Ctx.of [(55, .pure k55), (57, .pure k57), (69, .iter i69)]
theorem g35 : Sound Try.prog (G35) := sound_of (List.forall_mem_cons.2 ⟨⟨cl55, h55⟩, List.forall_mem_cons.2 ⟨⟨cl57, h57⟩, List.forall_mem_cons.2 ⟨⟨cl69, h69⟩, fun _ h => by cases h⟩⟩⟩)
noncomputable def b35x0 : Code := rangeBody ((loopsOf (c35))[0]?)
noncomputable def as35x0 : Code := rangeAs ((loopsOf (c35))[0]?)
abbrev mp35x0 : List Pat := [.slot 4 (.ptr 40), .box 40 [.own 1041000 86 T1]]
theorem lo35x0 : loopsOf (b35x0) = [] := by kernel_rfl
def Z35x0 {α : Type} (l : RO mp35x0 → α) (an : α → α → α) (x : (patsTy mp35x0).den) (it : Ty.den T63) : α := bif (decide (((x.2.1.1.n + 1) * 16) ≤ 140737488355328)) then l (.next ((), (((catSl x.2.1.1 (⟨1, fun i => List.getD [it.1] i it.1⟩ : Sl (Ty.den T1))), ()), ()))) else l .bad
theorem z35x0 (x : (patsTy mp35x0).den) (it : Ty.den T63) : stepR Try.prog E0 G35 0 500000 18 [12] as35x0 b35x0 [] [] T63 mp35x0 x it = Z35x0 .leaf .any x it := by kernel_rfl
def S35x0 (x : (patsTy mp35x0).den) (it : Ty.den T63) : RO mp35x0 := Z35x0 (fun r => r) (fun _ _ => .bad) x it
theorem s35x0 (x : (patsTy mp35x0).den) (it : Ty.den T63) : (stepR Try.prog E0 G35 0 500000 18 [12] as35x0 b35x0 [] [] T63 mp35x0 x it).detB .bad = S35x0 x it := by rw [z35x0]; unfold S35x0 Z35x0; simp only [detB_cond, Tree.detB, detB_cl, detB_onExit, detB_onRet, detB_onPanL, detB_onNext, detB_onBrk, detB_onRetO, detB_onPan, detB_onOk, detB_onGPan]
def L35x0 (x : (patsTy mp35x0).den) (l : List (Ty.den T63)) : RO mp35x0 := runAllD S35x0 x l
theorem lo35 : loopsOf (c35) = [.rangeFunc (.tmp 11) #[12] as35x0 b35x0] := by kernel_rfl
noncomputable def l35 : List Loop := [.known (rangeD 0 [] 11 T63 mp35x0 [] [] (fun x l => L35x0 x l))]
def Q35 {α : Type} (l : Option (r35).den → α) (an : α → α → α) (x : (a35).den) : α := cl (r55).dflt (M55 (x.1, ())) (fun u0 => bif (!u0.1) then l (some ((⟨0, fun i => ((0 : Int), ((0 : Int), ()))⟩ : Sl _), ((2 : Int), ()))) else cl (r57).dflt (M57 (x.1, ())) (fun u1 => bif (ip69 (u1.1, ()) ()) then onNext (L35x0 ((), (((⟨0, fun i => ((0 : Int), ((0 : Int), ()))⟩ : Sl _), ()), ())) (Sl.list (ii69 (u1.1, ()) ()))) (fun u2 => l (some (u2.2.1.1, ((0 : Int), ())))) (onRetO (L35x0 ((), (((⟨0, fun i => ((0 : Int), ((0 : Int), ()))⟩ : Sl _), ()), ())) (Sl.list (ii69 (u1.1, ()) ()))) (fun u3 => l none) (l none)) else l none) (l none)) (l none)
theorem q35 (x : (a35).den) : runFn Try.prog E0 G35 Try.f35 l35 a35 r35 x = Q35 .leaf .any x := by kernel_rfl
def M35 (x : (a35).den) : Option (r35).den := Q35 (fun r => r) (fun _ _ => none) x
theorem m35 (x : (a35).den) : (runFn Try.prog E0 G35 Try.f35 l35 a35 r35 x).sure = M35 x := by rw [q35]; unfold M35 Q35; simp only [sure_cond, Tree.sure, sure_cl, sure_onExit, sure_onRet, sure_onPanL, sure_onNext, sure_onBrk, sure_onRetO, sure_onPan, sure_onOk, sure_onGPan]
def p35 (x : (a35).den) : Bool := (M35 x).isSome
def v35 (x : (a35).den) : (r35).den := (M35 x).getD (r35).dflt
def k35 : Con := ⟨a35, r35, p35, v35⟩
theorem h35 : Holds Try.prog 35 k35 := holds_of_M' (E := E0) follows_ok g35 eqTy_sound keyTy_sound at35 bd35 (by kernel_rfl) m35 fun G' hlo hF hE => LsOK_kn (by rw [lo35]; exact .cons (rangeD_ok hE hF hlo at35 (by kernel_rfl) (by kernel_rfl) (by kernel_rfl) (by kernel_rfl) (by kernel_rfl) (fun G' hlo hF l hE => LsOK_nil) (fun G' hlo hF l hE => LsOK_kn (by rw [lo35x0]; exact .nil)) s35x0) (.nil))
/-- isobar/isobarref05.SameAlarms -/
noncomputable def c36 : Code := Try.f36.body.getD .skip
theorem at36 : Try.prog.funcs[36]? = some Try.f36 := by kernel_rfl
theorem bd36 : Try.f36.body = some c36 := by kernel_rfl
theorem cl36 : Callable Try.prog 36 := callable_of at36 (by kernel_rfl) (by kernel_rfl)
abbrev T95 : Ty := (.cons (.sl T1) .nil)
abbrev T96 : Ty := (.cons (.sl T1) T95)
abbrev a36 : Ty := T96
abbrev r36 : Ty := T3
noncomputable def G36 : Ctx := Ctx.of []
theorem g36 : Sound Try.prog (G36) := sound_of (fun _ h => by cases h)
noncomputable def b36x0 : Code := loopBody ((loopsOf (c36))[0]?)
theorem lo36x0 : loopsOf (b36x0) = [] := by kernel_rfl
abbrev cs36x0 : List Pat := [.slot 0 (.pc (.sl T1)), .slot 1 (.pc (.sl T1))]
abbrev vs36x0 : List Pat := [.slot 5 (.pc tI)]
abbrev ps36x0 : List Pat := [.slot 0 (.pc (.sl T1)), .slot 1 (.pc (.sl T1)), .slot 5 (.pc tI)]
def j36x0 : (patsTy cs36x0).den → (patsTy vs36x0).den → (patsTy ps36x0).den := fun c v => (c.1, (c.2.1, v))
def sp36x0 : (patsTy ps36x0).den → (patsTy cs36x0).den × (patsTy vs36x0).den := fun x => ((x.1, (x.2.1, ())), x.2.2)
abbrev wy36x0 : Ways := ⟨[(0, [])], [.slot 4 (.pc .bool)], []⟩
abbrev wv36x0 : Ways := ⟨[(0, [])], [.slot 4 (.pc .bool)], []⟩
def je36x0 : (id : Nat) → (patsTy cs36x0).den → (patsTy (wayP wv36x0 id)).den → (patsTy (wayP wy36x0 id)).den := fun id => match id with | 0 => fun c y => y | id => fun _ _ => (patsTy (wayP wy36x0 id)).dflt
def jr36x0 : (patsTy cs36x0).den → (patsTy (wv36x0).ret).den → (patsTy (wy36x0).ret).den := fun c y => y
def jp36x0 : (patsTy cs36x0).den → (patsTy (wv36x0).pan).den → (patsTy (wy36x0).pan).den := fun c y => y
def Z36x0 {α : Type} (l : RQ vs36x0 wv36x0 → α) (an : α → α → α) (c : (patsTy cs36x0).den) (v : (patsTy vs36x0).den) : α := bif (decide (v.1 < ((c.1.n : Nat) : Int))) then bif (decide (((0 : Int) ≤ v.1) ∧ (v.1 < ((c.1.n : Nat) : Int)))) then bif (decide (((0 : Int) ≤ v.1) ∧ (v.1 < ((c.2.1.n : Nat) : Int)))) then bif (!((decide ((c.1.g (Int.toNat v.1)).1 = (c.2.1.g (Int.toNat v.1)).1)) && ((decide ((c.1.g (Int.toNat v.1)).2.1 = (c.2.1.g (Int.toNat v.1)).2.1)) && true))) then l (.out (.ret (false, ()))) else l (.next ((W (v.1 + (1 : Int))), ())) else l .bad else l .bad else l (.out (.exit 0 ()))
theorem z36x0 (c : (patsTy cs36x0).den) (v : (patsTy vs36x0).den) : roundQ Try.prog E0 G36 0 26 [] ps36x0 wy36x0 b36x0 [] (j36x0 c v) = Z36x0 (fun r => .leaf (r.lift j36x0 je36x0 jr36x0 jp36x0 c)) .any c v := by kernel_rfl
def S36x0 (c : (patsTy cs36x0).den) (v : (patsTy vs36x0).den) : RQ vs36x0 wv36x0 := Z36x0 (fun r => r) (fun _ _ => .bad) c v
theorem s36x0 (c : (patsTy cs36x0).den) (v : (patsTy vs36x0).den) : detQ (roundQ Try.prog E0 G36 0 26 [] ps36x0 wy36x0 b36x0 [] (j36x0 c v)) = (S36x0 c v).lift j36x0 je36x0 jr36x0 jp36x0 c := by rw [z36x0]; unfold S36x0 Z36x0; simp only [detQ_cond, lift_cond, lift_bad, detQ, detQ_cl, detQ_onExit, detQ_onRet, detQ_onPanL, detQ_onNext, detQ_onBrk, detQ_onRetO, detQ_onPan, detQ_onOk, detQ_onGPan, lift_cl, lift_onExit, lift_onRet, lift_onPanL, lift_onNext, lift_onBrk, lift_onRetO, lift_onPan, lift_onOk, lift_onGPan]
def L36x0 (c : (patsTy cs36x0).den) (v : (patsTy vs36x0).den) : LQ wv36x0 := iterQ (S36x0 c) big v
theorem lo36 : loopsOf (c36) = [.loop b36x0] := by kernel_rfl
noncomputable def l36 : List Loop := [.known (loopZ 0 [] ps36x0 fun x => spreadV wy36x0 je36x0 jr36x0 jp36x0 [] true (sp36x0 x).1 (L36x0 (sp36x0 x).1 (sp36x0 x).2) wy36x0.exits)]
def Q36 {α : Type} (l : Option (r36).den → α) (an : α → α → α) (x : (a36).den) : α := bif (!(decide (((x.1.n : Nat) : Int) = ((x.2.1.n : Nat) : Int)))) then l (some (false, ())) else onExit (L36x0 x ((0 : Int), ())) 0 (fun u0 => l (some (true, ()))) (onRet (L36x0 x ((0 : Int), ())) (fun u1 => l (some u1)) (l none))
theorem q36 (x : (a36).den) : runFn Try.prog E0 G36 Try.f36 l36 a36 r36 x = Q36 .leaf .any x := by kernel_rfl
def M36 (x : (a36).den) : Option (r36).den := Q36 (fun r => r) (fun _ _ => none) x
theorem m36 (x : (a36).den) : (runFn Try.prog E0 G36 Try.f36 l36 a36 r36 x).sure = M36 x := by rw [q36]; unfold M36 Q36; simp only [sure_cond, Tree.sure, sure_cl, sure_onExit, sure_onRet, sure_onPanL, sure_onNext, sure_onBrk, sure_onRetO, sure_onPan, sure_onOk, sure_onGPan]
def p36 (x : (a36).den) : Bool := (M36 x).isSome
def v36 (x : (a36).den) : (r36).den := (M36 x).getD (r36).dflt
def k36 : Con := ⟨a36, r36, p36, v36⟩
theorem h36 : Holds Try.prog 36 k36 := holds_of_M' (E := E0) follows_ok g36 eqTy_sound keyTy_sound at36 bd36 (by kernel_rfl) m36 fun G' hlo hF hE => LsOK_kn (by rw [lo36]; exact .cons (loopV_ok hE hF hlo (LsOK_kn (by rw [lo36x0]; exact .nil)) (by kernel_rfl) (by kernel_rfl) sp36x0 (fun _ => rfl) (fun _ _ => rfl) (s36x0) big) (.nil))
/-- isobar/cone.sum -/
noncomputable def c74 : Code := Try.f74.body.getD .skip
theorem at74 : Try.prog.funcs[74]? = some Try.f74 := by kernel_rfl
theorem bd74 : Try.f74.body = some c74 := by kernel_rfl
theorem cl74 : Callable Try.prog 74 := callable_of at74 (by kernel_rfl) (by kernel_rfl)
abbrev a74 : Ty := T42
abbrev r74 : Ty := T0
noncomputable def G74 : Ctx := Ctx.of []
theorem g74 : Sound Try.prog (G74) := sound_of (fun _ h => by cases h)
noncomputable def b74x0 : Code := loopBody ((loopsOf (c74))[0]?)
theorem lo74x0 : loopsOf (b74x0) = [] := by kernel_rfl
abbrev cs74x0 : List Pat := [.slot 6 (.pc (.sl T0)), .slot 7 (.pc tI)]
abbrev vs74x0 : List Pat := [.slot 3 (.pc tI), .slot 8 (.pc tI)]
abbrev ps74x0 : List Pat := [.slot 6 (.pc (.sl T0)), .slot 7 (.pc tI), .slot 3 (.pc tI), .slot 8 (.pc tI)]
def j74x0 : (patsTy cs74x0).den → (patsTy vs74x0).den → (patsTy ps74x0).den := fun c v => (c.1, (c.2.1, v))
def sp74x0 : (patsTy ps74x0).den → (patsTy cs74x0).den × (patsTy vs74x0).den := fun x => ((x.1, (x.2.1, ())), x.2.2)
abbrev wy74x0 : Ways := ⟨[(0, [.slot 3 (.pc tI)])], [], []⟩
abbrev wv74x0 : Ways := ⟨[(0, [.slot 3 (.pc tI)])], [], []⟩
def je74x0 : (id : Nat) → (patsTy cs74x0).den → (patsTy (wayP wv74x0 id)).den → (patsTy (wayP wy74x0 id)).den := fun id => match id with | 0 => fun c y => y | id => fun _ _ => (patsTy (wayP wy74x0 id)).dflt
def jr74x0 : (patsTy cs74x0).den → (patsTy (wv74x0).ret).den → (patsTy (wy74x0).ret).den := fun c y => y
def jp74x0 : (patsTy cs74x0).den → (patsTy (wv74x0).pan).den → (patsTy (wy74x0).pan).den := fun c y => y
def Z74x0 {α : Type} (l : RQ vs74x0 wv74x0 → α) (an : α → α → α) (c : (patsTy cs74x0).den) (v : (patsTy vs74x0).den) : α := bif (decide (v.2.1 < c.2.1)) then bif (decide (((0 : Int) ≤ v.2.1) ∧ (v.2.1 < ((c.1.n : Nat) : Int)))) then l (.next ((W (v.1 + (c.1.g (Int.toNat v.2.1)).1)), ((W (v.2.1 + (1 : Int))), ()))) else l .bad else l (.out (.exit 0 (v.1, ())))
theorem z74x0 (c : (patsTy cs74x0).den) (v : (patsTy vs74x0).den) : roundQ Try.prog E0 G74 0 17 [] ps74x0 wy74x0 b74x0 [] (j74x0 c v) = Z74x0 (fun r => .leaf (r.lift j74x0 je74x0 jr74x0 jp74x0 c)) .any c v := by kernel_rfl
def S74x0 (c : (patsTy cs74x0).den) (v : (patsTy vs74x0).den) : RQ vs74x0 wv74x0 := Z74x0 (fun r => r) (fun _ _ => .bad) c v
theorem s74x0 (c : (patsTy cs74x0).den) (v : (patsTy vs74x0).den) : detQ (roundQ Try.prog E0 G74 0 17 [] ps74x0 wy74x0 b74x0 [] (j74x0 c v)) = (S74x0 c v).lift j74x0 je74x0 jr74x0 jp74x0 c := by rw [z74x0]; unfold S74x0 Z74x0; simp only [detQ_cond, lift_cond, lift_bad, detQ, detQ_cl, detQ_onExit, detQ_onRet, detQ_onPanL, detQ_onNext, detQ_onBrk, detQ_onRetO, detQ_onPan, detQ_onOk, detQ_onGPan, lift_cl, lift_onExit, lift_onRet, lift_onPanL, lift_onNext, lift_onBrk, lift_onRetO, lift_onPan, lift_onOk, lift_onGPan]
def L74x0 (c : (patsTy cs74x0).den) (v : (patsTy vs74x0).den) : LQ wv74x0 := iterQ (S74x0 c) big v
theorem lo74 : loopsOf (c74) = [.loop b74x0] := by kernel_rfl
noncomputable def l74 : List Loop := [.known (loopZ 0 [] ps74x0 fun x => spreadV wy74x0 je74x0 jr74x0 jp74x0 [] false (sp74x0 x).1 (L74x0 (sp74x0 x).1 (sp74x0 x).2) wy74x0.exits)]
def Q74 {α : Type} (l : Option (r74).den → α) (an : α → α → α) (x : (a74).den) : α := onExit (L74x0 (x.1, (((x.1.n : Nat) : Int), ())) ((0 : Int), ((0 : Int), ()))) 0 (fun u0 => l (some u0)) (l none)
theorem q74 (x : (a74).den) : runFn Try.prog E0 G74 Try.f74 l74 a74 r74 x = Q74 .leaf .any x := by kernel_rfl
def M74 (x : (a74).den) : Option (r74).den := Q74 (fun r => r) (fun _ _ => none) x
theorem m74 (x : (a74).den) : (runFn Try.prog E0 G74 Try.f74 l74 a74 r74 x).sure = M74 x := by rw [q74]; unfold M74 Q74; simp only [sure_cond, Tree.sure, sure_cl, sure_onExit, sure_onRet, sure_onPanL, sure_onNext, sure_onBrk, sure_onRetO, sure_onPan, sure_onOk, sure_onGPan]
def p74 (x : (a74).den) : Bool := (M74 x).isSome
def v74 (x : (a74).den) : (r74).den := (M74 x).getD (r74).dflt
def k74 : Con := ⟨a74, r74, p74, v74⟩
theorem h74 : Holds Try.prog 74 k74 := holds_of_M' (E := E0) follows_ok g74 eqTy_sound keyTy_sound at74 bd74 (by kernel_rfl) m74 fun G' hlo hF hE => LsOK_kn (by rw [lo74]; exact .cons (loopV_ok hE hF hlo (LsOK_kn (by rw [lo74x0]; exact .nil)) (by kernel_rfl) (by kernel_rfl) sp74x0 (fun _ => rfl) (fun _ _ => rfl) (s74x0) big) (.nil))
/-- cmp.Or[int] -/
noncomputable def c77 : Code := Try.f77.body.getD .skip
theorem at77 : Try.prog.funcs[77]? = some Try.f77 := by kernel_rfl
theorem bd77 : Try.f77.body = some c77 := by kernel_rfl
theorem cl77 : Callable Try.prog 77 := callable_of at77 (by kernel_rfl) (by kernel_rfl)
abbrev a77 : Ty := T42
abbrev r77 : Ty := T0
noncomputable def G77 : Ctx := Ctx.of []
theorem g77 : Sound Try.prog (G77) := sound_of (fun _ h => by cases h)
noncomputable def b77x0 : Code := loopBody ((loopsOf (c77))[0]?)
theorem lo77x0 : loopsOf (b77x0) = [] := by kernel_rfl
abbrev cs77x0 : List Pat := [.slot 3 (.pc tI), .slot 6 (.pc (.sl T0)), .slot 7 (.pc tI)]
abbrev vs77x0 : List Pat := [.slot 8 (.pc tI)]
abbrev ps77x0 : List Pat := [.slot 3 (.pc tI), .slot 6 (.pc (.sl T0)), .slot 7 (.pc tI), .slot 8 (.pc tI)]
def j77x0 : (patsTy cs77x0).den → (patsTy vs77x0).den → (patsTy ps77x0).den := fun c v => (c.1, (c.2.1, (c.2.2.1, v)))
def sp77x0 : (patsTy ps77x0).den → (patsTy cs77x0).den × (patsTy vs77x0).den := fun x => ((x.1, (x.2.1, (x.2.2.1, ()))), x.2.2.2)
abbrev wy77x0 : Ways := ⟨[(0, [.slot 3 (.pc tI)])], [.slot 2 (.pc tI)], []⟩
abbrev wv77x0 : Ways := ⟨[(0, [])], [.slot 2 (.pc tI)], []⟩
def je77x0 : (id : Nat) → (patsTy cs77x0).den → (patsTy (wayP wv77x0 id)).den → (patsTy (wayP wy77x0 id)).den := fun id => match id with | 0 => fun c y => (c.1, y) | id => fun _ _ => (patsTy (wayP wy77x0 id)).dflt
def jr77x0 : (patsTy cs77x0).den → (patsTy (wv77x0).ret).den → (patsTy (wy77x0).ret).den := fun c y => y
def jp77x0 : (patsTy cs77x0).den → (patsTy (wv77x0).pan).den → (patsTy (wy77x0).pan).den := fun c y => y
def Z77x0 {α : Type} (l : RQ vs77x0 wv77x0 → α) (an : α → α → α) (c : (patsTy cs77x0).den) (v : (patsTy vs77x0).den) : α := bif (decide (v.1 < c.2.2.1)) then bif (decide (((0 : Int) ≤ v.1) ∧ (v.1 < ((c.2.1.n : Nat) : Int)))) then bif (!(decide ((c.2.1.g (Int.toNat v.1)).1 = c.1))) then l (.out (.ret (c.2.1.g (Int.toNat v.1)))) else l (.next ((W (v.1 + (1 : Int))), ())) else l .bad else l (.out (.exit 0 ()))
theorem z77x0 (c : (patsTy cs77x0).den) (v : (patsTy vs77x0).den) : roundQ Try.prog E0 G77 0 18 [] ps77x0 wy77x0 b77x0 [] (j77x0 c v) = Z77x0 (fun r => .leaf (r.lift j77x0 je77x0 jr77x0 jp77x0 c)) .any c v := by kernel_rfl
def S77x0 (c : (patsTy cs77x0).den) (v : (patsTy vs77x0).den) : RQ vs77x0 wv77x0 := Z77x0 (fun r => r) (fun _ _ => .bad) c v
theorem s77x0 (c : (patsTy cs77x0).den) (v : (patsTy vs77x0).den) : detQ (roundQ Try.prog E0 G77 0 18 [] ps77x0 wy77x0 b77x0 [] (j77x0 c v)) = (S77x0 c v).lift j77x0 je77x0 jr77x0 jp77x0 c := by rw [z77x0]; unfold S77x0 Z77x0; simp only [detQ_cond, lift_cond, lift_bad, detQ, detQ_cl, detQ_onExit, detQ_onRet, detQ_onPanL, detQ_onNext, detQ_onBrk, detQ_onRetO, detQ_onPan, detQ_onOk, detQ_onGPan, lift_cl, lift_onExit, lift_onRet, lift_onPanL, lift_onNext, lift_onBrk, lift_onRetO, lift_onPan, lift_onOk, lift_onGPan]
def L77x0 (c : (patsTy cs77x0).den) (v : (patsTy vs77x0).den) : LQ wv77x0 := iterQ (S77x0 c) big v
theorem lo77 : loopsOf (c77) = [.loop b77x0] := by kernel_rfl
noncomputable def l77 : List Loop := [.known (loopZ 0 [] ps77x0 fun x => spreadV wy77x0 je77x0 jr77x0 jp77x0 [] true (sp77x0 x).1 (L77x0 (sp77x0 x).1 (sp77x0 x).2) wy77x0.exits)]
def Q77 {α : Type} (l : Option (r77).den → α) (an : α → α → α) (x : (a77).den) : α := onExit (L77x0 ((0 : Int), (x.1, (((x.1.n : Nat) : Int), ()))) ((0 : Int), ())) 0 (fun u0 => l (some ((0 : Int), ()))) (onRet (L77x0 ((0 : Int), (x.1, (((x.1.n : Nat) : Int), ()))) ((0 : Int), ())) (fun u1 => l (some u1)) (l none))
theorem q77 (x : (a77).den) : runFn Try.prog E0 G77 Try.f77 l77 a77 r77 x = Q77 .leaf .any x := by kernel_rfl
def M77 (x : (a77).den) : Option (r77).den := Q77 (fun r => r) (fun _ _ => none) x
theorem m77 (x : (a77).den) : (runFn Try.prog E0 G77 Try.f77 l77 a77 r77 x).sure = M77 x := by rw [q77]; unfold M77 Q77; simp only [sure_cond, Tree.sure, sure_cl, sure_onExit, sure_onRet, sure_onPanL, sure_onNext, sure_onBrk, sure_onRetO, sure_onPan, sure_onOk, sure_onGPan]
def p77 (x : (a77).den) : Bool := (M77 x).isSome
def v77 (x : (a77).den) : (r77).den := (M77 x).getD (r77).dflt
def k77 : Con := ⟨a77, r77, p77, v77⟩
theorem h77 : Holds Try.prog 77 k77 := holds_of_M' (E := E0) follows_ok g77 eqTy_sound keyTy_sound at77 bd77 (by kernel_rfl) m77 fun G' hlo hF hE => LsOK_kn (by rw [lo77]; exact .cons (loopV_ok hE hF hlo (LsOK_kn (by rw [lo77x0]; exact .nil)) (by kernel_rfl) (by kernel_rfl) sp77x0 (fun _ => rfl) (fun _ _ => rfl) (s77x0) big) (.nil))
/-- cmp.isNaN[int] -/
noncomputable def c106 : Code := Try.f106.body.getD .skip
theorem at106 : Try.prog.funcs[106]? = some Try.f106 := by kernel_rfl
theorem bd106 : Try.f106.body = some c106 := by kernel_rfl
theorem cl106 : Callable Try.prog 106 := callable_of at106 (by kernel_rfl) (by kernel_rfl)
abbrev a106 : Ty := T0
abbrev r106 : Ty := T3
noncomputable def G106 : Ctx := Ctx.of []
theorem g106 : Sound Try.prog (G106) := sound_of (fun _ h => by cases h)
theorem lo106 : loopsOf (c106) = [] := by kernel_rfl
noncomputable def l106 : List Loop := []
def Q106 {α : Type} (l : Option (r106).den → α) (an : α → α → α) (x : (a106).den) : α := l (some ((!(decide (x.1 = x.1))), ()))
theorem q106 (x : (a106).den) : runFn Try.prog E0 G106 Try.f106 l106 a106 r106 x = Q106 .leaf .any x := by kernel_rfl
def M106 (x : (a106).den) : Option (r106).den := Q106 (fun r => r) (fun _ _ => none) x
theorem m106 (x : (a106).den) : (runFn Try.prog E0 G106 Try.f106 l106 a106 r106 x).sure = M106 x := by rw [q106]; unfold M106 Q106; simp only [sure_cond, Tree.sure, sure_cl, sure_onExit, sure_onRet, sure_onPanL, sure_onNext, sure_onBrk, sure_onRetO, sure_onPan, sure_onOk, sure_onGPan]
def p106 (x : (a106).den) : Bool := (M106 x).isSome
def v106 (x : (a106).den) : (r106).den := (M106 x).getD (r106).dflt
def k106 : Con := ⟨a106, r106, p106, v106⟩
theorem h106 : Holds Try.prog 106 k106 := holds_of_M' (E := E0) follows_ok g106 eqTy_sound keyTy_sound at106 bd106 (by kernel_rfl) m106 fun G' hlo hF hE => LsOK_kn (by rw [lo106]; exact .nil)
/-- cmp.Compare[int] -/
noncomputable def c78 : Code := Try.f78.body.getD .skip
theorem at78 : Try.prog.funcs[78]? = some Try.f78 := by kernel_rfl
theorem bd78 : Try.f78.body = some c78 := by kernel_rfl
theorem cl78 : Callable Try.prog 78 := callable_of at78 (by kernel_rfl) (by kernel_rfl)
abbrev a78 : Ty := T1
abbrev r78 : Ty := T0
noncomputable def G78 : Ctx := Ctx.of [(106, .pure k106)]
theorem g78 : Sound Try.prog (G78) := sound_of (List.forall_mem_cons.2 ⟨⟨cl106, h106⟩, fun _ h => by cases h⟩)
theorem lo78 : loopsOf (c78) = [] := by kernel_rfl
noncomputable def l78 : List Loop := []
def Q78 {α : Type} (l : Option (r78).den → α) (an : α → α → α) (x : (a78).den) : α := cl (r106).dflt (M106 (x.1, ())) (fun u0 => cl (r106).dflt (M106 x.2) (fun u1 => bif u0.1 then bif u1.1 then l (some ((0 : Int), ())) else l (some ((-1 : Int), ())) else bif u1.1 then l (some ((1 : Int), ())) else bif (decide (x.1 < x.2.1)) then l (some ((-1 : Int), ())) else bif (decide (x.2.1 < x.1)) then l (some ((1 : Int), ())) else l (some ((0 : Int), ()))) (l none)) (l none)
theorem q78 (x : (a78).den) : runFn Try.prog E0 G78 Try.f78 l78 a78 r78 x = Q78 .leaf .any x := by kernel_rfl
def M78 (x : (a78).den) : Option (r78).den := Q78 (fun r => r) (fun _ _ => none) x
theorem m78 (x : (a78).den) : (runFn Try.prog E0 G78 Try.f78 l78 a78 r78 x).sure = M78 x := by rw [q78]; unfold M78 Q78; simp only [sure_cond, Tree.sure, sure_cl, sure_onExit, sure_onRet, sure_onPanL, sure_onNext, sure_onBrk, sure_onRetO, sure_onPan, sure_onOk, sure_onGPan]
def p78 (x : (a78).den) : Bool := (M78 x).isSome
def v78 (x : (a78).den) : (r78).den := (M78 x).getD (r78).dflt
def k78 : Con := ⟨a78, r78, p78, v78⟩
theorem h78 : Holds Try.prog 78 k78 := holds_of_M' (E := E0) follows_ok g78 eqTy_sound keyTy_sound at78 bd78 (by kernel_rfl) m78 fun G' hlo hF hE => LsOK_kn (by rw [lo78]; exact .nil)
/-- slices.Compare[[]int,int] -/
noncomputable def c79 : Code := Try.f79.body.getD .skip
theorem at79 : Try.prog.funcs[79]? = some Try.f79 := by kernel_rfl
theorem bd79 : Try.f79.body = some c79 := by kernel_rfl
theorem cl79 : Callable Try.prog 79 := callable_of at79 (by kernel_rfl) (by kernel_rfl)
abbrev a79 : Ty := T70
abbrev r79 : Ty := T0
noncomputable def G79 : Ctx := Ctx.of [(78, .pure k78)]
theorem g79 : Sound Try.prog (G79) := sound_of (List.forall_mem_cons.2 ⟨⟨cl78, h78⟩, fun _ h => by cases h⟩)
noncomputable def b79x0 : Code := loopBody ((loopsOf (c79))[0]?)
theorem lo79x0 : loopsOf (b79x0) = [] := by kernel_rfl
abbrev cs79x0 : List Pat := [.slot 0 (.pc (.sl T0)), .slot 1 (.pc (.sl T0)), .slot 9 (.pc (.sl T0)), .slot 10 (.pc tI)]
abbrev vs79x0 : List Pat := [.slot 11 (.pc tI)]
abbrev ps79x0 : List Pat := [.slot 0 (.pc (.sl T0)), .slot 1 (.pc (.sl T0)), .slot 9 (.pc (.sl T0)), .slot 10 (.pc tI), .slot 11 (.pc tI)]
def j79x0 : (patsTy cs79x0).den → (patsTy vs79x0).den → (patsTy ps79x0).den := fun c v => (c.1, (c.2.1, (c.2.2.1, (c.2.2.2.1, v))))
def sp79x0 : (patsTy ps79x0).den → (patsTy cs79x0).den × (patsTy vs79x0).den := fun x => ((x.1, (x.2.1, (x.2.2.1, (x.2.2.2.1, ())))), x.2.2.2.2)
abbrev wy79x0 : Ways := ⟨[(0, [.slot 0 (.pc (.sl T0)), .slot 1 (.pc (.sl T0))])], [.slot 4 (.pc tI)], []⟩
abbrev wv79x0 : Ways := ⟨[(0, [])], [.slot 4 (.pc tI)], []⟩
def je79x0 : (id : Nat) → (patsTy cs79x0).den → (patsTy (wayP wv79x0 id)).den → (patsTy (wayP wy79x0 id)).den := fun id => match id with | 0 => fun c y => (c.1, (c.2.1, y)) | id => fun _ _ => (patsTy (wayP wy79x0 id)).dflt
def jr79x0 : (patsTy cs79x0).den → (patsTy (wv79x0).ret).den → (patsTy (wy79x0).ret).den := fun c y => y
def jp79x0 : (patsTy cs79x0).den → (patsTy (wv79x0).pan).den → (patsTy (wy79x0).pan).den := fun c y => y
def Z79x0 {α : Type} (l : RQ vs79x0 wv79x0 → α) (an : α → α → α) (c : (patsTy cs79x0).den) (v : (patsTy vs79x0).den) : α := bif (decide (v.1 < c.2.2.2.1)) then bif (decide (((0 : Int) ≤ v.1) ∧ (v.1 < ((c.2.2.1.n : Nat) : Int)))) then bif (decide (((c.2.1.n : Nat) : Int) ≤ v.1)) then l (.out (.ret ((1 : Int), ()))) else bif (decide (((0 : Int) ≤ v.1) ∧ (v.1 < ((c.2.1.n : Nat) : Int)))) then cl (r78).dflt (M78 ((c.2.2.1.g (Int.toNat v.1)).1, (c.2.1.g (Int.toNat v.1)))) (fun u0 => bif (!(decide (u0.1 = (0 : Int)))) then l (.out (.ret u0)) else l (.next ((W (v.1 + (1 : Int))), ()))) (l .bad) else l .bad else l .bad else l (.out (.exit 0 ()))
theorem z79x0 (c : (patsTy cs79x0).den) (v : (patsTy vs79x0).den) : roundQ Try.prog E0 G79 0 36 [] ps79x0 wy79x0 b79x0 [] (j79x0 c v) = Z79x0 (fun r => .leaf (r.lift j79x0 je79x0 jr79x0 jp79x0 c)) .any c v := by kernel_rfl
def S79x0 (c : (patsTy cs79x0).den) (v : (patsTy vs79x0).den) : RQ vs79x0 wv79x0 := Z79x0 (fun r => r) (fun _ _ => .bad) c v
theorem s79x0 (c : (patsTy cs79x0).den) (v : (patsTy vs79x0).den) : detQ (roundQ Try.prog E0 G79 0 36 [] ps79x0 wy79x0 b79x0 [] (j79x0 c v)) = (S79x0 c v).lift j79x0 je79x0 jr79x0 jp79x0 c := by rw [z79x0]; unfold S79x0 Z79x0; simp only [detQ_cond, lift_cond, lift_bad, detQ, detQ_cl, detQ_onExit, detQ_onRet, detQ_onPanL, detQ_onNext, detQ_onBrk, detQ_onRetO, detQ_onPan, detQ_onOk, detQ_onGPan, lift_cl, lift_onExit, lift_onRet, lift_onPanL, lift_onNext, lift_onBrk, lift_onRetO, lift_onPan, lift_onOk, lift_onGPan]
def L79x0 (c : (patsTy cs79x0).den) (v : (patsTy vs79x0).den) : LQ wv79x0 := iterQ (S79x0 c) big v
theorem lo79 : loopsOf (c79) = [.loop b79x0] := by kernel_rfl
noncomputable def l79 : List Loop := [.known (loopZ 0 [] ps79x0 fun x => spreadV wy79x0 je79x0 jr79x0 jp79x0 [] true (sp79x0 x).1 (L79x0 (sp79x0 x).1 (sp79x0 x).2) wy79x0.exits)]
def Q79 {α : Type} (l : Option (r79).den → α) (an : α → α → α) (x : (a79).den) : α := onExit (L79x0 (x.1, (x.2.1, (x.1, (((x.1.n : Nat) : Int), ())))) ((0 : Int), ())) 0 (fun u1 => bif (decide (((x.1.n : Nat) : Int) < ((x.2.1.n : Nat) : Int))) then l (some ((-1 : Int), ())) else l (some ((0 : Int), ()))) (onRet (L79x0 (x.1, (x.2.1, (x.1, (((x.1.n : Nat) : Int), ())))) ((0 : Int), ())) (fun u2 => l (some u2)) (l none))
theorem q79 (x : (a79).den) : runFn Try.prog E0 G79 Try.f79 l79 a79 r79 x = Q79 .leaf .any x := by kernel_rfl
def M79 (x : (a79).den) : Option (r79).den := Q79 (fun r => r) (fun _ _ => none) x
theorem m79 (x : (a79).den) : (runFn Try.prog E0 G79 Try.f79 l79 a79 r79 x).sure = M79 x := by rw [q79]; unfold M79 Q79; simp only [sure_cond, Tree.sure, sure_cl, sure_onExit, sure_onRet, sure_onPanL, sure_onNext, sure_onBrk, sure_onRetO, sure_onPan, sure_onOk, sure_onGPan]
def p79 (x : (a79).den) : Bool := (M79 x).isSome
def v79 (x : (a79).den) : (r79).den := (M79 x).getD (r79).dflt
def k79 : Con := ⟨a79, r79, p79, v79⟩
theorem h79 : Holds Try.prog 79 k79 := holds_of_M' (E := E0) follows_ok g79 eqTy_sound keyTy_sound at79 bd79 (by kernel_rfl) m79 fun G' hlo hF hE => LsOK_kn (by rw [lo79]; exact .cons (loopV_ok hE hF hlo (LsOK_kn (by rw [lo79x0]; exact .nil)) (by kernel_rfl) (by kernel_rfl) sp79x0 (fun _ => rfl) (fun _ _ => rfl) (s79x0) big) (.nil))
/-- isobar/cone.Speed$1 -/
noncomputable def c76 : Code := Try.f76.body.getD .skip
theorem at76 : Try.prog.funcs[76]? = some Try.f76 := by kernel_rfl
theorem bd76 : Try.f76.body = some c76 := by kernel_rfl
theorem cl76 : Callable Try.prog 76 := callable_of at76 (by kernel_rfl) (by kernel_rfl)
abbrev T97 : Ty := (.agg T81)
abbrev T98 : Ty := (.cons T97 .nil)
abbrev T99 : Ty := (.cons T97 T98)
abbrev a76 : Ty := T99
abbrev r76 : Ty := T0
noncomputable def G76 : Ctx := Ctx.of [(77, .pure k77), (78, .pure k78), (79, .pure k79)]
theorem g76 : Sound Try.prog (G76) := sound_of (List.forall_mem_cons.2 ⟨⟨cl77, h77⟩, List.forall_mem_cons.2 ⟨⟨cl78, h78⟩, List.forall_mem_cons.2 ⟨⟨cl79, h79⟩, fun _ h => by cases h⟩⟩⟩)
theorem lo76 : loopsOf (c76) = [] := by kernel_rfl
noncomputable def l76 : List Loop := []
def Q76 {α : Type} (l : Option (r76).den → α) (an : α → α → α) (x : (a76).den) : α := cl (r78).dflt (M78 (x.1.2.1, x.2.1.2)) (fun u0 => cl (r78).dflt (M78 (((x.1.1.n : Nat) : Int), (((x.2.1.1.n : Nat) : Int), ()))) (fun u1 => cl (r79).dflt (M79 (x.1.1, (x.2.1.1, ()))) (fun u2 => cl (r77).dflt (M77 ((⟨3, fun i => List.getD [u0, u1, u2] i u0⟩ : Sl _), ())) (fun u3 => l (some u3)) (l none)) (l none)) (l none)) (l none)
theorem q76 (x : (a76).den) : runFn Try.prog E0 G76 Try.f76 l76 a76 r76 x = Q76 .leaf .any x := by kernel_rfl
def M76 (x : (a76).den) : Option (r76).den := Q76 (fun r => r) (fun _ _ => none) x
theorem m76 (x : (a76).den) : (runFn Try.prog E0 G76 Try.f76 l76 a76 r76 x).sure = M76 x := by rw [q76]; unfold M76 Q76; simp only [sure_cond, Tree.sure, sure_cl, sure_onExit, sure_onRet, sure_onPanL, sure_onNext, sure_onBrk, sure_onRetO, sure_onPan, sure_onOk, sure_onGPan]
def p76 (x : (a76).den) : Bool := (M76 x).isSome
def v76 (x : (a76).den) : (r76).den := (M76 x).getD (r76).dflt
def k76 : Con := ⟨a76, r76, p76, v76⟩
theorem h76 : Holds Try.prog 76 k76 := holds_of_M' (E := E0) follows_ok g76 eqTy_sound keyTy_sound at76 bd76 (by kernel_rfl) m76 fun G' hlo hF hE => LsOK_kn (by rw [lo76]; exact .nil)
/-- slices.Clone[[]isobar/api.ConeReport,isobar/api.ConeReport] -/
noncomputable def c113 : Code := Try.f113.body.getD .skip
theorem at113 : Try.prog.funcs[113]? = some Try.f113 := by kernel_rfl
theorem bd113 : Try.f113.body = some c113 := by kernel_rfl
theorem cl113 : Callable Try.prog 113 := callable_of at113 (by kernel_rfl) (by kernel_rfl)
abbrev T100 : Ty := (.cons (.sl T7) .nil)
abbrev a113 : Ty := T100
abbrev r113 : Ty := T100
noncomputable def G113 : Ctx := Ctx.of []
theorem g113 : Sound Try.prog (G113) := sound_of (fun _ h => by cases h)
theorem lo113 : loopsOf (c113) = [] := by kernel_rfl
noncomputable def l113 : List Loop := []
def Q113 {α : Type} (l : Option (r113).den → α) (an : α → α → α) (x : (a113).den) : α := bif (Nat.blt 0 x.1.n) then bif (decide ((x.1.n * 56) ≤ 140737488355328)) then l (some x) else l none else an (l (some ((⟨0, fun i => ((0 : Int), ((0 : Int), ((0 : Int), ((0 : Int), ((0 : Int), ((0 : Int), ((0 : Int), ())))))))⟩ : Sl _), ()))) (bif (decide ((x.1.n * 56) ≤ 140737488355328)) then l (some x) else l none)
theorem q113 (x : (a113).den) : runFn Try.prog E0 G113 Try.f113 l113 a113 r113 x = Q113 .leaf .any x := by kernel_rfl
def M113 (x : (a113).den) : Option (r113).den := Q113 (fun r => r) (fun _ _ => none) x
theorem m113 (x : (a113).den) : (runFn Try.prog E0 G113 Try.f113 l113 a113 r113 x).sure = M113 x := by rw [q113]; unfold M113 Q113; simp only [sure_cond, Tree.sure, sure_cl, sure_onExit, sure_onRet, sure_onPanL, sure_onNext, sure_onBrk, sure_onRetO, sure_onPan, sure_onOk, sure_onGPan]
def p113 (x : (a113).den) : Bool := (M113 x).isSome
def v113 (x : (a113).den) : (r113).den := (M113 x).getD (r113).dflt
def k113 : Con := ⟨a113, r113, p113, v113⟩
theorem h113 : Holds Try.prog 113 k113 := holds_of_M' (E := E0) follows_ok g113 eqTy_sound keyTy_sound at113 bd113 (by kernel_rfl) m113 fun G' hlo hF hE => LsOK_kn (by rw [lo113]; exact .nil)
def X113 {α : Type} (l : Option FR → α) (an : α → α → α) (x : (a113).den) : α := bif (Nat.blt 0 x.1.n) then bif (decide ((x.1.n * 56) ≤ 140737488355328)) then l (some ⟨54, T7, x.1⟩) else l none else an (l (some ⟨54, T7, (⟨0, fun i => ((0 : Int), ((0 : Int), ((0 : Int), ((0 : Int), ((0 : Int), ((0 : Int), ((0 : Int), ())))))))⟩ : Sl (Ty.den T7))⟩)) (bif (decide ((x.1.n * 56) ≤ 140737488355328)) then l (some ⟨54, T7, x.1⟩) else l none)
theorem x113 (x : (a113).den) : runC Try.prog E0 G113 Try.f113 l113 2 54 T7 a113 x = X113 .leaf .any x := by kernel_rfl
def R113 (x : (a113).den) : Option (Sl (Ty.den T7)) := X113 (frOf 54 T7) anC x
theorem r113xeq (x : (a113).den) : (runC Try.prog E0 G113 Try.f113 l113 2 54 T7 a113 x).sureC 54 T7 = R113 x := by rw [x113]; unfold R113 X113; simp only [sureC_cond, Tree.sureC, sureC_cl, sureC_onExit, sureC_onRet, sureC_onPanL, sureC_onNext, sureC_onBrk, sureC_onRetO, sureC_onPan, sureC_onOk, sureC_onGPan]
theorem hw113 : GHolds Try.prog 113 (chainD true Try.f113.ntmps a113 54 T7 R113) := chainD_holds (E := E0) follows_ok g113 eqTy_sound keyTy_sound at113 bd113 (by kernel_rfl) (by kernel_rfl) (fun _ => ⟨by kernel_rfl, by decide⟩) (fun G' hlo hF hE => LsOK_kn (by rw [lo113]; exact .nil)) r113xeq
/-- isobar/cone.sped -/
noncomputable def c103 : Code := Try.f103.body.getD .skip
theorem at103 : Try.prog.funcs[103]? = some Try.f103 := by kernel_rfl
theorem bd103 : Try.f103.body = some c103 := by kernel_rfl
theorem cl103 : Callable Try.prog 103 := callable_of at103 (by kernel_rfl) (by kernel_rfl)
abbrev a103 : Ty := T43
abbrev r103 : Ty := T36
noncomputable def G103 : Ctx := Ctx.of [(113, .row true Try.f113.ntmps a113 54 T7 R113)]
theorem g103 : Sound Try.prog (G103) := sound_of (List.forall_mem_cons.2 ⟨⟨cl113, hw113⟩, fun _ h => by cases h⟩)
noncomputable def b103x0 : Code := loopBody ((loopsOf (c103))[0]?)
theorem lo103x0 : loopsOf (b103x0) = [] := by kernel_rfl
abbrev cs103x0 : List Pat := [.slot 2 (.ptr 2), .slot 4 (.ptr 4), .slot 12 (.pc (.sl T0)), .slot 13 (.pc tI), .box 4 [.pc tI, .own 1005001 54 T7, .own 1005002 56 T2, .own 1005003 70 T4, .pc tI, .pc tI, .pc tI, .pc tI, .pc tI]]
abbrev vs103x0 : List Pat := [.slot 14 (.pc tI), .box 2 [.pc tI, .rw 58 54 T7, .pc (.sl T2), .pc (.sl T4), .pc tI, .pc tI, .pc tI, .pc tI, .pc tI]]
abbrev ps103x0 : List Pat := [.slot 2 (.ptr 2), .slot 4 (.ptr 4), .slot 12 (.pc (.sl T0)), .slot 13 (.pc tI), .box 4 [.pc tI, .own 1005001 54 T7, .own 1005002 56 T2, .own 1005003 70 T4, .pc tI, .pc tI, .pc tI, .pc tI, .pc tI], .slot 14 (.pc tI), .box 2 [.pc tI, .rw 58 54 T7, .pc (.sl T2), .pc (.sl T4), .pc tI, .pc tI, .pc tI, .pc tI, .pc tI]]
def j103x0 : (patsTy cs103x0).den → (patsTy vs103x0).den → (patsTy ps103x0).den := fun c v => (c.1, (c.2.1, (c.2.2.1, (c.2.2.2.1, (c.2.2.2.2.1, v)))))
def sp103x0 : (patsTy ps103x0).den → (patsTy cs103x0).den × (patsTy vs103x0).den := fun x => ((x.1, (x.2.1, (x.2.2.1, (x.2.2.2.1, (x.2.2.2.2.1, ()))))), x.2.2.2.2.2)
abbrev wy103x0 : Ways := ⟨[(0, [.slot 2 (.ptr 2), .slot 4 (.ptr 4), .box 4 [.pc tI, .own 1005001 54 T7, .own 1005002 56 T2, .own 1005003 70 T4, .pc tI, .pc tI, .pc tI, .pc tI, .pc tI], .box 2 [.pc tI, .rw 58 54 T7, .pc (.sl T2), .pc (.sl T4), .pc tI, .pc tI, .pc tI, .pc tI, .pc tI]])], [], []⟩
abbrev wv103x0 : Ways := ⟨[(0, [.box 2 [.pc tI, .rw 58 54 T7, .pc (.sl T2), .pc (.sl T4), .pc tI, .pc tI, .pc tI, .pc tI, .pc tI]])], [], []⟩
def je103x0 : (id : Nat) → (patsTy cs103x0).den → (patsTy (wayP wv103x0 id)).den → (patsTy (wayP wy103x0 id)).den := fun id => match id with | 0 => fun c y => (c.1, (c.2.1, (c.2.2.2.2.1, y))) | id => fun _ _ => (patsTy (wayP wy103x0 id)).dflt
def jr103x0 : (patsTy cs103x0).den → (patsTy (wv103x0).ret).den → (patsTy (wy103x0).ret).den := fun c y => y
def jp103x0 : (patsTy cs103x0).den → (patsTy (wv103x0).pan).den → (patsTy (wy103x0).pan).den := fun c y => y
def Z103x0 {α : Type} (l : RQ vs103x0 wv103x0 → α) (an : α → α → α) (c : (patsTy cs103x0).den) (v : (patsTy vs103x0).den) : α := bif (decide (v.1 < c.2.2.2.1)) then bif (decide (((0 : Int) ≤ v.1) ∧ (v.1 < ((c.2.2.1.n : Nat) : Int)))) then bif (decide (((0 : Int) ≤ (c.2.2.1.g (Int.toNat v.1)).1) ∧ ((c.2.2.1.g (Int.toNat v.1)).1 < ((v.2.1.2.1.n : Nat) : Int)))) then l (.next ((W (v.1 + (1 : Int))), ((v.2.1.1, ((setSl v.2.1.2.1 (Int.toNat (c.2.2.1.g (Int.toNat v.1)).1) ((v.2.1.2.1.g (Int.toNat (c.2.2.1.g (Int.toNat v.1)).1)).1, ((v.2.1.2.1.g (Int.toNat (c.2.2.1.g (Int.toNat v.1)).1)).2.1, ((v.2.1.2.1.g (Int.toNat (c.2.2.1.g (Int.toNat v.1)).1)).2.2.1, ((mn (v.2.1.2.1.g (Int.toNat (c.2.2.1.g (Int.toNat v.1)).1)).2.2.2.1 (v.2.1.2.1.g (Int.toNat (c.2.2.1.g (Int.toNat v.1)).1)).2.2.2.2.2.1), ((mn (v.2.1.2.1.g (Int.toNat (c.2.2.1.g (Int.toNat v.1)).1)).2.2.2.2.1 (v.2.1.2.1.g (Int.toNat (c.2.2.1.g (Int.toNat v.1)).1)).2.2.2.2.2.1), (v.2.1.2.1.g (Int.toNat (c.2.2.1.g (Int.toNat v.1)).1)).2.2.2.2.2)))))), v.2.1.2.2)), ()))) else l .bad else l .bad else l (.out (.exit 0 (v.2.1, ())))
theorem z103x0 (c : (patsTy cs103x0).den) (v : (patsTy vs103x0).den) : roundQ Try.prog E0 G103 0 48 [] ps103x0 wy103x0 b103x0 [] (j103x0 c v) = Z103x0 (fun r => .leaf (r.lift j103x0 je103x0 jr103x0 jp103x0 c)) .any c v := by kernel_rfl
def S103x0 (c : (patsTy cs103x0).den) (v : (patsTy vs103x0).den) : RQ vs103x0 wv103x0 := Z103x0 (fun r => r) (fun _ _ => .bad) c v
theorem s103x0 (c : (patsTy cs103x0).den) (v : (patsTy vs103x0).den) : detQ (roundQ Try.prog E0 G103 0 48 [] ps103x0 wy103x0 b103x0 [] (j103x0 c v)) = (S103x0 c v).lift j103x0 je103x0 jr103x0 jp103x0 c := by rw [z103x0]; unfold S103x0 Z103x0; simp only [detQ_cond, lift_cond, lift_bad, detQ, detQ_cl, detQ_onExit, detQ_onRet, detQ_onPanL, detQ_onNext, detQ_onBrk, detQ_onRetO, detQ_onPan, detQ_onOk, detQ_onGPan, lift_cl, lift_onExit, lift_onRet, lift_onPanL, lift_onNext, lift_onBrk, lift_onRetO, lift_onPan, lift_onOk, lift_onGPan]
def L103x0 (c : (patsTy cs103x0).den) (v : (patsTy vs103x0).den) : LQ wv103x0 := iterQ (S103x0 c) big v
theorem lo103 : loopsOf (c103) = [.loop b103x0] := by kernel_rfl
noncomputable def l103 : List Loop := [.known (loopZ 0 [] ps103x0 fun x => spreadV wy103x0 je103x0 jr103x0 jp103x0 [] false (sp103x0 x).1 (L103x0 (sp103x0 x).1 (sp103x0 x).2) wy103x0.exits)]
def Q103 {α : Type} (l : Option (r103).den → α) (an : α → α → α) (x : (a103).den) : α := cl (⟨0, fun _ => Ty.dflt T7⟩ : Sl (Ty.den T7)) (R113 (x.1.2.1, ())) (fun u0 => onExit (L103x0 ((), ((), (x.2.1, (((x.2.1.n : Nat) : Int), (((0 : Int), ((⟨0, fun i => ((0 : Int), ((0 : Int), ((0 : Int), ((0 : Int), ((0 : Int), ((0 : Int), ((0 : Int), ())))))))⟩ : Sl _), ((⟨0, fun i => ((0 : Int), ((0 : Int), ((0 : Int), ())))⟩ : Sl _), ((⟨0, fun i => ((0 : Int), ((0 : Int), ((0 : Int), ((0 : Int), ()))))⟩ : Sl _), ((0 : Int), ((0 : Int), ((0 : Int), ((0 : Int), ((0 : Int), ()))))))))), ()))))) ((0 : Int), ((x.1.1, (u0, x.1.2.2)), ()))) 0 (fun u1 => l (some (u1.1, ()))) (l none)) (l none)
theorem q103 (x : (a103).den) : runFn Try.prog E0 G103 Try.f103 l103 a103 r103 x = Q103 .leaf .any x := by kernel_rfl
def M103 (x : (a103).den) : Option (r103).den := Q103 (fun r => r) (fun _ _ => none) x
theorem m103 (x : (a103).den) : (runFn Try.prog E0 G103 Try.f103 l103 a103 r103 x).sure = M103 x := by rw [q103]; unfold M103 Q103; simp only [sure_cond, Tree.sure, sure_cl, sure_onExit, sure_onRet, sure_onPanL, sure_onNext, sure_onBrk, sure_onRetO, sure_onPan, sure_onOk, sure_onGPan]
def p103 (x : (a103).den) : Bool := (M103 x).isSome
def v103 (x : (a103).den) : (r103).den := (M103 x).getD (r103).dflt
def k103 : Con := ⟨a103, r103, p103, v103⟩
theorem h103 : Holds Try.prog 103 k103 := holds_of_M' (E := E0) follows_ok g103 eqTy_sound keyTy_sound at103 bd103 (by kernel_rfl) m103 fun G' hlo hF hE => LsOK_kn (by rw [lo103]; exact .cons (loopV_ok hE hF hlo (LsOK_kn (by rw [lo103x0]; exact .nil)) (by kernel_rfl) (by kernel_rfl) sp103x0 (fun _ => rfl) (fun _ _ => rfl) (s103x0) big) (.nil))
/-- (isobar/cone.watch).suffice -/
noncomputable def c73 : Code := Try.f73.body.getD .skip
theorem at73 : Try.prog.funcs[73]? = some Try.f73 := by kernel_rfl
theorem bd73 : Try.f73.body = some c73 := by kernel_rfl
theorem cl73 : Callable Try.prog 73 := callable_of at73 (by kernel_rfl) (by kernel_rfl)
abbrev a73 : Ty := T82
abbrev r73 : Ty := T3
noncomputable def G73 : Ctx := Ctx.of [(58, .pure k58), (62, .pure k62), (103, .pure k103)]
theorem g73 : Sound Try.prog (G73) := sound_of (List.forall_mem_cons.2 ⟨⟨cl58, h58⟩, List.forall_mem_cons.2 ⟨⟨cl62, h62⟩, List.forall_mem_cons.2 ⟨⟨cl103, h103⟩, fun _ h => by cases h⟩⟩⟩)
theorem lo73 : loopsOf (c73) = [] := by kernel_rfl
noncomputable def l73 : List Loop := []
def Q73 {α : Type} (l : Option (r73).den → α) (an : α → α → α) (x : (a73).den) : α := cl (r103).dflt (M103 ((x.1.1, (x.1.2.1, (x.1.2.2.1, (x.1.2.2.2.1, (x.1.2.2.2.2.1, (x.1.2.2.2.2.2.1, (x.1.2.2.2.2.2.2.1, (x.1.2.2.2.2.2.2.2.1, (x.1.2.2.2.2.2.2.2.2.1, ()))))))))), (x.2.1, ()))) (fun u0 => cl (r62).dflt (M62 ((u0.1.1, (u0.1.2.1, (u0.1.2.2.1, (u0.1.2.2.2.1, (u0.1.2.2.2.2.1, (u0.1.2.2.2.2.2.1, (u0.1.2.2.2.2.2.2.1, (u0.1.2.2.2.2.2.2.2.1, (u0.1.2.2.2.2.2.2.2.2.1, x.1.2.2.2.2.2.2.2.2.2))))))))), ())) (fun u1 => cl (r58).dflt (M58 ((u0.1.1, (u0.1.2.1, (u0.1.2.2.1, (u0.1.2.2.2.1, (u0.1.2.2.2.2.1, (u0.1.2.2.2.2.2.1, (u0.1.2.2.2.2.2.2.1, (u0.1.2.2.2.2.2.2.2.1, (u0.1.2.2.2.2.2.2.2.2.1, x.1.2.2.2.2.2.2.2.2.2))))))))), u1.1.2)) (fun u2 => bif u2.2.1 then l (some ((decide (u2.1 ≤ x.2.2.1)), ())) else l (some (false, ()))) (l none)) (l none)) (l none)
theorem q73 (x : (a73).den) : runFn Try.prog E0 G73 Try.f73 l73 a73 r73 x = Q73 .leaf .any x := by kernel_rfl
def M73 (x : (a73).den) : Option (r73).den := Q73 (fun r => r) (fun _ _ => none) x
theorem m73 (x : (a73).den) : (runFn Try.prog E0 G73 Try.f73 l73 a73 r73 x).sure = M73 x := by rw [q73]; unfold M73 Q73; simp only [sure_cond, Tree.sure, sure_cl, sure_onExit, sure_onRet, sure_onPanL, sure_onNext, sure_onBrk, sure_onRetO, sure_onPan, sure_onOk, sure_onGPan]
def p73 (x : (a73).den) : Bool := (M73 x).isSome
def v73 (x : (a73).den) : (r73).den := (M73 x).getD (r73).dflt
def k73 : Con := ⟨a73, r73, p73, v73⟩
theorem h73 : Holds Try.prog 73 k73 := holds_of_M' (E := E0) follows_ok g73 eqTy_sound keyTy_sound at73 bd73 (by kernel_rfl) m73 fun G' hlo hF hE => LsOK_kn (by rw [lo73]; exact .nil)
/-- isobar/cone.Speed$2 -/
noncomputable def c81 : Code := Try.f81.body.getD .skip
theorem at81 : Try.prog.funcs[81]? = some Try.f81 := by kernel_rfl
theorem bd81 : Try.f81.body = some c81 := by kernel_rfl
theorem cl81 : Callable Try.prog 81 := callable_of at81 (by kernel_rfl) (by kernel_rfl)
abbrev T101 : Ty := (.sl T81)
abbrev T102 : Ty := (.cons T101 .nil)
abbrev T103 : Ty := (.ptr T102)
abbrev T104 : Ty := (.cons T103 T86)
abbrev T105 : Ty := (.cons T83 T104)
abbrev T106 : Ty := (.cons tI T105)
abbrev a81 : Ty := T106
abbrev r81 : Ty := T3
noncomputable def G81 : Ctx := Ctx.of [(73, .pure k73)]
theorem g81 : Sound Try.prog (G81) := sound_of (List.forall_mem_cons.2 ⟨⟨cl73, h73⟩, fun _ h => by cases h⟩)
theorem lo81 : loopsOf (c81) = [] := by kernel_rfl
noncomputable def l81 : List Loop := []
def Q81 {α : Type} (l : Option (r81).den → α) (an : α → α → α) (x : (a81).den) : α := bif (decide (((0 : Int) ≤ x.1) ∧ (x.1 < ((x.2.2.1.1.n : Nat) : Int)))) then cl (r73).dflt (M73 (x.2.1, ((x.2.2.1.1.g (Int.toNat x.1)).1, x.2.2.2.1))) (fun u0 => l (some u0)) (l none) else l none
theorem q81 (x : (a81).den) : runFn Try.prog E0 G81 Try.f81 l81 a81 r81 x = Q81 .leaf .any x := by kernel_rfl
def M81 (x : (a81).den) : Option (r81).den := Q81 (fun r => r) (fun _ _ => none) x
theorem m81 (x : (a81).den) : (runFn Try.prog E0 G81 Try.f81 l81 a81 r81 x).sure = M81 x := by rw [q81]; unfold M81 Q81; simp only [sure_cond, Tree.sure, sure_cl, sure_onExit, sure_onRet, sure_onPanL, sure_onNext, sure_onBrk, sure_onRetO, sure_onPan, sure_onOk, sure_onGPan]
def p81 (x : (a81).den) : Bool := (M81 x).isSome
def v81 (x : (a81).den) : (r81).den := (M81 x).getD (r81).dflt
def k81 : Con := ⟨a81, r81, p81, v81⟩
theorem h81 : Holds Try.prog 81 k81 := holds_of_M' (E := E0) follows_ok g81 eqTy_sound keyTy_sound at81 bd81 (by kernel_rfl) m81 fun G' hlo hF hE => LsOK_kn (by rw [lo81]; exact .nil)
/-- isobar/isobarref05.Same -/
noncomputable def c49 : Code := Try.f49.body.getD .skip
theorem at49 : Try.prog.funcs[49]? = some Try.f49 := by kernel_rfl
theorem bd49 : Try.f49.body = some c49 := by kernel_rfl
theorem cl49 : Callable Try.prog 49 := callable_of at49 (by kernel_rfl) (by kernel_rfl)
abbrev a49 : Ty := T70
abbrev r49 : Ty := T3
noncomputable def G49 : Ctx := Ctx.of []
theorem g49 : Sound Try.prog (G49) := sound_of (fun _ h => by cases h)
noncomputable def b49x0 : Code := loopBody ((loopsOf (c49))[0]?)
theorem lo49x0 : loopsOf (b49x0) = [] := by kernel_rfl
abbrev cs49x0 : List Pat := [.slot 0 (.pc (.sl T0)), .slot 1 (.pc (.sl T0))]
abbrev vs49x0 : List Pat := [.slot 5 (.pc tI)]
abbrev ps49x0 : List Pat := [.slot 0 (.pc (.sl T0)), .slot 1 (.pc (.sl T0)), .slot 5 (.pc tI)]
def j49x0 : (patsTy cs49x0).den → (patsTy vs49x0).den → (patsTy ps49x0).den := fun c v => (c.1, (c.2.1, v))
def sp49x0 : (patsTy ps49x0).den → (patsTy cs49x0).den × (patsTy vs49x0).den := fun x => ((x.1, (x.2.1, ())), x.2.2)
abbrev wy49x0 : Ways := ⟨[(0, [])], [.slot 4 (.pc .bool)], []⟩
abbrev wv49x0 : Ways := ⟨[(0, [])], [.slot 4 (.pc .bool)], []⟩
def je49x0 : (id : Nat) → (patsTy cs49x0).den → (patsTy (wayP wv49x0 id)).den → (patsTy (wayP wy49x0 id)).den := fun id => match id with | 0 => fun c y => y | id => fun _ _ => (patsTy (wayP wy49x0 id)).dflt
def jr49x0 : (patsTy cs49x0).den → (patsTy (wv49x0).ret).den → (patsTy (wy49x0).ret).den := fun c y => y
def jp49x0 : (patsTy cs49x0).den → (patsTy (wv49x0).pan).den → (patsTy (wy49x0).pan).den := fun c y => y
def Z49x0 {α : Type} (l : RQ vs49x0 wv49x0 → α) (an : α → α → α) (c : (patsTy cs49x0).den) (v : (patsTy vs49x0).den) : α := bif (decide (v.1 < ((c.1.n : Nat) : Int))) then bif (decide (((0 : Int) ≤ v.1) ∧ (v.1 < ((c.1.n : Nat) : Int)))) then bif (decide (((0 : Int) ≤ v.1) ∧ (v.1 < ((c.2.1.n : Nat) : Int)))) then bif (!(decide ((c.1.g (Int.toNat v.1)).1 = (c.2.1.g (Int.toNat v.1)).1))) then l (.out (.ret (false, ()))) else l (.next ((W (v.1 + (1 : Int))), ())) else l .bad else l .bad else l (.out (.exit 0 ()))
theorem z49x0 (c : (patsTy cs49x0).den) (v : (patsTy vs49x0).den) : roundQ Try.prog E0 G49 0 26 [] ps49x0 wy49x0 b49x0 [] (j49x0 c v) = Z49x0 (fun r => .leaf (r.lift j49x0 je49x0 jr49x0 jp49x0 c)) .any c v := by kernel_rfl
def S49x0 (c : (patsTy cs49x0).den) (v : (patsTy vs49x0).den) : RQ vs49x0 wv49x0 := Z49x0 (fun r => r) (fun _ _ => .bad) c v
theorem s49x0 (c : (patsTy cs49x0).den) (v : (patsTy vs49x0).den) : detQ (roundQ Try.prog E0 G49 0 26 [] ps49x0 wy49x0 b49x0 [] (j49x0 c v)) = (S49x0 c v).lift j49x0 je49x0 jr49x0 jp49x0 c := by rw [z49x0]; unfold S49x0 Z49x0; simp only [detQ_cond, lift_cond, lift_bad, detQ, detQ_cl, detQ_onExit, detQ_onRet, detQ_onPanL, detQ_onNext, detQ_onBrk, detQ_onRetO, detQ_onPan, detQ_onOk, detQ_onGPan, lift_cl, lift_onExit, lift_onRet, lift_onPanL, lift_onNext, lift_onBrk, lift_onRetO, lift_onPan, lift_onOk, lift_onGPan]
def L49x0 (c : (patsTy cs49x0).den) (v : (patsTy vs49x0).den) : LQ wv49x0 := iterQ (S49x0 c) big v
theorem lo49 : loopsOf (c49) = [.loop b49x0] := by kernel_rfl
noncomputable def l49 : List Loop := [.known (loopZ 0 [] ps49x0 fun x => spreadV wy49x0 je49x0 jr49x0 jp49x0 [] true (sp49x0 x).1 (L49x0 (sp49x0 x).1 (sp49x0 x).2) wy49x0.exits)]
def Q49 {α : Type} (l : Option (r49).den → α) (an : α → α → α) (x : (a49).den) : α := bif (!(decide (((x.1.n : Nat) : Int) = ((x.2.1.n : Nat) : Int)))) then l (some (false, ())) else onExit (L49x0 x ((0 : Int), ())) 0 (fun u0 => l (some (true, ()))) (onRet (L49x0 x ((0 : Int), ())) (fun u1 => l (some u1)) (l none))
theorem q49 (x : (a49).den) : runFn Try.prog E0 G49 Try.f49 l49 a49 r49 x = Q49 .leaf .any x := by kernel_rfl
def M49 (x : (a49).den) : Option (r49).den := Q49 (fun r => r) (fun _ _ => none) x
theorem m49 (x : (a49).den) : (runFn Try.prog E0 G49 Try.f49 l49 a49 r49 x).sure = M49 x := by rw [q49]; unfold M49 Q49; simp only [sure_cond, Tree.sure, sure_cl, sure_onExit, sure_onRet, sure_onPanL, sure_onNext, sure_onBrk, sure_onRetO, sure_onPan, sure_onOk, sure_onGPan]
def p49 (x : (a49).den) : Bool := (M49 x).isSome
def v49 (x : (a49).den) : (r49).den := (M49 x).getD (r49).dflt
def k49 : Con := ⟨a49, r49, p49, v49⟩
theorem h49 : Holds Try.prog 49 k49 := holds_of_M' (E := E0) follows_ok g49 eqTy_sound keyTy_sound at49 bd49 (by kernel_rfl) m49 fun G' hlo hF hE => LsOK_kn (by rw [lo49]; exact .cons (loopV_ok hE hF hlo (LsOK_kn (by rw [lo49x0]; exact .nil)) (by kernel_rfl) (by kernel_rfl) sp49x0 (fun _ => rfl) (fun _ _ => rfl) (s49x0) big) (.nil))
/-- isobar/isobarlaw05.span -/
noncomputable def c54 : Code := Try.f54.body.getD .skip
theorem at54 : Try.prog.funcs[54]? = some Try.f54 := by kernel_rfl
theorem bd54 : Try.f54.body = some c54 := by kernel_rfl
theorem cl54 : Callable Try.prog 54 := callable_of at54 (by kernel_rfl) (by kernel_rfl)
abbrev a54 : Ty := T1
abbrev r54 : Ty := T63
noncomputable def G54 : Ctx := Ctx.of []
theorem g54 : Sound Try.prog (G54) := sound_of (fun _ h => by cases h)
theorem lo54 : loopsOf (c54) = [] := by kernel_rfl
noncomputable def l54 : List Loop := []
def Q54 {α : Type} (l : Option (r54).den → α) (an : α → α → α) (x : (a54).den) : α := l (some (x, ()))
theorem q54 (x : (a54).den) : runFn Try.prog E0 G54 Try.f54 l54 a54 r54 x = Q54 .leaf .any x := by kernel_rfl
def M54 (x : (a54).den) : Option (r54).den := Q54 (fun r => r) (fun _ _ => none) x
theorem m54 (x : (a54).den) : (runFn Try.prog E0 G54 Try.f54 l54 a54 r54 x).sure = M54 x := by rw [q54]; unfold M54 Q54; simp only [sure_cond, Tree.sure, sure_cl, sure_onExit, sure_onRet, sure_onPanL, sure_onNext, sure_onBrk, sure_onRetO, sure_onPan, sure_onOk, sure_onGPan]
def p54 (x : (a54).den) : Bool := (M54 x).isSome
def v54 (x : (a54).den) : (r54).den := (M54 x).getD (r54).dflt
def k54 : Con := ⟨a54, r54, p54, v54⟩
theorem h54 : Holds Try.prog 54 k54 := holds_of_M' (E := E0) follows_ok g54 eqTy_sound keyTy_sound at54 bd54 (by kernel_rfl) m54 fun G' hlo hF hE => LsOK_kn (by rw [lo54]; exact .nil)
/-- isobar/isobarlaw05.W -/
noncomputable def c53 : Code := Try.f53.body.getD .skip
theorem at53 : Try.prog.funcs[53]? = some Try.f53 := by kernel_rfl
theorem bd53 : Try.f53.body = some c53 := by kernel_rfl
theorem cl53 : Callable Try.prog 53 := callable_of at53 (by kernel_rfl) (by kernel_rfl)
abbrev a53 : Ty := .nil
abbrev r53 : Ty := T36
noncomputable def G53 : Ctx := Ctx.of [(54, .pure k54)]
theorem g53 : Sound Try.prog (G53) := sound_of (List.forall_mem_cons.2 ⟨⟨cl54, h54⟩, fun _ h => by cases h⟩)
theorem lo53 : loopsOf (c53) = [] := by kernel_rfl
noncomputable def l53 : List Loop := []
def Q53 {α : Type} (l : Option (r53).den → α) (an : α → α → α) (x : (a53).den) : α := cl (r54).dflt (M54 ((15 : Int), ((45 : Int), ()))) (fun u0 => cl (r54).dflt (M54 ((20 : Int), ((60 : Int), ()))) (fun u1 => cl (r54).dflt (M54 ((30 : Int), ((90 : Int), ()))) (fun u2 => cl (r54).dflt (M54 ((40 : Int), ((200 : Int), ()))) (fun u3 => cl (r54).dflt (M54 ((10 : Int), ((50 : Int), ()))) (fun u4 => l (some (((2 : Int), ((⟨4, fun i => List.getD [((0 : Int), ((480 : Int), ((75500 : Int), (u1.1.1, (u1.1.2.1, ((10 : Int), ((5 : Int), ()))))))), ((0 : Int), ((780 : Int), ((75250 : Int), (u2.1.1, (u2.1.2.1, ((15 : Int), ((6 : Int), ()))))))), ((1 : Int), ((760 : Int), ((74980 : Int), (u3.1.1, (u3.1.2.1, ((20 : Int), ((9 : Int), ()))))))), ((0 : Int), ((840 : Int), ((75150 : Int), (u4.1.1, (u4.1.2.1, ((10 : Int), ((4 : Int), ())))))))] i ((0 : Int), ((480 : Int), ((75500 : Int), (u1.1.1, (u1.1.2.1, ((10 : Int), ((5 : Int), ())))))))⟩ : Sl _), ((⟨1, fun i => List.getD [((0 : Int), ((1 : Int), ((500 : Int), ())))] i ((0 : Int), ((1 : Int), ((500 : Int), ())))⟩ : Sl _), ((⟨1, fun i => List.getD [(u0.1.1, (u0.1.2.1, ((8000 : Int), ((3000 : Int), ()))))] i (u0.1.1, (u0.1.2.1, ((8000 : Int), ((3000 : Int), ()))))⟩ : Sl _), ((300 : Int), ((360 : Int), ((600 : Int), ((360 : Int), ((1080 : Int), ()))))))))), ()))) (l none)) (l none)) (l none)) (l none)) (l none)
theorem q53 (x : (a53).den) : runFn Try.prog E0 G53 Try.f53 l53 a53 r53 x = Q53 .leaf .any x := by kernel_rfl
def M53 (x : (a53).den) : Option (r53).den := Q53 (fun r => r) (fun _ _ => none) x
theorem m53 (x : (a53).den) : (runFn Try.prog E0 G53 Try.f53 l53 a53 r53 x).sure = M53 x := by rw [q53]; unfold M53 Q53; simp only [sure_cond, Tree.sure, sure_cl, sure_onExit, sure_onRet, sure_onPanL, sure_onNext, sure_onBrk, sure_onRetO, sure_onPan, sure_onOk, sure_onGPan]
def p53 (x : (a53).den) : Bool := (M53 x).isSome
def v53 (x : (a53).den) : (r53).den := (M53 x).getD (r53).dflt
def k53 : Con := ⟨a53, r53, p53, v53⟩
theorem h53 : Holds Try.prog 53 k53 := holds_of_M' (E := E0) follows_ok g53 eqTy_sound keyTy_sound at53 bd53 (by kernel_rfl) m53 fun G' hlo hF hE => LsOK_kn (by rw [lo53]; exact .nil)
/-- slices.SortFunc[[]isobar/cone.choice,isobar/cone.choice] -/
noncomputable def c75 : Code := Try.f75.body.getD .skip
theorem at75 : Try.prog.funcs[75]? = some Try.f75 := by kernel_rfl
theorem bd75 : Try.f75.body = some c75 := by kernel_rfl
theorem cl75 : Callable Try.prog 75 := callable_of at75 (by kernel_rfl) (by kernel_rfl)
def so_ren : Go.Shelf.Ren := ⟨fun x => match x with | 6 => 75 | 15 => 105 | 14 => 104 | 28 => 122 | 29 => 123 | 20 => 114 | 21 => 115 | 22 => 116 | 23 => 117 | 24 => 118 | 25 => 119 | 26 => 120 | 27 => 121 | 46 => 125 | 47 => 126 | 48 => 127 | 49 => 128 | 50 => 129 | 57 => 130 | n => n, fun x => match x with | 22 => 103 | 24 => 105 | 25 => 109 | 3 => 3 | 39 => 134 | 0 => 0 | 53 => 148 | 55 => 150 | 4 => 4 | 46 => 142 | 45 => 141 | 50 => 87 | 5 => 5 | 9 => 9 | 66 => 151 | 70 => 155 | 76 => 157 | 77 => 130 | n => n, fun n => n⟩
theorem so_lay : Go.Proofs.SlLaysF0.n6 Try.prog so_ren := { mixed := follows_ok, f6 := ⟨Try.f75.name, by kernel_rfl, by kernel_rfl⟩, f14 := ⟨Try.f104.name, by kernel_rfl, by kernel_rfl⟩, f15 := by kernel_rfl, f20 := ⟨Try.f114.name, by kernel_rfl, by kernel_rfl⟩, f21 := ⟨Try.f115.name, by kernel_rfl, by kernel_rfl⟩, f22 := ⟨Try.f116.name, by kernel_rfl, by kernel_rfl⟩, f23 := ⟨Try.f117.name, by kernel_rfl, by kernel_rfl⟩, f24 := ⟨Try.f118.name, by kernel_rfl, by kernel_rfl⟩, f25 := ⟨Try.f119.name, by kernel_rfl, by kernel_rfl⟩, f26 := ⟨Try.f120.name, by kernel_rfl, by kernel_rfl⟩, f27 := ⟨Try.f121.name, by kernel_rfl, by kernel_rfl⟩, f28 := by kernel_rfl, f29 := by kernel_rfl, f46 := ⟨Try.f125.name, by kernel_rfl, by kernel_rfl⟩, f47 := by kernel_rfl, f48 := by kernel_rfl, f49 := ⟨Try.f128.name, by kernel_rfl, by kernel_rfl⟩, f50 := ⟨Try.f129.name, by kernel_rfl, by kernel_rfl⟩, f57 := ⟨Try.f130.name, by kernel_rfl, by kernel_rfl⟩, t0 := Try.underlying0, a0 := Try.isAgg0, z0 := Try.sizeOf0, v0 := Try.zeroValue0, t3 := Try.underlying3, a3 := Try.isAgg3, z3 := Try.sizeOf3, v3 := Try.zeroValue3, t4 := Try.underlying4, a4 := Try.isAgg4, z4 := Try.sizeOf4, v4 := Try.zeroValue4, t5 := Try.underlying5, a5 := Try.isAgg5, z5 := Try.sizeOf5, v5 := Try.zeroValue5, t9 := Try.underlying9, a9 := Try.isAgg9, z9 := Try.sizeOf9, v9 := Try.zeroValue9, t22 := Try.underlying103, a22 := Try.isAgg103, z22 := Try.sizeOf103, v22 := Try.zeroValue103, t25 := Try.underlying109, a25 := Try.isAgg109, z25 := Try.sizeOf109, v25 := Try.zeroValue109, t39 := Try.underlying134, a39 := Try.isAgg134, z39 := Try.sizeOf134, v39 := Try.zeroValue134, t45 := Try.underlying141, a45 := Try.isAgg141, z45 := Try.sizeOf141, v45 := Try.zeroValue141, t46 := Try.underlying142, a46 := Try.isAgg142, z46 := Try.sizeOf142, v46 := Try.zeroValue142, t50 := Try.underlying87, a50 := Try.isAgg87, z50 := Try.sizeOf87, v50 := Try.zeroValue87, t53 := Try.underlying148, a53 := Try.isAgg148, z53 := Try.sizeOf148, v53 := Try.zeroValue148, t55 := Try.underlying150, a55 := Try.isAgg150, z55 := Try.sizeOf150, v55 := Try.zeroValue150, t66 := Try.underlying151, a66 := Try.isAgg151, z66 := Try.sizeOf151, v66 := Try.zeroValue151, t70 := Try.underlying155, a70 := Try.isAgg155, z70 := Try.sizeOf155, v70 := Try.zeroValue155, t76 := Try.underlying157, a76 := Try.isAgg157, z76 := Try.sizeOf157, v76 := Try.zeroValue157, t77 := Try.underlying130, a77 := Try.isAgg130, z77 := Try.sizeOf130, v77 := Try.zeroValue130 }
theorem sh75 : GHolds Try.prog 75 (sortD 76 (.cons tL tL1) p76 v76) := sortD_holds (ρr := so_ren) so_lay cl76 h76 (by kernel_rfl) (by kernel_rfl)
theorem gbad76 : GHolds Try.prog 76 (fun _ _ _ _ => .leaf .bad) := fun _ _ _ _ _ _ _ _ _ _ _ _ _ _ _ _ hall => absurd rfl (hall .bad rfl)


end Go.Dm

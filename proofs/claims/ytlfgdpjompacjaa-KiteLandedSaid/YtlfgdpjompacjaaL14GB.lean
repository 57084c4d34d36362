/-
  Each function of the program as a Lean function, and that its calls come to what that says.
-/
import Derived.Test.YtlfgdpjompacjaaL14GA
set_option linter.unusedVariables false
set_option linter.unusedSimpArgs false
namespace Go.Dm
open Go.RowKit Go.Proofs
set_option maxRecDepth 100000
/-- isobar/kite.one -/
noncomputable def c81 : Code := Try.f81.body.getD .skip
theorem at81 : Try.prog.funcs[81]? = some Try.f81 := by kernel_rfl
theorem bd81 : Try.f81.body = some c81 := by kernel_rfl
theorem cl81 : Callable Try.prog 81 := callable_of at81 (by kernel_rfl) (by kernel_rfl)
abbrev a81 : Ty := T0
abbrev r81 : Ty := T6
noncomputable def G81 : Ctx := Ctx.of []
theorem g81 : Sound Try.prog (G81) := sound_of (fun _ h => by cases h)
theorem lo81 : loopsOf (c81) = [] := by kernel_rfl
noncomputable def l81 : List Loop := []
def Q81 {α : Type} (l : Option (r81).den → α) (an : α → α → α) (x : (a81).den) : α := l (some ((x.1, x), ()))
theorem q81 (x : (a81).den) : runFn Try.prog E0 G81 Try.f81 l81 a81 r81 x = Q81 .leaf .any x := by kernel_rfl
def M81 (x : (a81).den) : Option (r81).den := Q81 (fun r => r) (fun _ _ => none) x
theorem m81 (x : (a81).den) : (runFn Try.prog E0 G81 Try.f81 l81 a81 r81 x).sure = M81 x := by rw [q81]; unfold M81 Q81; simp only [sure_cond, Tree.sure, sure_cl, sure_onExit, sure_onRet, sure_onPanL, sure_onNext, sure_onBrk, sure_onRetO, sure_onPan, sure_onOk, sure_onGPan]
def p81 (x : (a81).den) : Bool := (M81 x).isSome
def v81 (x : (a81).den) : (r81).den := (M81 x).getD (r81).dflt
def k81 : Con := ⟨a81, r81, p81, v81⟩
theorem h81 : Holds Try.prog 81 k81 := holds_of_M' (E := E0) follows_ok g81 eqTy_sound keyTy_sound at81 bd81 (by kernel_rfl) m81 fun G' hlo hF hE => LsOK_kn (by rw [lo81]; exact .nil)
/-- isobar/kite.possible -/
noncomputable def c76 : Code := Try.f76.body.getD .skip
theorem at76 : Try.prog.funcs[76]? = some Try.f76 := by kernel_rfl
theorem bd76 : Try.f76.body = some c76 := by kernel_rfl
theorem cl76 : Callable Try.prog 76 := callable_of at76 (by kernel_rfl) (by kernel_rfl)
abbrev T86 : Ty := (.cons T42 T0)
abbrev T87 : Ty := (.cons T71 T0)
abbrev a76 : Ty := T86
abbrev r76 : Ty := T87
noncomputable def G76 : Ctx := Ctx.of [(79, .pure k79), (80, .pure k80), (92, .pure k92), (102, .pure k102)]
theorem g76 : Sound Try.prog (G76) := sound_of (List.forall_mem_cons.2 ⟨⟨cl79, h79⟩, List.forall_mem_cons.2 ⟨⟨cl80, h80⟩, List.forall_mem_cons.2 ⟨⟨cl92, h92⟩, List.forall_mem_cons.2 ⟨⟨cl102, h102⟩, fun _ h => by cases h⟩⟩⟩⟩)
theorem lo76 : loopsOf (c76) = [] := by kernel_rfl
noncomputable def l76 : List Loop := []
def Q76 {α : Type} (l : Option (r76).den → α) (an : α → α → α) (x : (a76).den) : α := cl (r92).dflt (M92 (x.1, ())) (fun u0 => bif (!u0.1) then l (some (((0 : Int), ((0 : Int), ((0 : Int), ((⟨0, fun i => ((0 : Int), ())⟩ : Sl _), ((⟨0, fun i => ((0 : Int), ())⟩ : Sl _), ()))))), ((2 : Int), ()))) else cl (r102).dflt (M102 (x.2.1, ((0 : Int), ((W (((x.1.1.n : Nat) : Int) - (1 : Int))), ())))) (fun u1 => bif (!u1.1) then l (some (((0 : Int), ((0 : Int), ((0 : Int), ((⟨0, fun i => ((0 : Int), ())⟩ : Sl _), ((⟨0, fun i => ((0 : Int), ())⟩ : Sl _), ()))))), ((2 : Int), ()))) else cl (r80).dflt (M80 (x.1, ((0 : Int), ((0 : Int), ())))) (fun u2 => cl (r79).dflt (M79 (x.1, (u2.1, ((x.1.2.2.2.2.2.1, (x.1.2.2.2.2.2.2.1, ())), ())))) (fun u3 => bif (!u3.2.1) then l (some (((0 : Int), ((0 : Int), ((0 : Int), ((⟨0, fun i => ((0 : Int), ())⟩ : Sl _), ((⟨0, fun i => ((0 : Int), ())⟩ : Sl _), ()))))), ((7 : Int), ()))) else l (some (u3.1, ((0 : Int), ())))) (l none)) (l none)) (l none)) (l none)
theorem q76 (x : (a76).den) : runFn Try.prog E0 G76 Try.f76 l76 a76 r76 x = Q76 .leaf .any x := by kernel_rfl
def M76 (x : (a76).den) : Option (r76).den := Q76 (fun r => r) (fun _ _ => none) x
theorem m76 (x : (a76).den) : (runFn Try.prog E0 G76 Try.f76 l76 a76 r76 x).sure = M76 x := by rw [q76]; unfold M76 Q76; simp only [sure_cond, Tree.sure, sure_cl, sure_onExit, sure_onRet, sure_onPanL, sure_onNext, sure_onBrk, sure_onRetO, sure_onPan, sure_onOk, sure_onGPan]
def p76 (x : (a76).den) : Bool := (M76 x).isSome
def v76 (x : (a76).den) : (r76).den := (M76 x).getD (r76).dflt
def k76 : Con := ⟨a76, r76, p76, v76⟩
theorem h76 : Holds Try.prog 76 k76 := holds_of_M' (E := E0) follows_ok g76 eqTy_sound keyTy_sound at76 bd76 (by kernel_rfl) m76 fun G' hlo hF hE => LsOK_kn (by rw [lo76]; exact .nil)
/-- isobar/kite.First -/
noncomputable def c32 : Code := Try.f32.body.getD .skip
theorem at32 : Try.prog.funcs[32]? = some Try.f32 := by kernel_rfl
theorem bd32 : Try.f32.body = some c32 := by kernel_rfl
theorem cl32 : Callable Try.prog 32 := callable_of at32 (by kernel_rfl) (by kernel_rfl)
abbrev a32 : Ty := T43
abbrev r32 : Ty := T87
noncomputable def G32 : Ctx := Ctx.of [(76, .pure k76)]
theorem g32 : Sound Try.prog (G32) := sound_of (List.forall_mem_cons.2 ⟨⟨cl76, h76⟩, fun _ h => by cases h⟩)
theorem lo32 : loopsOf (c32) = [] := by kernel_rfl
noncomputable def l32 : List Loop := []
def Q32 {α : Type} (l : Option (r32).den → α) (an : α → α → α) (x : (a32).den) : α := cl (r76).dflt (M76 (x.1, ((0 : Int), ()))) (fun u0 => l (some (u0.1, u0.2))) (l none)
theorem q32 (x : (a32).den) : runFn Try.prog E0 G32 Try.f32 l32 a32 r32 x = Q32 .leaf .any x := by kernel_rfl
def M32 (x : (a32).den) : Option (r32).den := Q32 (fun r => r) (fun _ _ => none) x
theorem m32 (x : (a32).den) : (runFn Try.prog E0 G32 Try.f32 l32 a32 r32 x).sure = M32 x := by rw [q32]; unfold M32 Q32; simp only [sure_cond, Tree.sure, sure_cl, sure_onExit, sure_onRet, sure_onPanL, sure_onNext, sure_onBrk, sure_onRetO, sure_onPan, sure_onOk, sure_onGPan]
def p32 (x : (a32).den) : Bool := (M32 x).isSome
def v32 (x : (a32).den) : (r32).den := (M32 x).getD (r32).dflt
def k32 : Con := ⟨a32, r32, p32, v32⟩
theorem h32 : Holds Try.prog 32 k32 := holds_of_M' (E := E0) follows_ok g32 eqTy_sound keyTy_sound at32 bd32 (by kernel_rfl) m32 fun G' hlo hF hE => LsOK_kn (by rw [lo32]; exact .nil)
/-- isobar/kite.blows$1 -/
noncomputable def c110 : Code := Try.f110.body.getD .skip
theorem at110 : Try.prog.funcs[110]? = some Try.f110 := by kernel_rfl
theorem bd110 : Try.f110.body = some c110 := by kernel_rfl
theorem cl110 : Callable Try.prog 110 := callable_of at110 (by kernel_rfl) (by kernel_rfl)
abbrev T88 : Ty := (.ptr T0)
abbrev T89 : Ty := (.cons T88 .nil)
abbrev T90 : Ty := (.cons T88 T89)
abbrev T91 : Ty := (.cons T54 T90)
abbrev T92 : Ty := (.cons tI T91)
abbrev a110 : Ty := T92
abbrev r110 : Ty := T3
noncomputable def G110 : Ctx := Ctx.of [(79, .pure k79), (81, .pure k81)]
theorem g110 : Sound Try.prog (G110) := sound_of (List.forall_mem_cons.2 ⟨⟨cl79, h79⟩, List.forall_mem_cons.2 ⟨⟨cl81, h81⟩, fun _ h => by cases h⟩⟩)
theorem lo110 : loopsOf (c110) = [] := by kernel_rfl
noncomputable def l110 : List Loop := []
def Q110 {α : Type} (l : Option (r110).den → α) (an : α → α → α) (x : (a110).den) : α := cl (r81).dflt (M81 (x.1, ())) (fun u0 => cl (r79).dflt (M79 (x.2.1, ((x.2.2.1.1, (x.2.2.2.1.1, u0.1)), ((x.2.1.2.2.2.2.2.1, (x.2.1.2.2.2.2.2.2.1, ())), ())))) (fun u1 => l (some u1.2)) (l none)) (l none)
theorem q110 (x : (a110).den) : runFn Try.prog E0 G110 Try.f110 l110 a110 r110 x = Q110 .leaf .any x := by kernel_rfl
def M110 (x : (a110).den) : Option (r110).den := Q110 (fun r => r) (fun _ _ => none) x
theorem m110 (x : (a110).den) : (runFn Try.prog E0 G110 Try.f110 l110 a110 r110 x).sure = M110 x := by rw [q110]; unfold M110 Q110; simp only [sure_cond, Tree.sure, sure_cl, sure_onExit, sure_onRet, sure_onPanL, sure_onNext, sure_onBrk, sure_onRetO, sure_onPan, sure_onOk, sure_onGPan]
def p110 (x : (a110).den) : Bool := (M110 x).isSome
def v110 (x : (a110).den) : (r110).den := (M110 x).getD (r110).dflt
def k110 : Con := ⟨a110, r110, p110, v110⟩
theorem h110 : Holds Try.prog 110 k110 := holds_of_M' (E := E0) follows_ok g110 eqTy_sound keyTy_sound at110 bd110 (by kernel_rfl) m110 fun G' hlo hF hE => LsOK_kn (by rw [lo110]; exact .nil)
/-- isobar/kite.blows -/
noncomputable def c82 : Code := Try.f82.body.getD .skip
theorem at82 : Try.prog.funcs[82]? = some Try.f82 := by kernel_rfl
theorem bd82 : Try.f82.body = some c82 := by kernel_rfl
theorem cl82 : Callable Try.prog 82 := callable_of at82 (by kernel_rfl) (by kernel_rfl)
abbrev T93 : Ty := (.fn T0 T3)
abbrev T94 : Ty := (.cons T93 .nil)
abbrev a82 : Ty := T84
abbrev r82 : Ty := T94
noncomputable def G82 : Ctx := Ctx.of [(110, .pure k110)]
theorem g82 : Sound Try.prog (G82) := sound_of (List.forall_mem_cons.2 ⟨⟨cl110, h110⟩, fun _ h => by cases h⟩)
theorem lo82 : loopsOf (c82) = [] := by kernel_rfl
noncomputable def l82 : List Loop := []
def Q82 {α : Type} (l : Option (r82).den → α) (an : α → α → α) (x : (a82).den) : α := l (some ((fun y1 => ((p110 (y1.1, (x.1, ((x.2.1, ()), (x.2.2, ()))))), (v110 (y1.1, (x.1, ((x.2.1, ()), (x.2.2, ()))))))), ()))
theorem q82 (x : (a82).den) : runFn Try.prog E0 G82 Try.f82 l82 a82 r82 x = Q82 .leaf .any x := by kernel_rfl
def M82 (x : (a82).den) : Option (r82).den := Q82 (fun r => r) (fun _ _ => none) x
theorem m82 (x : (a82).den) : (runFn Try.prog E0 G82 Try.f82 l82 a82 r82 x).sure = M82 x := by rw [q82]; unfold M82 Q82; simp only [sure_cond, Tree.sure, sure_cl, sure_onExit, sure_onRet, sure_onPanL, sure_onNext, sure_onBrk, sure_onRetO, sure_onPan, sure_onOk, sure_onGPan]
def p82 (x : (a82).den) : Bool := (M82 x).isSome
def v82 (x : (a82).den) : (r82).den := (M82 x).getD (r82).dflt
def k82 : Con := ⟨a82, r82, p82, v82⟩
theorem h82 : Holds Try.prog 82 k82 := holds_of_M' (E := E0) follows_ok g82 eqTy_sound keyTy_sound at82 bd82 (by kernel_rfl) m82 fun G' hlo hF hE => LsOK_kn (by rw [lo82]; exact .nil)
/-- isobar/kite.end -/
noncomputable def c87 : Code := Try.f87.body.getD .skip
theorem at87 : Try.prog.funcs[87]? = some Try.f87 := by kernel_rfl
theorem bd87 : Try.f87.body = some c87 := by kernel_rfl
theorem cl87 : Callable Try.prog 87 := callable_of at87 (by kernel_rfl) (by kernel_rfl)
abbrev T95 : Ty := (.cons .bool T94)
abbrev T96 : Ty := (.cons T4 T95)
abbrev T97 : Ty := (.cons tI T3)
abbrev a87 : Ty := T96
abbrev r87 : Ty := T97
noncomputable def G87 : Ctx := Ctx.of []
theorem g87 : Sound Try.prog (G87) := sound_of (fun _ h => by cases h)
noncomputable def b87x0 : Code := loopBody ((loopsOf (c87))[0]?)
theorem lo87x0 : loopsOf (b87x0) = [] := by kernel_rfl
abbrev cs87x0 : List Pat := [.slot 1 (.pc .bool), .slot 2 (.pc T93), .slot 3 (.ptr 3), .slot 15 (.pc tI), .box 3 [.pc tI, .pc tI]]
abbrev vs87x0 : List Pat := [.slot 16 (.pc tI)]
abbrev ps87x0 : List Pat := [.slot 1 (.pc .bool), .slot 2 (.pc T93), .slot 3 (.ptr 3), .slot 15 (.pc tI), .box 3 [.pc tI, .pc tI], .slot 16 (.pc tI)]
def j87x0 : (patsTy cs87x0).den → (patsTy vs87x0).den → (patsTy ps87x0).den := fun c v => (c.1, (c.2.1, (c.2.2.1, (c.2.2.2.1, (c.2.2.2.2.1, v)))))
def sp87x0 : (patsTy ps87x0).den → (patsTy cs87x0).den × (patsTy vs87x0).den := fun x => ((x.1, (x.2.1, (x.2.2.1, (x.2.2.2.1, (x.2.2.2.2.1, ()))))), x.2.2.2.2.2)
abbrev wy87x0 : Ways := ⟨[(0, [])], [.slot 6 (.pc tI), .slot 7 (.pc .bool)], []⟩
abbrev wv87x0 : Ways := ⟨[(0, [])], [.slot 6 (.pc tI), .slot 7 (.pc .bool)], []⟩
def je87x0 : (id : Nat) → (patsTy cs87x0).den → (patsTy (wayP wv87x0 id)).den → (patsTy (wayP wy87x0 id)).den := fun id => match id with | 0 => fun c y => y | id => fun _ _ => (patsTy (wayP wy87x0 id)).dflt
def jr87x0 : (patsTy cs87x0).den → (patsTy (wv87x0).ret).den → (patsTy (wy87x0).ret).den := fun c y => y
def jp87x0 : (patsTy cs87x0).den → (patsTy (wv87x0).pan).den → (patsTy (wy87x0).pan).den := fun c y => y
def Z87x0 {α : Type} (l : RQ vs87x0 wv87x0 → α) (an : α → α → α) (c : (patsTy cs87x0).den) (v : (patsTy vs87x0).den) : α := bif (decide (v.1 < c.2.2.2.1)) then bif c.1 then bif (c.2.1 ((W (c.2.2.2.2.1.2.1 - v.1)), ())).1 then bif (c.2.1 ((W (c.2.2.2.2.1.2.1 - v.1)), ())).2.1 then l (.out (.ret ((W (c.2.2.2.2.1.2.1 - v.1)), (true, ())))) else l (.next ((W (v.1 + (1 : Int))), ())) else l .bad else bif (c.2.1 ((W (c.2.2.2.2.1.1 + v.1)), ())).1 then bif (c.2.1 ((W (c.2.2.2.2.1.1 + v.1)), ())).2.1 then l (.out (.ret ((W (c.2.2.2.2.1.1 + v.1)), (true, ())))) else l (.next ((W (v.1 + (1 : Int))), ())) else l .bad else l (.out (.exit 0 ()))
theorem z87x0 (c : (patsTy cs87x0).den) (v : (patsTy vs87x0).den) : roundQ Try.prog E0 G87 0 33 [] ps87x0 wy87x0 b87x0 [] (j87x0 c v) = Z87x0 (fun r => .leaf (r.lift j87x0 je87x0 jr87x0 jp87x0 c)) .any c v := by kernel_rfl
def S87x0 (c : (patsTy cs87x0).den) (v : (patsTy vs87x0).den) : RQ vs87x0 wv87x0 := Z87x0 (fun r => r) (fun _ _ => .bad) c v
theorem s87x0 (c : (patsTy cs87x0).den) (v : (patsTy vs87x0).den) : detQ (roundQ Try.prog E0 G87 0 33 [] ps87x0 wy87x0 b87x0 [] (j87x0 c v)) = (S87x0 c v).lift j87x0 je87x0 jr87x0 jp87x0 c := by rw [z87x0]; unfold S87x0 Z87x0; simp only [detQ_cond, lift_cond, lift_bad, detQ, detQ_cl, detQ_onExit, detQ_onRet, detQ_onPanL, detQ_onNext, detQ_onBrk, detQ_onRetO, detQ_onPan, detQ_onOk, detQ_onGPan, lift_cl, lift_onExit, lift_onRet, lift_onPanL, lift_onNext, lift_onBrk, lift_onRetO, lift_onPan, lift_onOk, lift_onGPan]
def L87x0 (c : (patsTy cs87x0).den) (v : (patsTy vs87x0).den) : LQ wv87x0 := iterQ (S87x0 c) big v
theorem lo87 : loopsOf (c87) = [.loop b87x0] := by kernel_rfl
noncomputable def l87 : List Loop := [.known (loopZ 0 [] ps87x0 fun x => spreadV wy87x0 je87x0 jr87x0 jp87x0 [] true (sp87x0 x).1 (L87x0 (sp87x0 x).1 (sp87x0 x).2) wy87x0.exits)]
def Q87 {α : Type} (l : Option (r87).den → α) (an : α → α → α) (x : (a87).den) : α := onExit (L87x0 (x.2.1, (x.2.2.1, ((), ((W ((W (x.1.2.1 - x.1.1)) + (1 : Int))), (x.1, ()))))) ((0 : Int), ())) 0 (fun u0 => l (some ((0 : Int), (false, ())))) (onRet (L87x0 (x.2.1, (x.2.2.1, ((), ((W ((W (x.1.2.1 - x.1.1)) + (1 : Int))), (x.1, ()))))) ((0 : Int), ())) (fun u1 => l (some u1)) (l none))
theorem q87 (x : (a87).den) : runFn Try.prog E0 G87 Try.f87 l87 a87 r87 x = Q87 .leaf .any x := by kernel_rfl
def M87 (x : (a87).den) : Option (r87).den := Q87 (fun r => r) (fun _ _ => none) x
theorem m87 (x : (a87).den) : (runFn Try.prog E0 G87 Try.f87 l87 a87 r87 x).sure = M87 x := by rw [q87]; unfold M87 Q87; simp only [sure_cond, Tree.sure, sure_cl, sure_onExit, sure_onRet, sure_onPanL, sure_onNext, sure_onBrk, sure_onRetO, sure_onPan, sure_onOk, sure_onGPan]
def p87 (x : (a87).den) : Bool := (M87 x).isSome
def v87 (x : (a87).den) : (r87).den := (M87 x).getD (r87).dflt
def k87 : Con := ⟨a87, r87, p87, v87⟩
theorem h87 : Holds Try.prog 87 k87 := holds_of_M' (E := E0) follows_ok g87 eqTy_sound keyTy_sound at87 bd87 (by kernel_rfl) m87 fun G' hlo hF hE => LsOK_kn (by rw [lo87]; exact .cons (loopV_ok hE hF hlo (LsOK_kn (by rw [lo87x0]; exact .nil)) (by kernel_rfl) (by kernel_rfl) sp87x0 (fun _ => rfl) (fun _ _ => rfl) (s87x0) big) (.nil))
/-- isobar/kite.ends$1 -/
noncomputable def c107 : Code := Try.f107.body.getD .skip
theorem at107 : Try.prog.funcs[107]? = some Try.f107 := by kernel_rfl
theorem bd107 : Try.f107.body = some c107 := by kernel_rfl
theorem cl107 : Callable Try.prog 107 := callable_of at107 (by kernel_rfl) (by kernel_rfl)
abbrev T98 : Ty := (.ptr T1)
abbrev T99 : Ty := (.ptr T94)
abbrev T100 : Ty := (.cons T99 .nil)
abbrev T101 : Ty := (.cons T98 T100)
abbrev T102 : Ty := (.cons .bool T101)
abbrev a107 : Ty := T102
abbrev r107 : Ty := T0
noncomputable def G107 : Ctx := Ctx.of [(87, .pure k87)]
theorem g107 : Sound Try.prog (G107) := sound_of (List.forall_mem_cons.2 ⟨⟨cl87, h87⟩, fun _ h => by cases h⟩)
theorem lo107 : loopsOf (c107) = [] := by kernel_rfl
noncomputable def l107 : List Loop := []
def Q107 {α : Type} (l : Option (r107).den → α) (an : α → α → α) (x : (a107).den) : α := cl (r87).dflt (M87 (x.2.1, (x.1, x.2.2.1))) (fun u0 => l (some (u0.1, ()))) (l none)
theorem q107 (x : (a107).den) : runFn Try.prog E0 G107 Try.f107 l107 a107 r107 x = Q107 .leaf .any x := by kernel_rfl
def M107 (x : (a107).den) : Option (r107).den := Q107 (fun r => r) (fun _ _ => none) x
theorem m107 (x : (a107).den) : (runFn Try.prog E0 G107 Try.f107 l107 a107 r107 x).sure = M107 x := by rw [q107]; unfold M107 Q107; simp only [sure_cond, Tree.sure, sure_cl, sure_onExit, sure_onRet, sure_onPanL, sure_onNext, sure_onBrk, sure_onRetO, sure_onPan, sure_onOk, sure_onGPan]
def p107 (x : (a107).den) : Bool := (M107 x).isSome
def v107 (x : (a107).den) : (r107).den := (M107 x).getD (r107).dflt
def k107 : Con := ⟨a107, r107, p107, v107⟩
theorem h107 : Holds Try.prog 107 k107 := holds_of_M' (E := E0) follows_ok g107 eqTy_sound keyTy_sound at107 bd107 (by kernel_rfl) m107 fun G' hlo hF hE => LsOK_kn (by rw [lo107]; exact .nil)
/-- isobar/kite.both[bool] -/
noncomputable def c106 : Code := Try.f106.body.getD .skip
theorem at106 : Try.prog.funcs[106]? = some Try.f106 := by kernel_rfl
theorem bd106 : Try.f106.body = some c106 := by kernel_rfl
theorem cl106 : Callable Try.prog 106 := callable_of at106 (by kernel_rfl) (by kernel_rfl)
abbrev T103 : Ty := (.fn T3 T0)
abbrev T104 : Ty := (.cons T103 .nil)
abbrev T105 : Ty := (.cons .bool T104)
abbrev T106 : Ty := (.cons .bool T105)
abbrev a106 : Ty := T106
abbrev r106 : Ty := T6
noncomputable def G106 : Ctx := Ctx.of []
theorem g106 : Sound Try.prog (G106) := sound_of (fun _ h => by cases h)
theorem lo106 : loopsOf (c106) = [] := by kernel_rfl
noncomputable def l106 : List Loop := []
def Q106 {α : Type} (l : Option (r106).den → α) (an : α → α → α) (x : (a106).den) : α := bif (x.2.2.1 (x.1, ())).1 then bif (x.2.2.1 (x.2.1, ())).1 then l (some (((x.2.2.1 (x.1, ())).2.1, (x.2.2.1 (x.2.1, ())).2), ())) else l none else l none
theorem q106 (x : (a106).den) : runFn Try.prog E0 G106 Try.f106 l106 a106 r106 x = Q106 .leaf .any x := by kernel_rfl
def M106 (x : (a106).den) : Option (r106).den := Q106 (fun r => r) (fun _ _ => none) x
theorem m106 (x : (a106).den) : (runFn Try.prog E0 G106 Try.f106 l106 a106 r106 x).sure = M106 x := by rw [q106]; unfold M106 Q106; simp only [sure_cond, Tree.sure, sure_cl, sure_onExit, sure_onRet, sure_onPanL, sure_onNext, sure_onBrk, sure_onRetO, sure_onPan, sure_onOk, sure_onGPan]
def p106 (x : (a106).den) : Bool := (M106 x).isSome
def v106 (x : (a106).den) : (r106).den := (M106 x).getD (r106).dflt
def k106 : Con := ⟨a106, r106, p106, v106⟩
theorem h106 : Holds Try.prog 106 k106 := holds_of_M' (E := E0) follows_ok g106 eqTy_sound keyTy_sound at106 bd106 (by kernel_rfl) m106 fun G' hlo hF hE => LsOK_kn (by rw [lo106]; exact .nil)
/-- isobar/kite.ends -/
noncomputable def c77 : Code := Try.f77.body.getD .skip
theorem at77 : Try.prog.funcs[77]? = some Try.f77 := by kernel_rfl
theorem bd77 : Try.f77.body = some c77 := by kernel_rfl
theorem cl77 : Callable Try.prog 77 := callable_of at77 (by kernel_rfl) (by kernel_rfl)
abbrev T107 : Ty := (.cons T4 T94)
abbrev a77 : Ty := T107
abbrev r77 : Ty := T6
noncomputable def G77 : Ctx := Ctx.of [(106, .pure k106), (107, .pure k107)]
theorem g77 : Sound Try.prog (G77) := sound_of (List.forall_mem_cons.2 ⟨⟨cl106, h106⟩, List.forall_mem_cons.2 ⟨⟨cl107, h107⟩, fun _ h => by cases h⟩⟩)
theorem lo77 : loopsOf (c77) = [] := by kernel_rfl
noncomputable def l77 : List Loop := []
def Q77 {α : Type} (l : Option (r77).den → α) (an : α → α → α) (x : (a77).den) : α := cl (r106).dflt (M106 (false, (true, ((fun y1 => ((p107 (y1.1, (x.1, (x.2, ())))), (v107 (y1.1, (x.1, (x.2, ())))))), ())))) (fun u0 => l (some (u0.1, ()))) (l none)
theorem q77 (x : (a77).den) : runFn Try.prog E0 G77 Try.f77 l77 a77 r77 x = Q77 .leaf .any x := by kernel_rfl
def M77 (x : (a77).den) : Option (r77).den := Q77 (fun r => r) (fun _ _ => none) x
theorem m77 (x : (a77).den) : (runFn Try.prog E0 G77 Try.f77 l77 a77 r77 x).sure = M77 x := by rw [q77]; unfold M77 Q77; simp only [sure_cond, Tree.sure, sure_cl, sure_onExit, sure_onRet, sure_onPanL, sure_onNext, sure_onBrk, sure_onRetO, sure_onPan, sure_onOk, sure_onGPan]
def p77 (x : (a77).den) : Bool := (M77 x).isSome
def v77 (x : (a77).den) : (r77).den := (M77 x).getD (r77).dflt
def k77 : Con := ⟨a77, r77, p77, v77⟩
theorem h77 : Holds Try.prog 77 k77 := holds_of_M' (E := E0) follows_ok g77 eqTy_sound keyTy_sound at77 bd77 (by kernel_rfl) m77 fun G' hlo hF hE => LsOK_kn (by rw [lo77]; exact .nil)
/-- isobar/kite.Winds$1 -/
noncomputable def c78 : Code := Try.f78.body.getD .skip
theorem at78 : Try.prog.funcs[78]? = some Try.f78 := by kernel_rfl
theorem bd78 : Try.f78.body = some c78 := by kernel_rfl
theorem cl78 : Callable Try.prog 78 := callable_of at78 (by kernel_rfl) (by kernel_rfl)
abbrev T108 : Ty := (.cons tI T55)
abbrev a78 : Ty := T108
abbrev r78 : Ty := T3
noncomputable def G78 : Ctx := Ctx.of [(79, .pure k79), (80, .pure k80), (81, .pure k81)]
theorem g78 : Sound Try.prog (G78) := sound_of (List.forall_mem_cons.2 ⟨⟨cl79, h79⟩, List.forall_mem_cons.2 ⟨⟨cl80, h80⟩, List.forall_mem_cons.2 ⟨⟨cl81, h81⟩, fun _ h => by cases h⟩⟩⟩)
theorem lo78 : loopsOf (c78) = [] := by kernel_rfl
noncomputable def l78 : List Loop := []
def Q78 {α : Type} (l : Option (r78).den → α) (an : α → α → α) (x : (a78).den) : α := cl (r80).dflt (M80 (x.2.1, ((0 : Int), ((0 : Int), ())))) (fun u0 => cl (r81).dflt (M81 (x.1, ())) (fun u1 => cl (r79).dflt (M79 (x.2.1, (u0.1, (u1.1, ())))) (fun u2 => l (some u2.2)) (l none)) (l none)) (l none)
theorem q78 (x : (a78).den) : runFn Try.prog E0 G78 Try.f78 l78 a78 r78 x = Q78 .leaf .any x := by kernel_rfl
def M78 (x : (a78).den) : Option (r78).den := Q78 (fun r => r) (fun _ _ => none) x
theorem m78 (x : (a78).den) : (runFn Try.prog E0 G78 Try.f78 l78 a78 r78 x).sure = M78 x := by rw [q78]; unfold M78 Q78; simp only [sure_cond, Tree.sure, sure_cl, sure_onExit, sure_onRet, sure_onPanL, sure_onNext, sure_onBrk, sure_onRetO, sure_onPan, sure_onOk, sure_onGPan]
def p78 (x : (a78).den) : Bool := (M78 x).isSome
def v78 (x : (a78).den) : (r78).den := (M78 x).getD (r78).dflt
def k78 : Con := ⟨a78, r78, p78, v78⟩
theorem h78 : Holds Try.prog 78 k78 := holds_of_M' (E := E0) follows_ok g78 eqTy_sound keyTy_sound at78 bd78 (by kernel_rfl) m78 fun G' hlo hF hE => LsOK_kn (by rw [lo78]; exact .nil)
/-- isobar/kite.Winds -/
noncomputable def c28 : Code := Try.f28.body.getD .skip
theorem at28 : Try.prog.funcs[28]? = some Try.f28 := by kernel_rfl
theorem bd28 : Try.f28.body = some c28 := by kernel_rfl
theorem cl28 : Callable Try.prog 28 := callable_of at28 (by kernel_rfl) (by kernel_rfl)
abbrev T109 : Ty := (.cons tI T53)
abbrev T110 : Ty := (.cons tI T109)
abbrev T111 : Ty := (.agg T110)
abbrev T112 : Ty := (.cons T111 T0)
abbrev a28 : Ty := T43
abbrev r28 : Ty := T112
noncomputable def G28 : Ctx := Ctx.of [(76, .pure k76), (77, .pure k77), (78, .pure k78), (82, .pure k82)]
theorem g28 : Sound Try.prog (G28) := sound_of (List.forall_mem_cons.2 ⟨⟨cl76, h76⟩, List.forall_mem_cons.2 ⟨⟨cl77, h77⟩, List.forall_mem_cons.2 ⟨⟨cl78, h78⟩, List.forall_mem_cons.2 ⟨⟨cl82, h82⟩, fun _ h => by cases h⟩⟩⟩⟩)
noncomputable def b28x0 : Code := loopBody ((loopsOf (c28))[0]?)
theorem lo28x0 : loopsOf (b28x0) = [] := by kernel_rfl
abbrev cs28x0 : List Pat := [.slot 1 (.pc T54), .slot 2 (.ptr 2), .slot 6 (.ptr 183), .slot 26 (.pc (.sl T9)), .slot 27 (.pc tI), .box 2 [.pc tI, .pc tI, .own 1003002 23 T1, .own 1003003 23 T1]]
abbrev vs28x0 : List Pat := [.slot 28 (.pc tI), .box 183 [.pc tI, .pc tI, .own 1184002 23 T1, .own 1184003 23 T1]]
abbrev ps28x0 : List Pat := [.slot 1 (.pc T54), .slot 2 (.ptr 2), .slot 6 (.ptr 183), .slot 26 (.pc (.sl T9)), .slot 27 (.pc tI), .box 2 [.pc tI, .pc tI, .own 1003002 23 T1, .own 1003003 23 T1], .slot 28 (.pc tI), .box 183 [.pc tI, .pc tI, .own 1184002 23 T1, .own 1184003 23 T1]]
def j28x0 : (patsTy cs28x0).den → (patsTy vs28x0).den → (patsTy ps28x0).den := fun c v => (c.1, (c.2.1, (c.2.2.1, (c.2.2.2.1, (c.2.2.2.2.1, (c.2.2.2.2.2.1, v))))))
def sp28x0 : (patsTy ps28x0).den → (patsTy cs28x0).den × (patsTy vs28x0).den := fun x => ((x.1, (x.2.1, (x.2.2.1, (x.2.2.2.1, (x.2.2.2.2.1, (x.2.2.2.2.2.1, ())))))), x.2.2.2.2.2.2)
abbrev wy28x0 : Ways := ⟨[(0, [.slot 2 (.ptr 2), .slot 6 (.ptr 183), .box 2 [.pc tI, .pc tI, .own 1003002 23 T1, .own 1003003 23 T1], .box 183 [.pc tI, .pc tI, .own 1184002 23 T1, .own 1184003 23 T1]])], [], []⟩
abbrev wv28x0 : Ways := ⟨[(0, [.box 183 [.pc tI, .pc tI, .own 1184002 23 T1, .own 1184003 23 T1]])], [], []⟩
def je28x0 : (id : Nat) → (patsTy cs28x0).den → (patsTy (wayP wv28x0 id)).den → (patsTy (wayP wy28x0 id)).den := fun id => match id with | 0 => fun c y => (c.2.1, (c.2.2.1, (c.2.2.2.2.2.1, y))) | id => fun _ _ => (patsTy (wayP wy28x0 id)).dflt
def jr28x0 : (patsTy cs28x0).den → (patsTy (wv28x0).ret).den → (patsTy (wy28x0).ret).den := fun c y => y
def jp28x0 : (patsTy cs28x0).den → (patsTy (wv28x0).pan).den → (patsTy (wy28x0).pan).den := fun c y => y
def Z28x0 {α : Type} (l : RQ vs28x0 wv28x0 → α) (an : α → α → α) (c : (patsTy cs28x0).den) (v : (patsTy vs28x0).den) : α := bif (decide (v.1 < c.2.2.2.2.1)) then bif (decide (((0 : Int) ≤ v.1) ∧ (v.1 < ((c.2.2.2.1.n : Nat) : Int)))) then cl (r82).dflt (M82 (c.1, (v.1, ((0 : Int), ())))) (fun u0 => cl (r77).dflt (M77 (((c.2.2.2.1.g (Int.toNat v.1)).2.1, ((c.2.2.2.1.g (Int.toNat v.1)).2.2.1, ())), u0)) (fun u1 => cl (r82).dflt (M82 (c.1, (v.1, ((1 : Int), ())))) (fun u2 => cl (r77).dflt (M77 ((c.2.2.2.1.g (Int.toNat v.1)).2.2.2, u2)) (fun u3 => bif (decide (((v.2.1.2.2.1.n + 1) * 16) ≤ 140737488355328)) then bif (decide (((v.2.1.2.2.2.1.n + 1) * 16) ≤ 140737488355328)) then l (.next ((W (v.1 + (1 : Int))), ((v.2.1.1, (v.2.1.2.1, ((catSl v.2.1.2.2.1 (⟨1, fun i => List.getD [u1.1] i u1.1⟩ : Sl (Ty.den T1))), ((catSl v.2.1.2.2.2.1 (⟨1, fun i => List.getD [u3.1] i u3.1⟩ : Sl (Ty.den T1))), ())))), ()))) else l .bad else l .bad) (l .bad)) (l .bad)) (l .bad)) (l .bad) else l .bad else l (.out (.exit 0 (v.2.1, ())))
theorem z28x0 (c : (patsTy cs28x0).den) (v : (patsTy vs28x0).den) : roundQ Try.prog E0 G28 0 59 [] ps28x0 wy28x0 b28x0 [] (j28x0 c v) = Z28x0 (fun r => .leaf (r.lift j28x0 je28x0 jr28x0 jp28x0 c)) .any c v := by kernel_rfl
def S28x0 (c : (patsTy cs28x0).den) (v : (patsTy vs28x0).den) : RQ vs28x0 wv28x0 := Z28x0 (fun r => r) (fun _ _ => .bad) c v
theorem s28x0 (c : (patsTy cs28x0).den) (v : (patsTy vs28x0).den) : detQ (roundQ Try.prog E0 G28 0 59 [] ps28x0 wy28x0 b28x0 [] (j28x0 c v)) = (S28x0 c v).lift j28x0 je28x0 jr28x0 jp28x0 c := by rw [z28x0]; unfold S28x0 Z28x0; simp only [detQ_cond, lift_cond, lift_bad, detQ, detQ_cl, detQ_onExit, detQ_onRet, detQ_onPanL, detQ_onNext, detQ_onBrk, detQ_onRetO, detQ_onPan, detQ_onOk, detQ_onGPan, lift_cl, lift_onExit, lift_onRet, lift_onPanL, lift_onNext, lift_onBrk, lift_onRetO, lift_onPan, lift_onOk, lift_onGPan]
def L28x0 (c : (patsTy cs28x0).den) (v : (patsTy vs28x0).den) : LQ wv28x0 := iterQ (S28x0 c) big v
theorem lo28 : loopsOf (c28) = [.loop b28x0] := by kernel_rfl
noncomputable def l28 : List Loop := [.known (loopZ 0 [] ps28x0 fun x => spreadV wy28x0 je28x0 jr28x0 jp28x0 [] false (sp28x0 x).1 (L28x0 (sp28x0 x).1 (sp28x0 x).2) wy28x0.exits)]
def Q28 {α : Type} (l : Option (r28).den → α) (an : α → α → α) (x : (a28).den) : α := cl (r76).dflt (M76 (x.1, ((0 : Int), ()))) (fun u4 => bif (!(decide (u4.2.1 = (0 : Int)))) then l (some (((0 : Int), ((0 : Int), ((⟨0, fun i => ((0 : Int), ((0 : Int), ()))⟩ : Sl _), ((⟨0, fun i => ((0 : Int), ((0 : Int), ()))⟩ : Sl _), ())))), u4.2)) else cl (r77).dflt (M77 ((x.1.2.2.2.2.2.1, (x.1.2.2.2.2.2.2.1, ())), ((fun y1 => ((p78 (y1.1, (x.1, ()))), (v78 (y1.1, (x.1, ()))))), ()))) (fun u5 => onExit (L28x0 (x.1, ((), ((), (x.1.1, (((x.1.1.n : Nat) : Int), (((0 : Int), ((0 : Int), ((⟨0, fun i => ((0 : Int), ((0 : Int), ()))⟩ : Sl _), ((⟨0, fun i => ((0 : Int), ((0 : Int), ()))⟩ : Sl _), ())))), ())))))) ((0 : Int), ((u5.1.1, (u5.1.2.1, ((⟨0, fun i => ((0 : Int), ((0 : Int), ()))⟩ : Sl _), ((⟨0, fun i => ((0 : Int), ((0 : Int), ()))⟩ : Sl _), ())))), ()))) 0 (fun u6 => l (some (u6.1, ((0 : Int), ())))) (l none)) (l none)) (l none)
theorem q28 (x : (a28).den) : runFn Try.prog E0 G28 Try.f28 l28 a28 r28 x = Q28 .leaf .any x := by kernel_rfl
def M28 (x : (a28).den) : Option (r28).den := Q28 (fun r => r) (fun _ _ => none) x
theorem m28 (x : (a28).den) : (runFn Try.prog E0 G28 Try.f28 l28 a28 r28 x).sure = M28 x := by rw [q28]; unfold M28 Q28; simp only [sure_cond, Tree.sure, sure_cl, sure_onExit, sure_onRet, sure_onPanL, sure_onNext, sure_onBrk, sure_onRetO, sure_onPan, sure_onOk, sure_onGPan]
def p28 (x : (a28).den) : Bool := (M28 x).isSome
def v28 (x : (a28).den) : (r28).den := (M28 x).getD (r28).dflt
def k28 : Con := ⟨a28, r28, p28, v28⟩
theorem h28 : Holds Try.prog 28 k28 := holds_of_M' (E := E0) follows_ok g28 eqTy_sound keyTy_sound at28 bd28 (by kernel_rfl) m28 fun G' hlo hF hE => LsOK_kn (by rw [lo28]; exact .cons (loopV_ok hE hF hlo (LsOK_kn (by rw [lo28x0]; exact .nil)) (by kernel_rfl) (by kernel_rfl) sp28x0 (fun _ => rfl) (fun _ _ => rfl) (s28x0) big) (.nil))
/-- isobar/kite.Show -/
noncomputable def c35 : Code := Try.f35.body.getD .skip
theorem at35 : Try.prog.funcs[35]? = some Try.f35 := by kernel_rfl
theorem bd35 : Try.f35.body = some c35 := by kernel_rfl
theorem cl35 : Callable Try.prog 35 := callable_of at35 (by kernel_rfl) (by kernel_rfl)
abbrev T113 : Ty := (.cons .bool T3)
abbrev T114 : Ty := (.cons tI T113)
abbrev T115 : Ty := (.cons T42 T114)
abbrev a35 : Ty := T115
abbrev r35 : Ty := T87
noncomputable def G35 : Ctx := Ctx.of [(76, .pure k76), (79, .pure k79), (81, .pure k81), (82, .pure k82), (87, .pure k87)]
theorem g35 : Sound Try.prog (G35) := sound_of (List.forall_mem_cons.2 ⟨⟨cl76, h76⟩, List.forall_mem_cons.2 ⟨⟨cl79, h79⟩, List.forall_mem_cons.2 ⟨⟨cl81, h81⟩, List.forall_mem_cons.2 ⟨⟨cl82, h82⟩, List.forall_mem_cons.2 ⟨⟨cl87, h87⟩, fun _ h => by cases h⟩⟩⟩⟩⟩)
theorem lo35 : loopsOf (c35) = [] := by kernel_rfl
noncomputable def l35 : List Loop := []
def Q35 {α : Type} (l : Option (r35).den → α) (an : α → α → α) (x : (a35).den) : α := cl (r76).dflt (M76 (x.1, (x.2.1, ()))) (fun u0 => bif (!(decide (u0.2.1 = (0 : Int)))) then l (some (((0 : Int), ((0 : Int), ((0 : Int), ((⟨0, fun i => ((0 : Int), ())⟩ : Sl _), ((⟨0, fun i => ((0 : Int), ())⟩ : Sl _), ()))))), u0.2)) else bif (decide (((0 : Int) ≤ x.2.1) ∧ (x.2.1 < ((x.1.1.n : Nat) : Int)))) then bif x.2.2.1 then bif (decide (((0 : Int) ≤ x.2.1) ∧ (x.2.1 < ((x.1.1.n : Nat) : Int)))) then cl (r82).dflt (M82 (x.1, (x.2.1, ((1 : Int), ())))) (fun u1 => cl (r87).dflt (M87 ((x.1.1.g (Int.toNat x.2.1)).2.2.2, (x.2.2.2.1, u1))) (fun u2 => cl (r81).dflt (M81 (u2.1, ())) (fun u3 => cl (r79).dflt (M79 (x.1, ((x.2.1, ((1 : Int), u3.1)), ((x.1.2.2.2.2.2.1, (x.1.2.2.2.2.2.2.1, ())), ())))) (fun u4 => l (some (u4.1, ((0 : Int), ())))) (l none)) (l none)) (l none)) (l none) else l none else cl (r82).dflt (M82 (x.1, (x.2.1, ((0 : Int), ())))) (fun u5 => cl (r87).dflt (M87 (((x.1.1.g (Int.toNat x.2.1)).2.1, ((x.1.1.g (Int.toNat x.2.1)).2.2.1, ())), (x.2.2.2.1, u5))) (fun u6 => cl (r81).dflt (M81 (u6.1, ())) (fun u7 => cl (r79).dflt (M79 (x.1, ((x.2.1, ((0 : Int), u7.1)), ((x.1.2.2.2.2.2.1, (x.1.2.2.2.2.2.2.1, ())), ())))) (fun u8 => l (some (u8.1, ((0 : Int), ())))) (l none)) (l none)) (l none)) (l none) else l none) (l none)
theorem q35 (x : (a35).den) : runFn Try.prog E0 G35 Try.f35 l35 a35 r35 x = Q35 .leaf .any x := by kernel_rfl
def M35 (x : (a35).den) : Option (r35).den := Q35 (fun r => r) (fun _ _ => none) x
theorem m35 (x : (a35).den) : (runFn Try.prog E0 G35 Try.f35 l35 a35 r35 x).sure = M35 x := by rw [q35]; unfold M35 Q35; simp only [sure_cond, Tree.sure, sure_cl, sure_onExit, sure_onRet, sure_onPanL, sure_onNext, sure_onBrk, sure_onRetO, sure_onPan, sure_onOk, sure_onGPan]
def p35 (x : (a35).den) : Bool := (M35 x).isSome
def v35 (x : (a35).den) : (r35).den := (M35 x).getD (r35).dflt
def k35 : Con := ⟨a35, r35, p35, v35⟩
theorem h35 : Holds Try.prog 35 k35 := holds_of_M' (E := E0) follows_ok g35 eqTy_sound keyTy_sound at35 bd35 (by kernel_rfl) m35 fun G' hlo hF hE => LsOK_kn (by rw [lo35]; exact .nil)
/-- isobar/isobarref07.SameTruth -/
noncomputable def c33 : Code := Try.f33.body.getD .skip
theorem at33 : Try.prog.funcs[33]? = some Try.f33 := by kernel_rfl
theorem bd33 : Try.f33.body = some c33 := by kernel_rfl
theorem cl33 : Callable Try.prog 33 := callable_of at33 (by kernel_rfl) (by kernel_rfl)
abbrev T116 : Ty := (.cons T71 T72)
abbrev a33 : Ty := T116
abbrev r33 : Ty := T3
noncomputable def G33 : Ctx := Ctx.of [(25, .pure k25)]
theorem g33 : Sound Try.prog (G33) := sound_of (List.forall_mem_cons.2 ⟨⟨cl25, h25⟩, fun _ h => by cases h⟩)
theorem lo33 : loopsOf (c33) = [] := by kernel_rfl
noncomputable def l33 : List Loop := []
def Q33 {α : Type} (l : Option (r33).den → α) (an : α → α → α) (x : (a33).den) : α := bif (decide (x.1.1 = x.2.1.1)) then bif (decide (x.1.2.1 = x.2.1.2.1)) then bif (decide (x.1.2.2.1 = x.2.1.2.2.1)) then cl (r25).dflt (M25 (x.1.2.2.2.1, (x.2.1.2.2.2.1, ()))) (fun u0 => bif u0.1 then cl (r25).dflt (M25 (x.1.2.2.2.2.1, x.2.1.2.2.2.2)) (fun u1 => l (some u1)) (l none) else l (some (false, ()))) (l none) else l (some (false, ())) else l (some (false, ())) else l (some (false, ()))
theorem q33 (x : (a33).den) : runFn Try.prog E0 G33 Try.f33 l33 a33 r33 x = Q33 .leaf .any x := by kernel_rfl
def M33 (x : (a33).den) : Option (r33).den := Q33 (fun r => r) (fun _ _ => none) x
theorem m33 (x : (a33).den) : (runFn Try.prog E0 G33 Try.f33 l33 a33 r33 x).sure = M33 x := by rw [q33]; unfold M33 Q33; simp only [sure_cond, Tree.sure, sure_cl, sure_onExit, sure_onRet, sure_onPanL, sure_onNext, sure_onBrk, sure_onRetO, sure_onPan, sure_onOk, sure_onGPan]
def p33 (x : (a33).den) : Bool := (M33 x).isSome
def v33 (x : (a33).den) : (r33).den := (M33 x).getD (r33).dflt
def k33 : Con := ⟨a33, r33, p33, v33⟩
theorem h33 : Holds Try.prog 33 k33 := holds_of_M' (E := E0) follows_ok g33 eqTy_sound keyTy_sound at33 bd33 (by kernel_rfl) m33 fun G' hlo hF hE => LsOK_kn (by rw [lo33]; exact .nil)
/-- isobar/isobarref07.SameWinds -/
noncomputable def c30 : Code := Try.f30.body.getD .skip
theorem at30 : Try.prog.funcs[30]? = some Try.f30 := by kernel_rfl
theorem bd30 : Try.f30.body = some c30 := by kernel_rfl
theorem cl30 : Callable Try.prog 30 := callable_of at30 (by kernel_rfl) (by kernel_rfl)
abbrev T117 : Ty := (.cons T111 .nil)
abbrev T118 : Ty := (.cons T111 T117)
abbrev a30 : Ty := T118
abbrev r30 : Ty := T3
noncomputable def G30 : Ctx := Ctx.of [(51, .pure k51)]
theorem g30 : Sound Try.prog (G30) := sound_of (List.forall_mem_cons.2 ⟨⟨cl51, h51⟩, fun _ h => by cases h⟩)
theorem lo30 : loopsOf (c30) = [] := by kernel_rfl
noncomputable def l30 : List Loop := []
def Q30 {α : Type} (l : Option (r30).den → α) (an : α → α → α) (x : (a30).den) : α := bif ((decide (x.1.1 = x.2.1.1)) && ((decide (x.1.2.1 = x.2.1.2.1)) && true)) then cl (r51).dflt (M51 (x.1.2.2.1, (x.2.1.2.2.1, ()))) (fun u0 => bif u0.1 then cl (r51).dflt (M51 (x.1.2.2.2.1, x.2.1.2.2.2)) (fun u1 => l (some u1)) (l none) else l (some (false, ()))) (l none) else l (some (false, ()))
theorem q30 (x : (a30).den) : runFn Try.prog E0 G30 Try.f30 l30 a30 r30 x = Q30 .leaf .any x := by kernel_rfl
def M30 (x : (a30).den) : Option (r30).den := Q30 (fun r => r) (fun _ _ => none) x
theorem m30 (x : (a30).den) : (runFn Try.prog E0 G30 Try.f30 l30 a30 r30 x).sure = M30 x := by rw [q30]; unfold M30 Q30; simp only [sure_cond, Tree.sure, sure_cl, sure_onExit, sure_onRet, sure_onPanL, sure_onNext, sure_onBrk, sure_onRetO, sure_onPan, sure_onOk, sure_onGPan]
def p30 (x : (a30).den) : Bool := (M30 x).isSome
def v30 (x : (a30).den) : (r30).den := (M30 x).getD (r30).dflt
def k30 : Con := ⟨a30, r30, p30, v30⟩
theorem h30 : Holds Try.prog 30 k30 := holds_of_M' (E := E0) follows_ok g30 eqTy_sound keyTy_sound at30 bd30 (by kernel_rfl) m30 fun G' hlo hF hE => LsOK_kn (by rw [lo30]; exact .nil)
/-- isobar/isobarlaw07.known -/
noncomputable def c19 : Code := Try.f19.body.getD .skip
theorem at19 : Try.prog.funcs[19]? = some Try.f19 := by kernel_rfl
theorem bd19 : Try.f19.body = some c19 := by kernel_rfl
theorem cl19 : Callable Try.prog 19 := callable_of at19 (by kernel_rfl) (by kernel_rfl)
abbrev a19 : Ty := .nil
abbrev r19 : Ty := T3
noncomputable def G19 : Ctx := Ctx.of [(17, .pure k17), (22, .pure k22), (25, .pure k25), (28, .pure k28), (30, .pure k30), (32, .pure k32), (33, .pure k33), (35, .pure k35), (40, .pure k40), (46, .pure k46), (48, .pure k48), (51, .pure k51), (69, .pure k69), (70, .pure k70), (71, .pure k71)]
theorem g19 : Sound Try.prog (G19) := sound_of (List.forall_mem_cons.2 ⟨⟨cl17, h17⟩, List.forall_mem_cons.2 ⟨⟨cl22, h22⟩, List.forall_mem_cons.2 ⟨⟨cl25, h25⟩, List.forall_mem_cons.2 ⟨⟨cl28, h28⟩, List.forall_mem_cons.2 ⟨⟨cl30, h30⟩, List.forall_mem_cons.2 ⟨⟨cl32, h32⟩, List.forall_mem_cons.2 ⟨⟨cl33, h33⟩, List.forall_mem_cons.2 ⟨⟨cl35, h35⟩, List.forall_mem_cons.2 ⟨⟨cl40, h40⟩, List.forall_mem_cons.2 ⟨⟨cl46, h46⟩, List.forall_mem_cons.2 ⟨⟨cl48, h48⟩, List.forall_mem_cons.2 ⟨⟨cl51, h51⟩, List.forall_mem_cons.2 ⟨⟨cl69, h69⟩, List.forall_mem_cons.2 ⟨⟨cl70, h70⟩, List.forall_mem_cons.2 ⟨⟨cl71, h71⟩, fun _ h => by cases h⟩⟩⟩⟩⟩⟩⟩⟩⟩⟩⟩⟩⟩⟩⟩)
theorem lo19 : loopsOf (c19) = [] := by kernel_rfl
noncomputable def l19 : List Loop := []
def Q19 {α : Type} (l : Option (r19).den → α) (an : α → α → α) (x : (a19).den) : α := cl (r69).dflt (M69 ()) (fun u0 => cl (r17).dflt (M17 (u0.1, ())) (fun u1 => cl (r70).dflt (M70 ()) (fun u2 => cl (r40).dflt (M40 (u2.1, ())) (fun u3 => cl (r70).dflt (M70 ()) (fun u4 => cl (r22).dflt (M22 (u2.1, ((105 : Int), ((⟨3, fun i => List.getD [((155 : Int), ()), ((125 : Int), ()), ((50 : Int), ())] i ((155 : Int), ())⟩ : Sl _), ())))) (fun u5 => cl (r71).dflt (M71 ()) (fun u6 => cl (r48).dflt (M48 (u6.1, ())) (fun u7 => cl (r71).dflt (M71 ()) (fun u8 => cl (r28).dflt (M28 (u6.1, ())) (fun u9 => cl (r71).dflt (M71 ()) (fun u10 => cl (r32).dflt (M32 (u6.1, ())) (fun u11 => cl (r71).dflt (M71 ()) (fun u12 => cl (r35).dflt (M35 (u6.1, ((0 : Int), (true, (true, ()))))) (fun u13 => bif (!(decide (u1.2.1 = (0 : Int)))) then l (some (false, ())) else bif (!(decide (u3.2.1 = (0 : Int)))) then l (some (false, ())) else bif (!(decide (u5.2.1 = (0 : Int)))) then l (some (false, ())) else bif (!(decide (u7.2.1 = (0 : Int)))) then l (some (false, ())) else bif (!(decide (u9.2.1 = (0 : Int)))) then l (some (false, ())) else bif (!(decide (u11.2.1 = (0 : Int)))) then l (some (false, ())) else bif (!(decide (u13.2.1 = (0 : Int)))) then l (some (false, ())) else cl (r46).dflt (M46 ((610 : Int), ((681 : Int), ()))) (fun u14 => bif (!((decide (u1.1.1 = u14.1.1)) && ((decide (u1.1.2.1 = u14.1.2.1)) && true))) then l (some (false, ())) else cl (r46).dflt (M46 ((100 : Int), ((110 : Int), ()))) (fun u15 => cl (r46).dflt (M46 ((678 : Int), ((690 : Int), ()))) (fun u16 => cl (r46).dflt (M46 ((1944 : Int), ((1963 : Int), ()))) (fun u17 => cl (r51).dflt (M51 (u3.1, ((⟨3, fun i => List.getD [u15.1, u16.1, u17.1] i u15.1⟩ : Sl _), ()))) (fun u18 => bif (!u18.1) then l (some (false, ())) else cl (r25).dflt (M25 (u5.1, ((⟨3, fun i => List.getD [((105 : Int), ()), ((684 : Int), ()), ((1953 : Int), ())] i ((105 : Int), ())⟩ : Sl _), ()))) (fun u19 => bif (!u19.1) then l (some (false, ())) else cl (r46).dflt (M46 ((5 : Int), ((51 : Int), ()))) (fun u20 => cl (r46).dflt (M46 ((-12 : Int), ((5 : Int), ()))) (fun u21 => cl (r46).dflt (M46 ((5 : Int), ((11 : Int), ()))) (fun u22 => bif (!((decide (u7.1.1 = u20.1.1)) && ((decide (u7.1.2.1 = u20.1.2.1)) && ((decide (u7.1.2.2.1 = u21.1.1)) && ((decide (u7.1.2.2.2.1 = u21.1.2.1)) && ((decide (u7.1.2.2.2.2.1 = u22.1.1)) && ((decide (u7.1.2.2.2.2.2.1 = u22.1.2.1)) && true))))))) then l (some (false, ())) else cl (r46).dflt (M46 ((2 : Int), ((2 : Int), ()))) (fun u23 => cl (r46).dflt (M46 ((1 : Int), ((2 : Int), ()))) (fun u24 => cl (r46).dflt (M46 ((5 : Int), ((6 : Int), ()))) (fun u25 => cl (r46).dflt (M46 ((0 : Int), ((1 : Int), ()))) (fun u26 => cl (r46).dflt (M46 ((-2 : Int), ((-1 : Int), ()))) (fun u27 => cl (r30).dflt (M30 (u9.1, ((u23.1.1, (u23.1.2.1, ((⟨2, fun i => List.getD [u24.1, u25.1] i u24.1⟩ : Sl _), ((⟨2, fun i => List.getD [u26.1, u27.1] i u26.1⟩ : Sl _), ())))), ()))) (fun u28 => bif u28.1 then cl (r33).dflt (M33 (u11.1, (((200 : Int), ((400 : Int), ((2 : Int), ((⟨2, fun i => List.getD [((1 : Int), ()), ((6 : Int), ())] i ((1 : Int), ())⟩ : Sl _), ((⟨2, fun i => List.getD [((0 : Int), ()), ((-1 : Int), ())] i ((0 : Int), ())⟩ : Sl _), ()))))), ()))) (fun u29 => bif u29.1 then cl (r33).dflt (M33 (u13.1, (((200 : Int), ((400 : Int), ((2 : Int), ((⟨2, fun i => List.getD [((1 : Int), ()), ((6 : Int), ())] i ((1 : Int), ())⟩ : Sl _), ((⟨2, fun i => List.getD [((1 : Int), ()), ((-2 : Int), ())] i ((1 : Int), ())⟩ : Sl _), ()))))), ()))) (fun u30 => l (some u30)) (l none) else l (some (false, ()))) (l none) else l (some (false, ()))) (l none)) (l none)) (l none)) (l none)) (l none)) (l none)) (l none)) (l none)) (l none)) (l none)) (l none)) (l none)) (l none)) (l none)) (l none)) (l none)) (l none)) (l none)) (l none)) (l none)) (l none)) (l none)) (l none)) (l none)) (l none)) (l none)) (l none)) (l none)) (l none)
theorem q19 (x : (a19).den) : runFn Try.prog E0 G19 Try.f19 l19 a19 r19 x = Q19 .leaf .any x := by kernel_rfl
def M19 (x : (a19).den) : Option (r19).den := Q19 (fun r => r) (fun _ _ => none) x
theorem m19 (x : (a19).den) : (runFn Try.prog E0 G19 Try.f19 l19 a19 r19 x).sure = M19 x := by rw [q19]; unfold M19 Q19; simp only [sure_cond, Tree.sure, sure_cl, sure_onExit, sure_onRet, sure_onPanL, sure_onNext, sure_onBrk, sure_onRetO, sure_onPan, sure_onOk, sure_onGPan]
def p19 (x : (a19).den) : Bool := (M19 x).isSome
def v19 (x : (a19).den) : (r19).den := (M19 x).getD (r19).dflt
def k19 : Con := ⟨a19, r19, p19, v19⟩
theorem h19 : Holds Try.prog 19 k19 := holds_of_M' (E := E0) follows_ok g19 eqTy_sound keyTy_sound at19 bd19 (by kernel_rfl) m19 fun G' hlo hF hE => LsOK_kn (by rw [lo19]; exact .nil)
/-- isobar/isobarref07.wind -/
noncomputable def c89 : Code := Try.f89.body.getD .skip
theorem at89 : Try.prog.funcs[89]? = some Try.f89 := by kernel_rfl
theorem bd89 : Try.f89.body = some c89 := by kernel_rfl
theorem cl89 : Callable Try.prog 89 := callable_of at89 (by kernel_rfl) (by kernel_rfl)
abbrev a89 : Ty := T6
abbrev r89 : Ty := T3
noncomputable def G89 : Ctx := Ctx.of [(68, .pure k68)]
theorem g89 : Sound Try.prog (G89) := sound_of (List.forall_mem_cons.2 ⟨⟨cl68, h68⟩, fun _ h => by cases h⟩)
theorem lo89 : loopsOf (c89) = [] := by kernel_rfl
noncomputable def l89 : List Loop := []
def Q89 {α : Type} (l : Option (r89).den → α) (an : α → α → α) (x : (a89).den) : α := cl (r68).dflt (M68 (x.1, ((-100 : Int), ((100 : Int), ())))) (fun u0 => bif u0.1 then l (some ((decide ((W (x.1.2.1 - x.1.1)) ≤ (8 : Int))), ())) else l (some (false, ()))) (l none)
theorem q89 (x : (a89).den) : runFn Try.prog E0 G89 Try.f89 l89 a89 r89 x = Q89 .leaf .any x := by kernel_rfl
def M89 (x : (a89).den) : Option (r89).den := Q89 (fun r => r) (fun _ _ => none) x
theorem m89 (x : (a89).den) : (runFn Try.prog E0 G89 Try.f89 l89 a89 r89 x).sure = M89 x := by rw [q89]; unfold M89 Q89; simp only [sure_cond, Tree.sure, sure_cl, sure_onExit, sure_onRet, sure_onPanL, sure_onNext, sure_onBrk, sure_onRetO, sure_onPan, sure_onOk, sure_onGPan]
def p89 (x : (a89).den) : Bool := (M89 x).isSome
def v89 (x : (a89).den) : (r89).den := (M89 x).getD (r89).dflt
def k89 : Con := ⟨a89, r89, p89, v89⟩
theorem h89 : Holds Try.prog 89 k89 := holds_of_M' (E := E0) follows_ok g89 eqTy_sound keyTy_sound at89 bd89 (by kernel_rfl) m89 fun G' hlo hF hE => LsOK_kn (by rw [lo89]; exact .nil)
/-- isobar/isobarref07.speed -/
noncomputable def c90 : Code := Try.f90.body.getD .skip
theorem at90 : Try.prog.funcs[90]? = some Try.f90 := by kernel_rfl
theorem bd90 : Try.f90.body = some c90 := by kernel_rfl
theorem cl90 : Callable Try.prog 90 := callable_of at90 (by kernel_rfl) (by kernel_rfl)
abbrev a90 : Ty := T6
abbrev r90 : Ty := T3
noncomputable def G90 : Ctx := Ctx.of [(68, .pure k68)]
theorem g90 : Sound Try.prog (G90) := sound_of (List.forall_mem_cons.2 ⟨⟨cl68, h68⟩, fun _ h => by cases h⟩)
theorem lo90 : loopsOf (c90) = [] := by kernel_rfl
noncomputable def l90 : List Loop := []
def Q90 {α : Type} (l : Option (r90).den → α) (an : α → α → α) (x : (a90).den) : α := cl (r68).dflt (M68 (x.1, ((50 : Int), ((1000 : Int), ())))) (fun u0 => bif u0.1 then l (some ((decide ((W (x.1.2.1 - x.1.1)) ≤ (3 : Int))), ())) else l (some (false, ()))) (l none)
theorem q90 (x : (a90).den) : runFn Try.prog E0 G90 Try.f90 l90 a90 r90 x = Q90 .leaf .any x := by kernel_rfl
def M90 (x : (a90).den) : Option (r90).den := Q90 (fun r => r) (fun _ _ => none) x
theorem m90 (x : (a90).den) : (runFn Try.prog E0 G90 Try.f90 l90 a90 r90 x).sure = M90 x := by rw [q90]; unfold M90 Q90; simp only [sure_cond, Tree.sure, sure_cl, sure_onExit, sure_onRet, sure_onPanL, sure_onNext, sure_onBrk, sure_onRetO, sure_onPan, sure_onOk, sure_onGPan]
def p90 (x : (a90).den) : Bool := (M90 x).isSome
def v90 (x : (a90).den) : (r90).den := (M90 x).getD (r90).dflt
def k90 : Con := ⟨a90, r90, p90, v90⟩
theorem h90 : Holds Try.prog 90 k90 := holds_of_M' (E := E0) follows_ok g90 eqTy_sound keyTy_sound at90 bd90 (by kernel_rfl) m90 fun G' hlo hF hE => LsOK_kn (by rw [lo90]; exact .nil)
/-- isobar/isobarref07.Flight -/
noncomputable def c38 : Code := Try.f38.body.getD .skip
theorem at38 : Try.prog.funcs[38]? = some Try.f38 := by kernel_rfl
theorem bd38 : Try.f38.body = some c38 := by kernel_rfl
theorem cl38 : Callable Try.prog 38 := callable_of at38 (by kernel_rfl) (by kernel_rfl)
abbrev a38 : Ty := T43
abbrev r38 : Ty := T3
noncomputable def G38 : Ctx := Ctx.of [(68, .pure k68), (75, .pure k75), (89, .pure k89), (90, .pure k90)]
theorem g38 : Sound Try.prog (G38) := sound_of (List.forall_mem_cons.2 ⟨⟨cl68, h68⟩, List.forall_mem_cons.2 ⟨⟨cl75, h75⟩, List.forall_mem_cons.2 ⟨⟨cl89, h89⟩, List.forall_mem_cons.2 ⟨⟨cl90, h90⟩, fun _ h => by cases h⟩⟩⟩⟩)
noncomputable def b38x0 : Code := loopBody ((loopsOf (c38))[0]?)
theorem lo38x0 : loopsOf (b38x0) = [] := by kernel_rfl
abbrev cs38x0 : List Pat := [.slot 1 (.ptr 1), .box 1 [.pc (.sl T9), .pc tI, .pc tI, .pc tI, .pc tI, .pc tI, .pc tI, .pc tI, .pc tI, .pc tI, .pc tI, .pc tI, .pc tI]]
abbrev vs38x0 : List Pat := [.slot 3 (.pc tI)]
abbrev ps38x0 : List Pat := [.slot 1 (.ptr 1), .box 1 [.pc (.sl T9), .pc tI, .pc tI, .pc tI, .pc tI, .pc tI, .pc tI, .pc tI, .pc tI, .pc tI, .pc tI, .pc tI, .pc tI], .slot 3 (.pc tI)]
def j38x0 : (patsTy cs38x0).den → (patsTy vs38x0).den → (patsTy ps38x0).den := fun c v => (c.1, (c.2.1, v))
def sp38x0 : (patsTy ps38x0).den → (patsTy cs38x0).den × (patsTy vs38x0).den := fun x => ((x.1, (x.2.1, ())), x.2.2)
abbrev wy38x0 : Ways := ⟨[(0, [.slot 1 (.ptr 1), .box 1 [.pc (.sl T9), .pc tI, .pc tI, .pc tI, .pc tI, .pc tI, .pc tI, .pc tI, .pc tI, .pc tI, .pc tI, .pc tI, .pc tI]])], [.slot 2 (.pc .bool)], []⟩
abbrev wv38x0 : Ways := ⟨[(0, [])], [.slot 2 (.pc .bool)], []⟩
def je38x0 : (id : Nat) → (patsTy cs38x0).den → (patsTy (wayP wv38x0 id)).den → (patsTy (wayP wy38x0 id)).den := fun id => match id with | 0 => fun c y => (c.1, (c.2.1, y)) | id => fun _ _ => (patsTy (wayP wy38x0 id)).dflt
def jr38x0 : (patsTy cs38x0).den → (patsTy (wv38x0).ret).den → (patsTy (wy38x0).ret).den := fun c y => y
def jp38x0 : (patsTy cs38x0).den → (patsTy (wv38x0).pan).den → (patsTy (wy38x0).pan).den := fun c y => y
def Z38x0 {α : Type} (l : RQ vs38x0 wv38x0 → α) (an : α → α → α) (c : (patsTy cs38x0).den) (v : (patsTy vs38x0).den) : α := bif (decide (v.1 < ((c.2.1.1.n : Nat) : Int))) then bif (decide (((0 : Int) ≤ v.1) ∧ (v.1 < ((c.2.1.1.n : Nat) : Int)))) then cl (r75).dflt (M75 ((c.2.1.1.g (Int.toNat v.1)).1, ((1 : Int), ((3000 : Int), ())))) (fun u0 => bif (!u0.1) then l (.out (.ret (false, ()))) else cl (r89).dflt (M89 (((c.2.1.1.g (Int.toNat v.1)).2.1, ((c.2.1.1.g (Int.toNat v.1)).2.2.1, ())), ())) (fun u1 => bif (!u1.1) then l (.out (.ret (false, ()))) else cl (r89).dflt (M89 ((c.2.1.1.g (Int.toNat v.1)).2.2.2, ())) (fun u2 => bif (!u2.1) then l (.out (.ret (false, ()))) else l (.next ((W (v.1 + (1 : Int))), ()))) (l .bad)) (l .bad)) (l .bad) else l .bad else l (.out (.exit 0 ()))
theorem z38x0 (c : (patsTy cs38x0).den) (v : (patsTy vs38x0).den) : roundQ Try.prog E0 G38 0 70 [] ps38x0 wy38x0 b38x0 [] (j38x0 c v) = Z38x0 (fun r => .leaf (r.lift j38x0 je38x0 jr38x0 jp38x0 c)) .any c v := by kernel_rfl
def S38x0 (c : (patsTy cs38x0).den) (v : (patsTy vs38x0).den) : RQ vs38x0 wv38x0 := Z38x0 (fun r => r) (fun _ _ => .bad) c v
theorem s38x0 (c : (patsTy cs38x0).den) (v : (patsTy vs38x0).den) : detQ (roundQ Try.prog E0 G38 0 70 [] ps38x0 wy38x0 b38x0 [] (j38x0 c v)) = (S38x0 c v).lift j38x0 je38x0 jr38x0 jp38x0 c := by rw [z38x0]; unfold S38x0 Z38x0; simp only [detQ_cond, lift_cond, lift_bad, detQ, detQ_cl, detQ_onExit, detQ_onRet, detQ_onPanL, detQ_onNext, detQ_onBrk, detQ_onRetO, detQ_onPan, detQ_onOk, detQ_onGPan, lift_cl, lift_onExit, lift_onRet, lift_onPanL, lift_onNext, lift_onBrk, lift_onRetO, lift_onPan, lift_onOk, lift_onGPan]
def L38x0 (c : (patsTy cs38x0).den) (v : (patsTy vs38x0).den) : LQ wv38x0 := iterQ (S38x0 c) big v
theorem lo38 : loopsOf (c38) = [.loop b38x0] := by kernel_rfl
noncomputable def l38 : List Loop := [.known (loopZ 0 [] ps38x0 fun x => spreadV wy38x0 je38x0 jr38x0 jp38x0 [] true (sp38x0 x).1 (L38x0 (sp38x0 x).1 (sp38x0 x).2) wy38x0.exits)]
def Q38 {α : Type} (l : Option (r38).den → α) (an : α → α → α) (x : (a38).den) : α := onExit (L38x0 ((), (x.1, ())) ((0 : Int), ())) 0 (fun u3 => cl (r75).dflt (M75 (((x.1.1.n : Nat) : Int), ((1 : Int), ((4 : Int), ())))) (fun u4 => bif u4.1 then cl (r90).dflt (M90 ((x.1.2.1, (x.1.2.2.1, ())), ())) (fun u5 => bif u5.1 then cl (r90).dflt (M90 ((x.1.2.2.2.1, (x.1.2.2.2.2.1, ())), ())) (fun u6 => bif u6.1 then cl (r68).dflt (M68 ((x.1.2.2.2.2.2.1, (x.1.2.2.2.2.2.2.1, ())), ((1 : Int), (((x.1.1.n : Nat) : Int), ())))) (fun u7 => bif u7.1 then cl (r68).dflt (M68 ((x.1.2.2.2.2.2.2.2.1, (x.1.2.2.2.2.2.2.2.2.1, ())), ((-100000 : Int), ((100000 : Int), ())))) (fun u8 => bif u8.1 then cl (r68).dflt (M68 ((x.1.2.2.2.2.2.2.2.2.2.1, (x.1.2.2.2.2.2.2.2.2.2.2.1, ())), ((-100000 : Int), ((100000 : Int), ())))) (fun u9 => bif u9.1 then cl (r68).dflt (M68 (x.1.2.2.2.2.2.2.2.2.2.2.2, ((0 : Int), ((100000 : Int), ())))) (fun u10 => l (some u10)) (l none) else l (some (false, ()))) (l none) else l (some (false, ()))) (l none) else l (some (false, ()))) (l none) else l (some (false, ()))) (l none) else l (some (false, ()))) (l none) else l (some (false, ()))) (l none)) (onRet (L38x0 ((), (x.1, ())) ((0 : Int), ())) (fun u11 => l (some u11)) (l none))
theorem q38 (x : (a38).den) : runFn Try.prog E0 G38 Try.f38 l38 a38 r38 x = Q38 .leaf .any x := by kernel_rfl
def M38 (x : (a38).den) : Option (r38).den := Q38 (fun r => r) (fun _ _ => none) x
theorem m38 (x : (a38).den) : (runFn Try.prog E0 G38 Try.f38 l38 a38 r38 x).sure = M38 x := by rw [q38]; unfold M38 Q38; simp only [sure_cond, Tree.sure, sure_cl, sure_onExit, sure_onRet, sure_onPanL, sure_onNext, sure_onBrk, sure_onRetO, sure_onPan, sure_onOk, sure_onGPan]
def p38 (x : (a38).den) : Bool := (M38 x).isSome
def v38 (x : (a38).den) : (r38).den := (M38 x).getD (r38).dflt
def k38 : Con := ⟨a38, r38, p38, v38⟩
theorem h38 : Holds Try.prog 38 k38 := holds_of_M' (E := E0) follows_ok g38 eqTy_sound keyTy_sound at38 bd38 (by kernel_rfl) m38 fun G' hlo hF hE => LsOK_kn (by rw [lo38]; exact .cons (loopV_ok hE hF hlo (LsOK_kn (by rw [lo38x0]; exact .nil)) (by kernel_rfl) (by kernel_rfl) sp38x0 (fun _ => rfl) (fun _ _ => rfl) (s38x0) big) (.nil))
/-- isobar/isobarref07.Truth -/
noncomputable def c57 : Code := Try.f57.body.getD .skip
theorem at57 : Try.prog.funcs[57]? = some Try.f57 := by kernel_rfl
theorem bd57 : Try.f57.body = some c57 := by kernel_rfl
theorem cl57 : Callable Try.prog 57 := callable_of at57 (by kernel_rfl) (by kernel_rfl)
abbrev a57 : Ty := T73
abbrev r57 : Ty := T3
noncomputable def G57 : Ctx := Ctx.of [(75, .pure k75)]
theorem g57 : Sound Try.prog (G57) := sound_of (List.forall_mem_cons.2 ⟨⟨cl75, h75⟩, fun _ h => by cases h⟩)
noncomputable def b57x0 : Code := loopBody ((loopsOf (c57))[0]?)
theorem lo57x0 : loopsOf (b57x0) = [] := by kernel_rfl
abbrev cs57x0 : List Pat := [.slot 2 (.ptr 2), .slot 3 (.ptr 3), .box 2 [.pc (.sl T9), .pc tI, .pc tI, .pc tI, .pc tI, .pc tI, .pc tI, .pc tI, .pc tI, .pc tI, .pc tI, .pc tI, .pc tI], .box 3 [.pc tI, .pc tI, .pc tI, .pc (.sl T0), .pc (.sl T0)]]
abbrev vs57x0 : List Pat := [.slot 5 (.pc tI)]
abbrev ps57x0 : List Pat := [.slot 2 (.ptr 2), .slot 3 (.ptr 3), .box 2 [.pc (.sl T9), .pc tI, .pc tI, .pc tI, .pc tI, .pc tI, .pc tI, .pc tI, .pc tI, .pc tI, .pc tI, .pc tI, .pc tI], .box 3 [.pc tI, .pc tI, .pc tI, .pc (.sl T0), .pc (.sl T0)], .slot 5 (.pc tI)]
def j57x0 : (patsTy cs57x0).den → (patsTy vs57x0).den → (patsTy ps57x0).den := fun c v => (c.1, (c.2.1, (c.2.2.1, (c.2.2.2.1, v))))
def sp57x0 : (patsTy ps57x0).den → (patsTy cs57x0).den × (patsTy vs57x0).den := fun x => ((x.1, (x.2.1, (x.2.2.1, (x.2.2.2.1, ())))), x.2.2.2.2)
abbrev wy57x0 : Ways := ⟨[(0, [.slot 2 (.ptr 2), .slot 3 (.ptr 3), .box 2 [.pc (.sl T9), .pc tI, .pc tI, .pc tI, .pc tI, .pc tI, .pc tI, .pc tI, .pc tI, .pc tI, .pc tI, .pc tI, .pc tI], .box 3 [.pc tI, .pc tI, .pc tI, .pc (.sl T0), .pc (.sl T0)]])], [.slot 4 (.pc .bool)], []⟩
abbrev wv57x0 : Ways := ⟨[(0, [])], [.slot 4 (.pc .bool)], []⟩
def je57x0 : (id : Nat) → (patsTy cs57x0).den → (patsTy (wayP wv57x0 id)).den → (patsTy (wayP wy57x0 id)).den := fun id => match id with | 0 => fun c y => (c.1, (c.2.1, (c.2.2.1, (c.2.2.2.1, y)))) | id => fun _ _ => (patsTy (wayP wy57x0 id)).dflt
def jr57x0 : (patsTy cs57x0).den → (patsTy (wv57x0).ret).den → (patsTy (wy57x0).ret).den := fun c y => y
def jp57x0 : (patsTy cs57x0).den → (patsTy (wv57x0).pan).den → (patsTy (wy57x0).pan).den := fun c y => y
def Z57x0 {α : Type} (l : RQ vs57x0 wv57x0 → α) (an : α → α → α) (c : (patsTy cs57x0).den) (v : (patsTy vs57x0).den) : α := bif (decide (v.1 < ((c.2.2.1.1.n : Nat) : Int))) then bif (decide (((0 : Int) ≤ v.1) ∧ (v.1 < ((c.2.2.1.1.n : Nat) : Int)))) then bif (decide (((0 : Int) ≤ v.1) ∧ (v.1 < ((c.2.2.2.1.2.2.2.1.n : Nat) : Int)))) then cl (r75).dflt (M75 ((c.2.2.2.1.2.2.2.1.g (Int.toNat v.1)).1, ((c.2.2.1.1.g (Int.toNat v.1)).2.1, ((c.2.2.1.1.g (Int.toNat v.1)).2.2.1, ())))) (fun u0 => bif (!u0.1) then l (.out (.ret (false, ()))) else bif (decide (((0 : Int) ≤ v.1) ∧ (v.1 < ((c.2.2.2.1.2.2.2.2.1.n : Nat) : Int)))) then cl (r75).dflt (M75 ((c.2.2.2.1.2.2.2.2.1.g (Int.toNat v.1)).1, (c.2.2.1.1.g (Int.toNat v.1)).2.2.2)) (fun u1 => bif (!u1.1) then l (.out (.ret (false, ()))) else l (.next ((W (v.1 + (1 : Int))), ()))) (l .bad) else l .bad) (l .bad) else l .bad else l .bad else l (.out (.exit 0 ()))
theorem z57x0 (c : (patsTy cs57x0).den) (v : (patsTy vs57x0).den) : roundQ Try.prog E0 G57 0 94 [] ps57x0 wy57x0 b57x0 [] (j57x0 c v) = Z57x0 (fun r => .leaf (r.lift j57x0 je57x0 jr57x0 jp57x0 c)) .any c v := by kernel_rfl
def S57x0 (c : (patsTy cs57x0).den) (v : (patsTy vs57x0).den) : RQ vs57x0 wv57x0 := Z57x0 (fun r => r) (fun _ _ => .bad) c v
theorem s57x0 (c : (patsTy cs57x0).den) (v : (patsTy vs57x0).den) : detQ (roundQ Try.prog E0 G57 0 94 [] ps57x0 wy57x0 b57x0 [] (j57x0 c v)) = (S57x0 c v).lift j57x0 je57x0 jr57x0 jp57x0 c := by rw [z57x0]; unfold S57x0 Z57x0; simp only [detQ_cond, lift_cond, lift_bad, detQ, detQ_cl, detQ_onExit, detQ_onRet, detQ_onPanL, detQ_onNext, detQ_onBrk, detQ_onRetO, detQ_onPan, detQ_onOk, detQ_onGPan, lift_cl, lift_onExit, lift_onRet, lift_onPanL, lift_onNext, lift_onBrk, lift_onRetO, lift_onPan, lift_onOk, lift_onGPan]
def L57x0 (c : (patsTy cs57x0).den) (v : (patsTy vs57x0).den) : LQ wv57x0 := iterQ (S57x0 c) big v
theorem lo57 : loopsOf (c57) = [.loop b57x0] := by kernel_rfl
noncomputable def l57 : List Loop := [.known (loopZ 0 [] ps57x0 fun x => spreadV wy57x0 je57x0 jr57x0 jp57x0 [] true (sp57x0 x).1 (L57x0 (sp57x0 x).1 (sp57x0 x).2) wy57x0.exits)]
def Q57 {α : Type} (l : Option (r57).den → α) (an : α → α → α) (x : (a57).den) : α := bif (!(decide (((x.2.1.2.2.2.1.n : Nat) : Int) = ((x.1.1.n : Nat) : Int)))) then l (some (false, ())) else bif (!(decide (((x.2.1.2.2.2.2.1.n : Nat) : Int) = ((x.1.1.n : Nat) : Int)))) then l (some (false, ())) else onExit (L57x0 ((), ((), (x.1, (x.2.1, ())))) ((0 : Int), ())) 0 (fun u2 => cl (r75).dflt (M75 (x.2.1.1, (x.1.2.1, (x.1.2.2.1, ())))) (fun u3 => bif u3.1 then cl (r75).dflt (M75 (x.2.1.2.1, (x.1.2.2.2.1, (x.1.2.2.2.2.1, ())))) (fun u4 => bif u4.1 then cl (r75).dflt (M75 (x.2.1.2.2.1, (x.1.2.2.2.2.2.1, (x.1.2.2.2.2.2.2.1, ())))) (fun u5 => l (some u5)) (l none) else l (some (false, ()))) (l none) else l (some (false, ()))) (l none)) (onRet (L57x0 ((), ((), (x.1, (x.2.1, ())))) ((0 : Int), ())) (fun u6 => l (some u6)) (l none))
theorem q57 (x : (a57).den) : runFn Try.prog E0 G57 Try.f57 l57 a57 r57 x = Q57 .leaf .any x := by kernel_rfl
def M57 (x : (a57).den) : Option (r57).den := Q57 (fun r => r) (fun _ _ => none) x
theorem m57 (x : (a57).den) : (runFn Try.prog E0 G57 Try.f57 l57 a57 r57 x).sure = M57 x := by rw [q57]; unfold M57 Q57; simp only [sure_cond, Tree.sure, sure_cl, sure_onExit, sure_onRet, sure_onPanL, sure_onNext, sure_onBrk, sure_onRetO, sure_onPan, sure_onOk, sure_onGPan]
def p57 (x : (a57).den) : Bool := (M57 x).isSome
def v57 (x : (a57).den) : (r57).den := (M57 x).getD (r57).dflt
def k57 : Con := ⟨a57, r57, p57, v57⟩
theorem h57 : Holds Try.prog 57 k57 := holds_of_M' (E := E0) follows_ok g57 eqTy_sound keyTy_sound at57 bd57 (by kernel_rfl) m57 fun G' hlo hF hE => LsOK_kn (by rw [lo57]; exact .cons (loopV_ok hE hF hlo (LsOK_kn (by rw [lo57x0]; exact .nil)) (by kernel_rfl) (by kernel_rfl) sp57x0 (fun _ => rfl) (fun _ _ => rfl) (s57x0) big) (.nil))
abbrev T119 : Ty := (.cons T42 T2)
abbrev T120 : Ty := (.cons T42 T3)
abbrev T121 : Ty := (.cons T4 T44)
abbrev T122 : Ty := (.cons (.sl T0) T121)
abbrev T123 : Ty := (.cons (.sl T1) T122)
abbrev T124 : Ty := (.cons T4 T97)
abbrev T125 : Ty := (.cons T42 T53)
/-- isobar/isobarlaw07.short -/
noncomputable def c27 : Code := Try.f27.body.getD .skip
theorem at27 : Try.prog.funcs[27]? = some Try.f27 := by kernel_rfl
theorem bd27 : Try.f27.body = some c27 := by kernel_rfl
theorem cl27 : Callable Try.prog 27 := callable_of at27 (by kernel_rfl) (by kernel_rfl)
abbrev a27 : Ty := T43
abbrev r27 : Ty := T3
noncomputable def G27 : Ctx := Ctx.of []
theorem g27 : Sound Try.prog (G27) := sound_of (fun _ h => by cases h)
theorem lo27 : loopsOf (c27) = [] := by kernel_rfl
noncomputable def l27 : List Loop := []
def Q27 {α : Type} (l : Option (r27).den → α) (an : α → α → α) (x : (a27).den) : α := l (some ((decide (((x.1.1.n : Nat) : Int) ≤ (7 : Int))), ()))
theorem q27 (x : (a27).den) : runFn Try.prog E0 G27 Try.f27 l27 a27 r27 x = Q27 .leaf .any x := by kernel_rfl
def M27 (x : (a27).den) : Option (r27).den := Q27 (fun r => r) (fun _ _ => none) x
theorem m27 (x : (a27).den) : (runFn Try.prog E0 G27 Try.f27 l27 a27 r27 x).sure = M27 x := by rw [q27]; unfold M27 Q27; simp only [sure_cond, Tree.sure, sure_cl, sure_onExit, sure_onRet, sure_onPanL, sure_onNext, sure_onBrk, sure_onRetO, sure_onPan, sure_onOk, sure_onGPan]
def p27 (x : (a27).den) : Bool := (M27 x).isSome
def v27 (x : (a27).den) : (r27).den := (M27 x).getD (r27).dflt
def k27 : Con := ⟨a27, r27, p27, v27⟩
theorem h27 : Holds Try.prog 27 k27 := holds_of_M' (E := E0) follows_ok g27 eqTy_sound keyTy_sound at27 bd27 (by kernel_rfl) m27 fun G' hlo hF hE => LsOK_kn (by rw [lo27]; exact .nil)
/-- isobar/isobarlaw07.sized -/
noncomputable def c56 : Code := Try.f56.body.getD .skip
theorem at56 : Try.prog.funcs[56]? = some Try.f56 := by kernel_rfl
theorem bd56 : Try.f56.body = some c56 := by kernel_rfl
theorem cl56 : Callable Try.prog 56 := callable_of at56 (by kernel_rfl) (by kernel_rfl)
abbrev a56 : Ty := T72
abbrev r56 : Ty := T3
noncomputable def G56 : Ctx := Ctx.of []
theorem g56 : Sound Try.prog (G56) := sound_of (fun _ h => by cases h)
theorem lo56 : loopsOf (c56) = [] := by kernel_rfl
noncomputable def l56 : List Loop := []
def Q56 {α : Type} (l : Option (r56).den → α) (an : α → α → α) (x : (a56).den) : α := bif (decide (((x.1.2.2.2.1.n : Nat) : Int) ≤ (7 : Int))) then l (some ((decide (((x.1.2.2.2.2.1.n : Nat) : Int) ≤ (7 : Int))), ())) else l (some (false, ()))
theorem q56 (x : (a56).den) : runFn Try.prog E0 G56 Try.f56 l56 a56 r56 x = Q56 .leaf .any x := by kernel_rfl
def M56 (x : (a56).den) : Option (r56).den := Q56 (fun r => r) (fun _ _ => none) x
theorem m56 (x : (a56).den) : (runFn Try.prog E0 G56 Try.f56 l56 a56 r56 x).sure = M56 x := by rw [q56]; unfold M56 Q56; simp only [sure_cond, Tree.sure, sure_cl, sure_onExit, sure_onRet, sure_onPanL, sure_onNext, sure_onBrk, sure_onRetO, sure_onPan, sure_onOk, sure_onGPan]
def p56 (x : (a56).den) : Bool := (M56 x).isSome
def v56 (x : (a56).den) : (r56).den := (M56 x).getD (r56).dflt
def k56 : Con := ⟨a56, r56, p56, v56⟩
theorem h56 : Holds Try.prog 56 k56 := holds_of_M' (E := E0) follows_ok g56 eqTy_sound keyTy_sound at56 bd56 (by kernel_rfl) m56 fun G' hlo hF hE => LsOK_kn (by rw [lo56]; exact .nil)
/-- isobar/isobarlaw07.end -/
noncomputable def c59 : Code := Try.f59.body.getD .skip
theorem at59 : Try.prog.funcs[59]? = some Try.f59 := by kernel_rfl
theorem bd59 : Try.f59.body = some c59 := by kernel_rfl
theorem cl59 : Callable Try.prog 59 := callable_of at59 (by kernel_rfl) (by kernel_rfl)
abbrev T126 : Ty := (.cons tI T97)
abbrev T127 : Ty := (.cons tI T126)
abbrev T128 : Ty := (.cons T42 T127)
abbrev a59 : Ty := T128
abbrev r59 : Ty := T72
noncomputable def G59 : Ctx := Ctx.of []
theorem g59 : Sound Try.prog (G59) := sound_of (fun _ h => by cases h)
noncomputable def b59x0 : Code := loopBody ((loopsOf (c59))[0]?)
theorem lo59x0 : loopsOf (b59x0) = [] := by kernel_rfl
abbrev cs59x0 : List Pat := [.slot 4 (.pc .bool), .slot 5 (.ptr 5), .slot 10 (.ptr 10), .slot 11 (.ptr 75), .box 5 [.pc (.sl T9), .pc tI, .pc tI, .pc tI, .pc tI, .pc tI, .pc tI, .pc tI, .pc tI, .pc tI, .pc tI, .pc tI, .pc tI], .box 10 [.pc tI, .pc tI, .pc tI, .own 1011003 3 T0, .own 1011004 3 T0]]
abbrev vs59x0 : List Pat := [.slot 12 (.pc tI), .box 75 [.pc tI, .pc tI, .pc tI, .own 1076003 3 T0, .own 1076004 3 T0]]
abbrev ps59x0 : List Pat := [.slot 4 (.pc .bool), .slot 5 (.ptr 5), .slot 10 (.ptr 10), .slot 11 (.ptr 75), .box 5 [.pc (.sl T9), .pc tI, .pc tI, .pc tI, .pc tI, .pc tI, .pc tI, .pc tI, .pc tI, .pc tI, .pc tI, .pc tI, .pc tI], .box 10 [.pc tI, .pc tI, .pc tI, .own 1011003 3 T0, .own 1011004 3 T0], .slot 12 (.pc tI), .box 75 [.pc tI, .pc tI, .pc tI, .own 1076003 3 T0, .own 1076004 3 T0]]
def j59x0 : (patsTy cs59x0).den → (patsTy vs59x0).den → (patsTy ps59x0).den := fun c v => (c.1, (c.2.1, (c.2.2.1, (c.2.2.2.1, (c.2.2.2.2.1, (c.2.2.2.2.2.1, v))))))
def sp59x0 : (patsTy ps59x0).den → (patsTy cs59x0).den × (patsTy vs59x0).den := fun x => ((x.1, (x.2.1, (x.2.2.1, (x.2.2.2.1, (x.2.2.2.2.1, (x.2.2.2.2.2.1, ())))))), x.2.2.2.2.2.2)
abbrev wy59x0 : Ways := ⟨[(0, [.slot 10 (.ptr 10), .slot 11 (.ptr 75), .box 10 [.pc tI, .pc tI, .pc tI, .own 1011003 3 T0, .own 1011004 3 T0], .box 75 [.pc tI, .pc tI, .pc tI, .own 1076003 3 T0, .own 1076004 3 T0]])], [], []⟩
abbrev wv59x0 : Ways := ⟨[(0, [.box 75 [.pc tI, .pc tI, .pc tI, .own 1076003 3 T0, .own 1076004 3 T0]])], [], []⟩
def je59x0 : (id : Nat) → (patsTy cs59x0).den → (patsTy (wayP wv59x0 id)).den → (patsTy (wayP wy59x0 id)).den := fun id => match id with | 0 => fun c y => (c.2.2.1, (c.2.2.2.1, (c.2.2.2.2.2.1, y))) | id => fun _ _ => (patsTy (wayP wy59x0 id)).dflt
def jr59x0 : (patsTy cs59x0).den → (patsTy (wv59x0).ret).den → (patsTy (wy59x0).ret).den := fun c y => y
def jp59x0 : (patsTy cs59x0).den → (patsTy (wv59x0).pan).den → (patsTy (wy59x0).pan).den := fun c y => y
def Z59x0 {α : Type} (l : RQ vs59x0 wv59x0 → α) (an : α → α → α) (c : (patsTy cs59x0).den) (v : (patsTy vs59x0).den) : α := bif (decide (v.1 < ((c.2.2.2.2.1.1.n : Nat) : Int))) then bif (decide (((0 : Int) ≤ v.1) ∧ (v.1 < ((c.2.2.2.2.1.1.n : Nat) : Int)))) then bif c.1 then bif (decide (((v.2.1.2.2.2.1.n + 1) * 8) ≤ 140737488355328)) then bif (decide (((v.2.1.2.2.2.2.1.n + 1) * 8) ≤ 140737488355328)) then l (.next ((W (v.1 + (1 : Int))), ((v.2.1.1, (v.2.1.2.1, (v.2.1.2.2.1, ((catSl v.2.1.2.2.2.1 (⟨1, fun i => List.getD [((c.2.2.2.2.1.1.g (Int.toNat v.1)).2.2.1, ())] i ((c.2.2.2.2.1.1.g (Int.toNat v.1)).2.2.1, ())⟩ : Sl (Ty.den T0))), ((catSl v.2.1.2.2.2.2.1 (⟨1, fun i => List.getD [(c.2.2.2.2.1.1.g (Int.toNat v.1)).2.2.2.2] i (c.2.2.2.2.1.1.g (Int.toNat v.1)).2.2.2.2⟩ : Sl (Ty.den T0))), ()))))), ()))) else l .bad else l .bad else bif (decide (((v.2.1.2.2.2.1.n + 1) * 8) ≤ 140737488355328)) then bif (decide (((v.2.1.2.2.2.2.1.n + 1) * 8) ≤ 140737488355328)) then l (.next ((W (v.1 + (1 : Int))), ((v.2.1.1, (v.2.1.2.1, (v.2.1.2.2.1, ((catSl v.2.1.2.2.2.1 (⟨1, fun i => List.getD [((c.2.2.2.2.1.1.g (Int.toNat v.1)).2.1, ())] i ((c.2.2.2.2.1.1.g (Int.toNat v.1)).2.1, ())⟩ : Sl (Ty.den T0))), ((catSl v.2.1.2.2.2.2.1 (⟨1, fun i => List.getD [((c.2.2.2.2.1.1.g (Int.toNat v.1)).2.2.2.1, ())] i ((c.2.2.2.2.1.1.g (Int.toNat v.1)).2.2.2.1, ())⟩ : Sl (Ty.den T0))), ()))))), ()))) else l .bad else l .bad else l .bad else l (.out (.exit 0 (v.2.1, ())))
theorem z59x0 (c : (patsTy cs59x0).den) (v : (patsTy vs59x0).den) : roundQ Try.prog E0 G59 0 64 [] ps59x0 wy59x0 b59x0 [] (j59x0 c v) = Z59x0 (fun r => .leaf (r.lift j59x0 je59x0 jr59x0 jp59x0 c)) .any c v := by kernel_rfl
def S59x0 (c : (patsTy cs59x0).den) (v : (patsTy vs59x0).den) : RQ vs59x0 wv59x0 := Z59x0 (fun r => r) (fun _ _ => .bad) c v
theorem s59x0 (c : (patsTy cs59x0).den) (v : (patsTy vs59x0).den) : detQ (roundQ Try.prog E0 G59 0 64 [] ps59x0 wy59x0 b59x0 [] (j59x0 c v)) = (S59x0 c v).lift j59x0 je59x0 jr59x0 jp59x0 c := by rw [z59x0]; unfold S59x0 Z59x0; simp only [detQ_cond, lift_cond, lift_bad, detQ, detQ_cl, detQ_onExit, detQ_onRet, detQ_onPanL, detQ_onNext, detQ_onBrk, detQ_onRetO, detQ_onPan, detQ_onOk, detQ_onGPan, lift_cl, lift_onExit, lift_onRet, lift_onPanL, lift_onNext, lift_onBrk, lift_onRetO, lift_onPan, lift_onOk, lift_onGPan]
def L59x0 (c : (patsTy cs59x0).den) (v : (patsTy vs59x0).den) : LQ wv59x0 := iterQ (S59x0 c) big v
theorem lo59 : loopsOf (c59) = [.loop b59x0] := by kernel_rfl
noncomputable def l59 : List Loop := [.known (loopZ 0 [] ps59x0 fun x => spreadV wy59x0 je59x0 jr59x0 jp59x0 [] false (sp59x0 x).1 (L59x0 (sp59x0 x).1 (sp59x0 x).2) wy59x0.exits)]
def Q59 {α : Type} (l : Option (r59).den → α) (an : α → α → α) (x : (a59).den) : α := onExit (L59x0 (x.2.2.2.2.1, ((), ((), ((), (x.1, (((0 : Int), ((0 : Int), ((0 : Int), ((⟨0, fun i => ((0 : Int), ())⟩ : Sl _), ((⟨0, fun i => ((0 : Int), ())⟩ : Sl _), ()))))), ())))))) ((0 : Int), ((x.2.1, (x.2.2.1, (x.2.2.2.1, ((⟨0, fun i => ((0 : Int), ())⟩ : Sl _), ((⟨0, fun i => ((0 : Int), ())⟩ : Sl _), ()))))), ()))) 0 (fun u0 => l (some (u0.1, ()))) (l none)
theorem q59 (x : (a59).den) : runFn Try.prog E0 G59 Try.f59 l59 a59 r59 x = Q59 .leaf .any x := by kernel_rfl
def M59 (x : (a59).den) : Option (r59).den := Q59 (fun r => r) (fun _ _ => none) x
theorem m59 (x : (a59).den) : (runFn Try.prog E0 G59 Try.f59 l59 a59 r59 x).sure = M59 x := by rw [q59]; unfold M59 Q59; simp only [sure_cond, Tree.sure, sure_cl, sure_onExit, sure_onRet, sure_onPanL, sure_onNext, sure_onBrk, sure_onRetO, sure_onPan, sure_onOk, sure_onGPan]
def p59 (x : (a59).den) : Bool := (M59 x).isSome
def v59 (x : (a59).den) : (r59).den := (M59 x).getD (r59).dflt
def k59 : Con := ⟨a59, r59, p59, v59⟩
theorem h59 : Holds Try.prog 59 k59 := holds_of_M' (E := E0) follows_ok g59 eqTy_sound keyTy_sound at59 bd59 (by kernel_rfl) m59 fun G' hlo hF hE => LsOK_kn (by rw [lo59]; exact .cons (loopV_ok hE hF hlo (LsOK_kn (by rw [lo59x0]; exact .nil)) (by kernel_rfl) (by kernel_rfl) sp59x0 (fun _ => rfl) (fun _ _ => rfl) (s59x0) big) (.nil))
abbrev T129 : Ty := (.cons T71 T97)
abbrev T130 : Ty := (.cons T4 T6)
/-- isobar/isobarlaw07.KiteHeights -/
noncomputable def c3 : Code := Try.f3.body.getD .skip
theorem at3 : Try.prog.funcs[3]? = some Try.f3 := by kernel_rfl
theorem bd3 : Try.f3.body = some c3 := by kernel_rfl
theorem cl3 : Callable Try.prog 3 := callable_of at3 (by kernel_rfl) (by kernel_rfl)
abbrev a3 : Ty := T12
abbrev r3 : Ty := T3
noncomputable def G3 : Ctx := Ctx.of [(17, .pure k17), (18, .pure k18), (19, .pure k19), (20, .pure k20)]
theorem g3 : Sound Try.prog (G3) := sound_of (List.forall_mem_cons.2 ⟨⟨cl17, h17⟩, List.forall_mem_cons.2 ⟨⟨cl18, h18⟩, List.forall_mem_cons.2 ⟨⟨cl19, h19⟩, List.forall_mem_cons.2 ⟨⟨cl20, h20⟩, fun _ h => by cases h⟩⟩⟩⟩)
theorem lo3 : loopsOf (c3) = [] := by kernel_rfl
noncomputable def l3 : List Loop := []
def Q3 {α : Type} (l : Option (r3).den → α) (an : α → α → α) (x : (a3).den) : α := cl (r17).dflt (M17 (x.1, ())) (fun u0 => cl (r18).dflt (M18 (x.1, ())) (fun u1 => bif (!u1.1) then bif (decide (u0.2.1 = (2 : Int))) then bif ((decide (u0.1.1 = (0 : Int))) && ((decide (u0.1.2.1 = (0 : Int))) && true)) then cl (r19).dflt (M19 ()) (fun u2 => l (some u2)) (l none) else l (some (false, ())) else l (some (false, ())) else bif (decide (u0.2.1 = (0 : Int))) then cl (r20).dflt (M20 (x.1, ())) (fun u3 => bif ((decide (u0.1.1 = u3.1.1)) && ((decide (u0.1.2.1 = u3.1.2.1)) && true)) then cl (r19).dflt (M19 ()) (fun u4 => l (some u4)) (l none) else l (some (false, ()))) (l none) else l (some (false, ()))) (l none)) (l none)
theorem q3 (x : (a3).den) : runFn Try.prog E0 G3 Try.f3 l3 a3 r3 x = Q3 .leaf .any x := by kernel_rfl
def M3 (x : (a3).den) : Option (r3).den := Q3 (fun r => r) (fun _ _ => none) x
theorem m3 (x : (a3).den) : (runFn Try.prog E0 G3 Try.f3 l3 a3 r3 x).sure = M3 x := by rw [q3]; unfold M3 Q3; simp only [sure_cond, Tree.sure, sure_cl, sure_onExit, sure_onRet, sure_onPanL, sure_onNext, sure_onBrk, sure_onRetO, sure_onPan, sure_onOk, sure_onGPan]
def p3 (x : (a3).den) : Bool := (M3 x).isSome
def v3 (x : (a3).den) : (r3).den := (M3 x).getD (r3).dflt
def k3 : Con := ⟨a3, r3, p3, v3⟩
theorem h3 : Holds Try.prog 3 k3 := holds_of_M' (E := E0) follows_ok g3 eqTy_sound keyTy_sound at3 bd3 (by kernel_rfl) m3 fun G' hlo hF hE => LsOK_kn (by rw [lo3]; exact .nil)
abbrev T131 : Ty := (.cons tI T48)
abbrev T132 : Ty := (.cons T39 T131)
abbrev T133 : Ty := (.cons (.sl T1) T1)
abbrev T134 : Ty := (.cons tI T75)
abbrev T135 : Ty := (.cons T42 T134)
abbrev T136 : Ty := (.cons T42 T97)
/-- isobar/isobarlaw07.KiteLanded -/
noncomputable def c14 : Code := Try.f14.body.getD .skip
theorem at14 : Try.prog.funcs[14]? = some Try.f14 := by kernel_rfl
theorem bd14 : Try.f14.body = some c14 := by kernel_rfl
theorem cl14 : Callable Try.prog 14 := callable_of at14 (by kernel_rfl) (by kernel_rfl)
abbrev a14 : Ty := T73
abbrev r14 : Ty := T3
noncomputable def G14 : Ctx := Ctx.of [(19, .pure k19), (27, .pure k27), (38, .pure k38), (45, .pure k45), (48, .pure k48), (56, .pure k56), (57, .pure k57), (58, .pure k58), (59, .pure k59)]
theorem g14 : Sound Try.prog (G14) := sound_of (List.forall_mem_cons.2 ⟨⟨cl19, h19⟩, List.forall_mem_cons.2 ⟨⟨cl27, h27⟩, List.forall_mem_cons.2 ⟨⟨cl38, h38⟩, List.forall_mem_cons.2 ⟨⟨cl45, h45⟩, List.forall_mem_cons.2 ⟨⟨cl48, h48⟩, List.forall_mem_cons.2 ⟨⟨cl56, h56⟩, List.forall_mem_cons.2 ⟨⟨cl57, h57⟩, List.forall_mem_cons.2 ⟨⟨cl58, h58⟩, List.forall_mem_cons.2 ⟨⟨cl59, h59⟩, fun _ h => by cases h⟩⟩⟩⟩⟩⟩⟩⟩⟩)
noncomputable def b14x0 : Code := loopBody ((loopsOf (c14))[0]?)
noncomputable def b14x0x0 : Code := loopBody ((loopsOf (b14x0))[0]?)
noncomputable def b14x0x0x0 : Code := loopBody ((loopsOf (b14x0x0))[0]?)
theorem lo14x0x0x0 : loopsOf (b14x0x0x0) = [] := by kernel_rfl
abbrev cs14x0x0x0 : List Pat := [.slot 2 (.ptr 2), .slot 5 (.ptr 433), .slot 11 (.ptr 1081), .slot 12 (.pc tI), .slot 13 (.pc tI), .box 2 [.pc (.sl T9), .pc tI, .pc tI, .pc tI, .pc tI, .pc tI, .pc tI, .pc tI, .pc tI, .pc tI, .pc tI, .pc tI, .pc tI], .box 433 [.pc tI, .pc tI, .pc tI, .pc tI, .pc tI, .pc tI]]
abbrev vs14x0x0x0 : List Pat := [.slot 14 (.pc tI), .box 1081 [.pc .bool, .pc .bool, .pc .bool, .pc .bool, .pc .bool, .pc .bool]]
abbrev ps14x0x0x0 : List Pat := [.slot 2 (.ptr 2), .slot 5 (.ptr 433), .slot 11 (.ptr 1081), .slot 12 (.pc tI), .slot 13 (.pc tI), .box 2 [.pc (.sl T9), .pc tI, .pc tI, .pc tI, .pc tI, .pc tI, .pc tI, .pc tI, .pc tI, .pc tI, .pc tI, .pc tI, .pc tI], .box 433 [.pc tI, .pc tI, .pc tI, .pc tI, .pc tI, .pc tI], .slot 14 (.pc tI), .box 1081 [.pc .bool, .pc .bool, .pc .bool, .pc .bool, .pc .bool, .pc .bool]]
def j14x0x0x0 : (patsTy cs14x0x0x0).den → (patsTy vs14x0x0x0).den → (patsTy ps14x0x0x0).den := fun c v => (c.1, (c.2.1, (c.2.2.1, (c.2.2.2.1, (c.2.2.2.2.1, (c.2.2.2.2.2.1, (c.2.2.2.2.2.2.1, v)))))))
def sp14x0x0x0 : (patsTy ps14x0x0x0).den → (patsTy cs14x0x0x0).den × (patsTy vs14x0x0x0).den := fun x => ((x.1, (x.2.1, (x.2.2.1, (x.2.2.2.1, (x.2.2.2.2.1, (x.2.2.2.2.2.1, (x.2.2.2.2.2.2.1, ()))))))), x.2.2.2.2.2.2.2)
abbrev wy14x0x0x0 : Ways := ⟨[(4, [.slot 2 (.ptr 2), .slot 5 (.ptr 433), .slot 11 (.ptr 1081), .slot 12 (.pc tI), .slot 13 (.pc tI), .box 2 [.pc (.sl T9), .pc tI, .pc tI, .pc tI, .pc tI, .pc tI, .pc tI, .pc tI, .pc tI, .pc tI, .pc tI, .pc tI, .pc tI], .box 433 [.pc tI, .pc tI, .pc tI, .pc tI, .pc tI, .pc tI], .box 1081 [.pc .bool, .pc .bool, .pc .bool, .pc .bool, .pc .bool, .pc .bool]])], [.slot 4 (.pc .bool)], []⟩
abbrev wv14x0x0x0 : Ways := ⟨[(4, [.box 1081 [.pc .bool, .pc .bool, .pc .bool, .pc .bool, .pc .bool, .pc .bool]])], [.slot 4 (.pc .bool)], []⟩
def je14x0x0x0 : (id : Nat) → (patsTy cs14x0x0x0).den → (patsTy (wayP wv14x0x0x0 id)).den → (patsTy (wayP wy14x0x0x0 id)).den := fun id => match id with | 4 => fun c y => (c.1, (c.2.1, (c.2.2.1, (c.2.2.2.1, (c.2.2.2.2.1, (c.2.2.2.2.2.1, (c.2.2.2.2.2.2.1, y))))))) | id => fun _ _ => (patsTy (wayP wy14x0x0x0 id)).dflt
def jr14x0x0x0 : (patsTy cs14x0x0x0).den → (patsTy (wv14x0x0x0).ret).den → (patsTy (wy14x0x0x0).ret).den := fun c y => y
def jp14x0x0x0 : (patsTy cs14x0x0x0).den → (patsTy (wv14x0x0x0).pan).den → (patsTy (wy14x0x0x0).pan).den := fun c y => y
def Z14x0x0x0 {α : Type} (l : RQ vs14x0x0x0 wv14x0x0x0 → α) (an : α → α → α) (c : (patsTy cs14x0x0x0).den) (v : (patsTy vs14x0x0x0).den) : α := bif (decide (v.1 ≤ c.2.2.2.2.2.1.2.2.2.2.2.2.1)) then cl (r59).dflt (M59 (c.2.2.2.2.2.1, (c.2.2.2.1, (c.2.2.2.2.1, (v.1, (false, ())))))) (fun u0 => cl (r58).dflt (M58 (c.2.2.2.2.2.1, (u0.1, ()))) (fun u1 => cl (r59).dflt (M59 (c.2.2.2.2.2.1, (c.2.2.2.1, (c.2.2.2.2.1, (v.1, (true, ())))))) (fun u2 => cl (r58).dflt (M58 (c.2.2.2.2.2.1, (u2.1, ()))) (fun u3 => bif (!(decide (u1.2.2.2.1 = (0 : Int)))) then l (.out (.ret (false, ()))) else bif (!(decide (u3.2.2.2.1 = (0 : Int)))) then l (.out (.ret (false, ()))) else bif (!(decide (u1.2.2.1 = u3.2.2.1))) then l (.out (.ret (false, ()))) else bif v.2.1.1 then bif v.2.1.2.1 then bif v.2.1.2.2.1 then bif v.2.1.2.2.2.1 then bif v.2.1.2.2.2.2.1 then bif v.2.1.2.2.2.2.2.1 then l (.next ((W (v.1 + (1 : Int))), ((true, (true, (true, (true, (true, (true, ())))))), ()))) else l (.next ((W (v.1 + (1 : Int))), ((true, (true, (true, (true, (true, ((decide (u1.2.2.1 = c.2.2.2.2.2.2.1.2.2.2.2.2.1)), ())))))), ()))) else bif v.2.1.2.2.2.2.2.1 then l (.next ((W (v.1 + (1 : Int))), ((true, (true, (true, (true, ((decide (u1.2.2.1 = c.2.2.2.2.2.2.1.2.2.2.2.1)), (true, ())))))), ()))) else l (.next ((W (v.1 + (1 : Int))), ((true, (true, (true, (true, ((decide (u1.2.2.1 = c.2.2.2.2.2.2.1.2.2.2.2.1)), ((decide (u1.2.2.1 = c.2.2.2.2.2.2.1.2.2.2.2.2.1)), ())))))), ()))) else bif v.2.1.2.2.2.2.1 then bif v.2.1.2.2.2.2.2.1 then l (.next ((W (v.1 + (1 : Int))), ((true, (true, (true, ((decide (u3.2.1 = c.2.2.2.2.2.2.1.2.2.2.1)), (true, (true, ())))))), ()))) else l (.next ((W (v.1 + (1 : Int))), ((true, (true, (true, ((decide (u3.2.1 = c.2.2.2.2.2.2.1.2.2.2.1)), (true, ((decide (u1.2.2.1 = c.2.2.2.2.2.2.1.2.2.2.2.2.1)), ())))))), ()))) else bif v.2.1.2.2.2.2.2.1 then l (.next ((W (v.1 + (1 : Int))), ((true, (true, (true, ((decide (u3.2.1 = c.2.2.2.2.2.2.1.2.2.2.1)), ((decide (u1.2.2.1 = c.2.2.2.2.2.2.1.2.2.2.2.1)), (true, ())))))), ()))) else l (.next ((W (v.1 + (1 : Int))), ((true, (true, (true, ((decide (u3.2.1 = c.2.2.2.2.2.2.1.2.2.2.1)), ((decide (u1.2.2.1 = c.2.2.2.2.2.2.1.2.2.2.2.1)), ((decide (u1.2.2.1 = c.2.2.2.2.2.2.1.2.2.2.2.2.1)), ())))))), ()))) else bif v.2.1.2.2.2.1 then bif v.2.1.2.2.2.2.1 then bif v.2.1.2.2.2.2.2.1 then l (.next ((W (v.1 + (1 : Int))), ((true, (true, ((decide (u1.2.1 = c.2.2.2.2.2.2.1.2.2.1)), (true, (true, (true, ())))))), ()))) else l (.next ((W (v.1 + (1 : Int))), ((true, (true, ((decide (u1.2.1 = c.2.2.2.2.2.2.1.2.2.1)), (true, (true, ((decide (u1.2.2.1 = c.2.2.2.2.2.2.1.2.2.2.2.2.1)), ())))))), ()))) else bif v.2.1.2.2.2.2.2.1 then l (.next ((W (v.1 + (1 : Int))), ((true, (true, ((decide (u1.2.1 = c.2.2.2.2.2.2.1.2.2.1)), (true, ((decide (u1.2.2.1 = c.2.2.2.2.2.2.1.2.2.2.2.1)), (true, ())))))), ()))) else l (.next ((W (v.1 + (1 : Int))), ((true, (true, ((decide (u1.2.1 = c.2.2.2.2.2.2.1.2.2.1)), (true, ((decide (u1.2.2.1 = c.2.2.2.2.2.2.1.2.2.2.2.1)), ((decide (u1.2.2.1 = c.2.2.2.2.2.2.1.2.2.2.2.2.1)), ())))))), ()))) else bif v.2.1.2.2.2.2.1 then bif v.2.1.2.2.2.2.2.1 then l (.next ((W (v.1 + (1 : Int))), ((true, (true, ((decide (u1.2.1 = c.2.2.2.2.2.2.1.2.2.1)), ((decide (u3.2.1 = c.2.2.2.2.2.2.1.2.2.2.1)), (true, (true, ())))))), ()))) else l (.next ((W (v.1 + (1 : Int))), ((true, (true, ((decide (u1.2.1 = c.2.2.2.2.2.2.1.2.2.1)), ((decide (u3.2.1 = c.2.2.2.2.2.2.1.2.2.2.1)), (true, ((decide (u1.2.2.1 = c.2.2.2.2.2.2.1.2.2.2.2.2.1)), ())))))), ()))) else bif v.2.1.2.2.2.2.2.1 then l (.next ((W (v.1 + (1 : Int))), ((true, (true, ((decide (u1.2.1 = c.2.2.2.2.2.2.1.2.2.1)), ((decide (u3.2.1 = c.2.2.2.2.2.2.1.2.2.2.1)), ((decide (u1.2.2.1 = c.2.2.2.2.2.2.1.2.2.2.2.1)), (true, ())))))), ()))) else l (.next ((W (v.1 + (1 : Int))), ((true, (true, ((decide (u1.2.1 = c.2.2.2.2.2.2.1.2.2.1)), ((decide (u3.2.1 = c.2.2.2.2.2.2.1.2.2.2.1)), ((decide (u1.2.2.1 = c.2.2.2.2.2.2.1.2.2.2.2.1)), ((decide (u1.2.2.1 = c.2.2.2.2.2.2.1.2.2.2.2.2.1)), ())))))), ()))) else bif v.2.1.2.2.1 then bif v.2.1.2.2.2.1 then bif v.2.1.2.2.2.2.1 then bif v.2.1.2.2.2.2.2.1 then l (.next ((W (v.1 + (1 : Int))), ((true, ((decide (u3.1 = c.2.2.2.2.2.2.1.2.1)), (true, (true, (true, (true, ())))))), ()))) else l (.next ((W (v.1 + (1 : Int))), ((true, ((decide (u3.1 = c.2.2.2.2.2.2.1.2.1)), (true, (true, (true, ((decide (u1.2.2.1 = c.2.2.2.2.2.2.1.2.2.2.2.2.1)), ())))))), ()))) else bif v.2.1.2.2.2.2.2.1 then l (.next ((W (v.1 + (1 : Int))), ((true, ((decide (u3.1 = c.2.2.2.2.2.2.1.2.1)), (true, (true, ((decide (u1.2.2.1 = c.2.2.2.2.2.2.1.2.2.2.2.1)), (true, ())))))), ()))) else l (.next ((W (v.1 + (1 : Int))), ((true, ((decide (u3.1 = c.2.2.2.2.2.2.1.2.1)), (true, (true, ((decide (u1.2.2.1 = c.2.2.2.2.2.2.1.2.2.2.2.1)), ((decide (u1.2.2.1 = c.2.2.2.2.2.2.1.2.2.2.2.2.1)), ())))))), ()))) else bif v.2.1.2.2.2.2.1 then bif v.2.1.2.2.2.2.2.1 then l (.next ((W (v.1 + (1 : Int))), ((true, ((decide (u3.1 = c.2.2.2.2.2.2.1.2.1)), (true, ((decide (u3.2.1 = c.2.2.2.2.2.2.1.2.2.2.1)), (true, (true, ())))))), ()))) else l (.next ((W (v.1 + (1 : Int))), ((true, ((decide (u3.1 = c.2.2.2.2.2.2.1.2.1)), (true, ((decide (u3.2.1 = c.2.2.2.2.2.2.1.2.2.2.1)), (true, ((decide (u1.2.2.1 = c.2.2.2.2.2.2.1.2.2.2.2.2.1)), ())))))), ()))) else bif v.2.1.2.2.2.2.2.1 then l (.next ((W (v.1 + (1 : Int))), ((true, ((decide (u3.1 = c.2.2.2.2.2.2.1.2.1)), (true, ((decide (u3.2.1 = c.2.2.2.2.2.2.1.2.2.2.1)), ((decide (u1.2.2.1 = c.2.2.2.2.2.2.1.2.2.2.2.1)), (true, ())))))), ()))) else l (.next ((W (v.1 + (1 : Int))), ((true, ((decide (u3.1 = c.2.2.2.2.2.2.1.2.1)), (true, ((decide (u3.2.1 = c.2.2.2.2.2.2.1.2.2.2.1)), ((decide (u1.2.2.1 = c.2.2.2.2.2.2.1.2.2.2.2.1)), ((decide (u1.2.2.1 = c.2.2.2.2.2.2.1.2.2.2.2.2.1)), ())))))), ()))) else bif v.2.1.2.2.2.1 then bif v.2.1.2.2.2.2.1 then bif v.2.1.2.2.2.2.2.1 then l (.next ((W (v.1 + (1 : Int))), ((true, ((decide (u3.1 = c.2.2.2.2.2.2.1.2.1)), ((decide (u1.2.1 = c.2.2.2.2.2.2.1.2.2.1)), (true, (true, (true, ())))))), ()))) else l (.next ((W (v.1 + (1 : Int))), ((true, ((decide (u3.1 = c.2.2.2.2.2.2.1.2.1)), ((decide (u1.2.1 = c.2.2.2.2.2.2.1.2.2.1)), (true, (true, ((decide (u1.2.2.1 = c.2.2.2.2.2.2.1.2.2.2.2.2.1)), ())))))), ()))) else bif v.2.1.2.2.2.2.2.1 then l (.next ((W (v.1 + (1 : Int))), ((true, ((decide (u3.1 = c.2.2.2.2.2.2.1.2.1)), ((decide (u1.2.1 = c.2.2.2.2.2.2.1.2.2.1)), (true, ((decide (u1.2.2.1 = c.2.2.2.2.2.2.1.2.2.2.2.1)), (true, ())))))), ()))) else l (.next ((W (v.1 + (1 : Int))), ((true, ((decide (u3.1 = c.2.2.2.2.2.2.1.2.1)), ((decide (u1.2.1 = c.2.2.2.2.2.2.1.2.2.1)), (true, ((decide (u1.2.2.1 = c.2.2.2.2.2.2.1.2.2.2.2.1)), ((decide (u1.2.2.1 = c.2.2.2.2.2.2.1.2.2.2.2.2.1)), ())))))), ()))) else bif v.2.1.2.2.2.2.1 then bif v.2.1.2.2.2.2.2.1 then l (.next ((W (v.1 + (1 : Int))), ((true, ((decide (u3.1 = c.2.2.2.2.2.2.1.2.1)), ((decide (u1.2.1 = c.2.2.2.2.2.2.1.2.2.1)), ((decide (u3.2.1 = c.2.2.2.2.2.2.1.2.2.2.1)), (true, (true, ())))))), ()))) else l (.next ((W (v.1 + (1 : Int))), ((true, ((decide (u3.1 = c.2.2.2.2.2.2.1.2.1)), ((decide (u1.2.1 = c.2.2.2.2.2.2.1.2.2.1)), ((decide (u3.2.1 = c.2.2.2.2.2.2.1.2.2.2.1)), (true, ((decide (u1.2.2.1 = c.2.2.2.2.2.2.1.2.2.2.2.2.1)), ())))))), ()))) else bif v.2.1.2.2.2.2.2.1 then l (.next ((W (v.1 + (1 : Int))), ((true, ((decide (u3.1 = c.2.2.2.2.2.2.1.2.1)), ((decide (u1.2.1 = c.2.2.2.2.2.2.1.2.2.1)), ((decide (u3.2.1 = c.2.2.2.2.2.2.1.2.2.2.1)), ((decide (u1.2.2.1 = c.2.2.2.2.2.2.1.2.2.2.2.1)), (true, ())))))), ()))) else l (.next ((W (v.1 + (1 : Int))), ((true, ((decide (u3.1 = c.2.2.2.2.2.2.1.2.1)), ((decide (u1.2.1 = c.2.2.2.2.2.2.1.2.2.1)), ((decide (u3.2.1 = c.2.2.2.2.2.2.1.2.2.2.1)), ((decide (u1.2.2.1 = c.2.2.2.2.2.2.1.2.2.2.2.1)), ((decide (u1.2.2.1 = c.2.2.2.2.2.2.1.2.2.2.2.2.1)), ())))))), ()))) else bif v.2.1.2.1 then bif v.2.1.2.2.1 then bif v.2.1.2.2.2.1 then bif v.2.1.2.2.2.2.1 then bif v.2.1.2.2.2.2.2.1 then l (.next ((W (v.1 + (1 : Int))), (((decide (u1.1 = c.2.2.2.2.2.2.1.1)), (true, (true, (true, (true, (true, ())))))), ()))) else l (.next ((W (v.1 + (1 : Int))), (((decide (u1.1 = c.2.2.2.2.2.2.1.1)), (true, (true, (true, (true, ((decide (u1.2.2.1 = c.2.2.2.2.2.2.1.2.2.2.2.2.1)), ())))))), ()))) else bif v.2.1.2.2.2.2.2.1 then l (.next ((W (v.1 + (1 : Int))), (((decide (u1.1 = c.2.2.2.2.2.2.1.1)), (true, (true, (true, ((decide (u1.2.2.1 = c.2.2.2.2.2.2.1.2.2.2.2.1)), (true, ())))))), ()))) else l (.next ((W (v.1 + (1 : Int))), (((decide (u1.1 = c.2.2.2.2.2.2.1.1)), (true, (true, (true, ((decide (u1.2.2.1 = c.2.2.2.2.2.2.1.2.2.2.2.1)), ((decide (u1.2.2.1 = c.2.2.2.2.2.2.1.2.2.2.2.2.1)), ())))))), ()))) else bif v.2.1.2.2.2.2.1 then bif v.2.1.2.2.2.2.2.1 then l (.next ((W (v.1 + (1 : Int))), (((decide (u1.1 = c.2.2.2.2.2.2.1.1)), (true, (true, ((decide (u3.2.1 = c.2.2.2.2.2.2.1.2.2.2.1)), (true, (true, ())))))), ()))) else l (.next ((W (v.1 + (1 : Int))), (((decide (u1.1 = c.2.2.2.2.2.2.1.1)), (true, (true, ((decide (u3.2.1 = c.2.2.2.2.2.2.1.2.2.2.1)), (true, ((decide (u1.2.2.1 = c.2.2.2.2.2.2.1.2.2.2.2.2.1)), ())))))), ()))) else bif v.2.1.2.2.2.2.2.1 then l (.next ((W (v.1 + (1 : Int))), (((decide (u1.1 = c.2.2.2.2.2.2.1.1)), (true, (true, ((decide (u3.2.1 = c.2.2.2.2.2.2.1.2.2.2.1)), ((decide (u1.2.2.1 = c.2.2.2.2.2.2.1.2.2.2.2.1)), (true, ())))))), ()))) else l (.next ((W (v.1 + (1 : Int))), (((decide (u1.1 = c.2.2.2.2.2.2.1.1)), (true, (true, ((decide (u3.2.1 = c.2.2.2.2.2.2.1.2.2.2.1)), ((decide (u1.2.2.1 = c.2.2.2.2.2.2.1.2.2.2.2.1)), ((decide (u1.2.2.1 = c.2.2.2.2.2.2.1.2.2.2.2.2.1)), ())))))), ()))) else bif v.2.1.2.2.2.1 then bif v.2.1.2.2.2.2.1 then bif v.2.1.2.2.2.2.2.1 then l (.next ((W (v.1 + (1 : Int))), (((decide (u1.1 = c.2.2.2.2.2.2.1.1)), (true, ((decide (u1.2.1 = c.2.2.2.2.2.2.1.2.2.1)), (true, (true, (true, ())))))), ()))) else l (.next ((W (v.1 + (1 : Int))), (((decide (u1.1 = c.2.2.2.2.2.2.1.1)), (true, ((decide (u1.2.1 = c.2.2.2.2.2.2.1.2.2.1)), (true, (true, ((decide (u1.2.2.1 = c.2.2.2.2.2.2.1.2.2.2.2.2.1)), ())))))), ()))) else bif v.2.1.2.2.2.2.2.1 then l (.next ((W (v.1 + (1 : Int))), (((decide (u1.1 = c.2.2.2.2.2.2.1.1)), (true, ((decide (u1.2.1 = c.2.2.2.2.2.2.1.2.2.1)), (true, ((decide (u1.2.2.1 = c.2.2.2.2.2.2.1.2.2.2.2.1)), (true, ())))))), ()))) else l (.next ((W (v.1 + (1 : Int))), (((decide (u1.1 = c.2.2.2.2.2.2.1.1)), (true, ((decide (u1.2.1 = c.2.2.2.2.2.2.1.2.2.1)), (true, ((decide (u1.2.2.1 = c.2.2.2.2.2.2.1.2.2.2.2.1)), ((decide (u1.2.2.1 = c.2.2.2.2.2.2.1.2.2.2.2.2.1)), ())))))), ()))) else bif v.2.1.2.2.2.2.1 then bif v.2.1.2.2.2.2.2.1 then l (.next ((W (v.1 + (1 : Int))), (((decide (u1.1 = c.2.2.2.2.2.2.1.1)), (true, ((decide (u1.2.1 = c.2.2.2.2.2.2.1.2.2.1)), ((decide (u3.2.1 = c.2.2.2.2.2.2.1.2.2.2.1)), (true, (true, ())))))), ()))) else l (.next ((W (v.1 + (1 : Int))), (((decide (u1.1 = c.2.2.2.2.2.2.1.1)), (true, ((decide (u1.2.1 = c.2.2.2.2.2.2.1.2.2.1)), ((decide (u3.2.1 = c.2.2.2.2.2.2.1.2.2.2.1)), (true, ((decide (u1.2.2.1 = c.2.2.2.2.2.2.1.2.2.2.2.2.1)), ())))))), ()))) else bif v.2.1.2.2.2.2.2.1 then l (.next ((W (v.1 + (1 : Int))), (((decide (u1.1 = c.2.2.2.2.2.2.1.1)), (true, ((decide (u1.2.1 = c.2.2.2.2.2.2.1.2.2.1)), ((decide (u3.2.1 = c.2.2.2.2.2.2.1.2.2.2.1)), ((decide (u1.2.2.1 = c.2.2.2.2.2.2.1.2.2.2.2.1)), (true, ())))))), ()))) else l (.next ((W (v.1 + (1 : Int))), (((decide (u1.1 = c.2.2.2.2.2.2.1.1)), (true, ((decide (u1.2.1 = c.2.2.2.2.2.2.1.2.2.1)), ((decide (u3.2.1 = c.2.2.2.2.2.2.1.2.2.2.1)), ((decide (u1.2.2.1 = c.2.2.2.2.2.2.1.2.2.2.2.1)), ((decide (u1.2.2.1 = c.2.2.2.2.2.2.1.2.2.2.2.2.1)), ())))))), ()))) else bif v.2.1.2.2.1 then bif v.2.1.2.2.2.1 then bif v.2.1.2.2.2.2.1 then bif v.2.1.2.2.2.2.2.1 then l (.next ((W (v.1 + (1 : Int))), (((decide (u1.1 = c.2.2.2.2.2.2.1.1)), ((decide (u3.1 = c.2.2.2.2.2.2.1.2.1)), (true, (true, (true, (true, ())))))), ()))) else l (.next ((W (v.1 + (1 : Int))), (((decide (u1.1 = c.2.2.2.2.2.2.1.1)), ((decide (u3.1 = c.2.2.2.2.2.2.1.2.1)), (true, (true, (true, ((decide (u1.2.2.1 = c.2.2.2.2.2.2.1.2.2.2.2.2.1)), ())))))), ()))) else bif v.2.1.2.2.2.2.2.1 then l (.next ((W (v.1 + (1 : Int))), (((decide (u1.1 = c.2.2.2.2.2.2.1.1)), ((decide (u3.1 = c.2.2.2.2.2.2.1.2.1)), (true, (true, ((decide (u1.2.2.1 = c.2.2.2.2.2.2.1.2.2.2.2.1)), (true, ())))))), ()))) else l (.next ((W (v.1 + (1 : Int))), (((decide (u1.1 = c.2.2.2.2.2.2.1.1)), ((decide (u3.1 = c.2.2.2.2.2.2.1.2.1)), (true, (true, ((decide (u1.2.2.1 = c.2.2.2.2.2.2.1.2.2.2.2.1)), ((decide (u1.2.2.1 = c.2.2.2.2.2.2.1.2.2.2.2.2.1)), ())))))), ()))) else bif v.2.1.2.2.2.2.1 then bif v.2.1.2.2.2.2.2.1 then l (.next ((W (v.1 + (1 : Int))), (((decide (u1.1 = c.2.2.2.2.2.2.1.1)), ((decide (u3.1 = c.2.2.2.2.2.2.1.2.1)), (true, ((decide (u3.2.1 = c.2.2.2.2.2.2.1.2.2.2.1)), (true, (true, ())))))), ()))) else l (.next ((W (v.1 + (1 : Int))), (((decide (u1.1 = c.2.2.2.2.2.2.1.1)), ((decide (u3.1 = c.2.2.2.2.2.2.1.2.1)), (true, ((decide (u3.2.1 = c.2.2.2.2.2.2.1.2.2.2.1)), (true, ((decide (u1.2.2.1 = c.2.2.2.2.2.2.1.2.2.2.2.2.1)), ())))))), ()))) else bif v.2.1.2.2.2.2.2.1 then l (.next ((W (v.1 + (1 : Int))), (((decide (u1.1 = c.2.2.2.2.2.2.1.1)), ((decide (u3.1 = c.2.2.2.2.2.2.1.2.1)), (true, ((decide (u3.2.1 = c.2.2.2.2.2.2.1.2.2.2.1)), ((decide (u1.2.2.1 = c.2.2.2.2.2.2.1.2.2.2.2.1)), (true, ())))))), ()))) else l (.next ((W (v.1 + (1 : Int))), (((decide (u1.1 = c.2.2.2.2.2.2.1.1)), ((decide (u3.1 = c.2.2.2.2.2.2.1.2.1)), (true, ((decide (u3.2.1 = c.2.2.2.2.2.2.1.2.2.2.1)), ((decide (u1.2.2.1 = c.2.2.2.2.2.2.1.2.2.2.2.1)), ((decide (u1.2.2.1 = c.2.2.2.2.2.2.1.2.2.2.2.2.1)), ())))))), ()))) else bif v.2.1.2.2.2.1 then bif v.2.1.2.2.2.2.1 then bif v.2.1.2.2.2.2.2.1 then l (.next ((W (v.1 + (1 : Int))), (((decide (u1.1 = c.2.2.2.2.2.2.1.1)), ((decide (u3.1 = c.2.2.2.2.2.2.1.2.1)), ((decide (u1.2.1 = c.2.2.2.2.2.2.1.2.2.1)), (true, (true, (true, ())))))), ()))) else l (.next ((W (v.1 + (1 : Int))), (((decide (u1.1 = c.2.2.2.2.2.2.1.1)), ((decide (u3.1 = c.2.2.2.2.2.2.1.2.1)), ((decide (u1.2.1 = c.2.2.2.2.2.2.1.2.2.1)), (true, (true, ((decide (u1.2.2.1 = c.2.2.2.2.2.2.1.2.2.2.2.2.1)), ())))))), ()))) else bif v.2.1.2.2.2.2.2.1 then l (.next ((W (v.1 + (1 : Int))), (((decide (u1.1 = c.2.2.2.2.2.2.1.1)), ((decide (u3.1 = c.2.2.2.2.2.2.1.2.1)), ((decide (u1.2.1 = c.2.2.2.2.2.2.1.2.2.1)), (true, ((decide (u1.2.2.1 = c.2.2.2.2.2.2.1.2.2.2.2.1)), (true, ())))))), ()))) else l (.next ((W (v.1 + (1 : Int))), (((decide (u1.1 = c.2.2.2.2.2.2.1.1)), ((decide (u3.1 = c.2.2.2.2.2.2.1.2.1)), ((decide (u1.2.1 = c.2.2.2.2.2.2.1.2.2.1)), (true, ((decide (u1.2.2.1 = c.2.2.2.2.2.2.1.2.2.2.2.1)), ((decide (u1.2.2.1 = c.2.2.2.2.2.2.1.2.2.2.2.2.1)), ())))))), ()))) else bif v.2.1.2.2.2.2.1 then bif v.2.1.2.2.2.2.2.1 then l (.next ((W (v.1 + (1 : Int))), (((decide (u1.1 = c.2.2.2.2.2.2.1.1)), ((decide (u3.1 = c.2.2.2.2.2.2.1.2.1)), ((decide (u1.2.1 = c.2.2.2.2.2.2.1.2.2.1)), ((decide (u3.2.1 = c.2.2.2.2.2.2.1.2.2.2.1)), (true, (true, ())))))), ()))) else l (.next ((W (v.1 + (1 : Int))), (((decide (u1.1 = c.2.2.2.2.2.2.1.1)), ((decide (u3.1 = c.2.2.2.2.2.2.1.2.1)), ((decide (u1.2.1 = c.2.2.2.2.2.2.1.2.2.1)), ((decide (u3.2.1 = c.2.2.2.2.2.2.1.2.2.2.1)), (true, ((decide (u1.2.2.1 = c.2.2.2.2.2.2.1.2.2.2.2.2.1)), ())))))), ()))) else bif v.2.1.2.2.2.2.2.1 then l (.next ((W (v.1 + (1 : Int))), (((decide (u1.1 = c.2.2.2.2.2.2.1.1)), ((decide (u3.1 = c.2.2.2.2.2.2.1.2.1)), ((decide (u1.2.1 = c.2.2.2.2.2.2.1.2.2.1)), ((decide (u3.2.1 = c.2.2.2.2.2.2.1.2.2.2.1)), ((decide (u1.2.2.1 = c.2.2.2.2.2.2.1.2.2.2.2.1)), (true, ())))))), ()))) else l (.next ((W (v.1 + (1 : Int))), (((decide (u1.1 = c.2.2.2.2.2.2.1.1)), ((decide (u3.1 = c.2.2.2.2.2.2.1.2.1)), ((decide (u1.2.1 = c.2.2.2.2.2.2.1.2.2.1)), ((decide (u3.2.1 = c.2.2.2.2.2.2.1.2.2.2.1)), ((decide (u1.2.2.1 = c.2.2.2.2.2.2.1.2.2.2.2.1)), ((decide (u1.2.2.1 = c.2.2.2.2.2.2.1.2.2.2.2.2.1)), ())))))), ())))) (l .bad)) (l .bad)) (l .bad)) (l .bad) else l (.out (.exit 4 (v.2.1, ())))
theorem z14x0x0x0 (c : (patsTy cs14x0x0x0).den) (v : (patsTy vs14x0x0x0).den) : roundQ Try.prog E0 G14 0 214 [] ps14x0x0x0 wy14x0x0x0 b14x0x0x0 [] (j14x0x0x0 c v) = Z14x0x0x0 (fun r => .leaf (r.lift j14x0x0x0 je14x0x0x0 jr14x0x0x0 jp14x0x0x0 c)) .any c v := by kernel_rfl
def S14x0x0x0 (c : (patsTy cs14x0x0x0).den) (v : (patsTy vs14x0x0x0).den) : RQ vs14x0x0x0 wv14x0x0x0 := Z14x0x0x0 (fun r => r) (fun _ _ => .bad) c v
theorem s14x0x0x0 (c : (patsTy cs14x0x0x0).den) (v : (patsTy vs14x0x0x0).den) : detQ (roundQ Try.prog E0 G14 0 214 [] ps14x0x0x0 wy14x0x0x0 b14x0x0x0 [] (j14x0x0x0 c v)) = (S14x0x0x0 c v).lift j14x0x0x0 je14x0x0x0 jr14x0x0x0 jp14x0x0x0 c := by rw [z14x0x0x0]; unfold S14x0x0x0 Z14x0x0x0; simp only [detQ_cond, lift_cond, lift_bad, detQ, detQ_cl, detQ_onExit, detQ_onRet, detQ_onPanL, detQ_onNext, detQ_onBrk, detQ_onRetO, detQ_onPan, detQ_onOk, detQ_onGPan, lift_cl, lift_onExit, lift_onRet, lift_onPanL, lift_onNext, lift_onBrk, lift_onRetO, lift_onPan, lift_onOk, lift_onGPan]
def L14x0x0x0 (c : (patsTy cs14x0x0x0).den) (v : (patsTy vs14x0x0x0).den) : LQ wv14x0x0x0 := iterQ (S14x0x0x0 c) big v
theorem lo14x0x0 : loopsOf (b14x0x0) = [.loop b14x0x0x0] := by kernel_rfl
abbrev cs14x0x0 : List Pat := [.slot 2 (.ptr 2), .slot 5 (.ptr 433), .slot 11 (.ptr 1081), .slot 12 (.pc tI), .box 2 [.pc (.sl T9), .pc tI, .pc tI, .pc tI, .pc tI, .pc tI, .pc tI, .pc tI, .pc tI, .pc tI, .pc tI, .pc tI, .pc tI], .box 433 [.pc tI, .pc tI, .pc tI, .pc tI, .pc tI, .pc tI]]
abbrev vs14x0x0 : List Pat := [.slot 13 (.pc tI), .box 1081 [.pc .bool, .pc .bool, .pc .bool, .pc .bool, .pc .bool, .pc .bool]]
abbrev ps14x0x0 : List Pat := [.slot 2 (.ptr 2), .slot 5 (.ptr 433), .slot 11 (.ptr 1081), .slot 12 (.pc tI), .box 2 [.pc (.sl T9), .pc tI, .pc tI, .pc tI, .pc tI, .pc tI, .pc tI, .pc tI, .pc tI, .pc tI, .pc tI, .pc tI, .pc tI], .box 433 [.pc tI, .pc tI, .pc tI, .pc tI, .pc tI, .pc tI], .slot 13 (.pc tI), .box 1081 [.pc .bool, .pc .bool, .pc .bool, .pc .bool, .pc .bool, .pc .bool]]
def j14x0x0 : (patsTy cs14x0x0).den → (patsTy vs14x0x0).den → (patsTy ps14x0x0).den := fun c v => (c.1, (c.2.1, (c.2.2.1, (c.2.2.2.1, (c.2.2.2.2.1, (c.2.2.2.2.2.1, v))))))
def sp14x0x0 : (patsTy ps14x0x0).den → (patsTy cs14x0x0).den × (patsTy vs14x0x0).den := fun x => ((x.1, (x.2.1, (x.2.2.1, (x.2.2.2.1, (x.2.2.2.2.1, (x.2.2.2.2.2.1, ())))))), x.2.2.2.2.2.2)
abbrev wy14x0x0 : Ways := ⟨[(2, [.slot 2 (.ptr 2), .slot 5 (.ptr 433), .slot 11 (.ptr 1081), .slot 12 (.pc tI), .box 2 [.pc (.sl T9), .pc tI, .pc tI, .pc tI, .pc tI, .pc tI, .pc tI, .pc tI, .pc tI, .pc tI, .pc tI, .pc tI, .pc tI], .box 433 [.pc tI, .pc tI, .pc tI, .pc tI, .pc tI, .pc tI], .box 1081 [.pc .bool, .pc .bool, .pc .bool, .pc .bool, .pc .bool, .pc .bool]])], [.slot 4 (.pc .bool)], []⟩
abbrev wv14x0x0 : Ways := ⟨[(2, [.box 1081 [.pc .bool, .pc .bool, .pc .bool, .pc .bool, .pc .bool, .pc .bool]])], [.slot 4 (.pc .bool)], []⟩
def je14x0x0 : (id : Nat) → (patsTy cs14x0x0).den → (patsTy (wayP wv14x0x0 id)).den → (patsTy (wayP wy14x0x0 id)).den := fun id => match id with | 2 => fun c y => (c.1, (c.2.1, (c.2.2.1, (c.2.2.2.1, (c.2.2.2.2.1, (c.2.2.2.2.2.1, y)))))) | id => fun _ _ => (patsTy (wayP wy14x0x0 id)).dflt
def jr14x0x0 : (patsTy cs14x0x0).den → (patsTy (wv14x0x0).ret).den → (patsTy (wy14x0x0).ret).den := fun c y => y
def jp14x0x0 : (patsTy cs14x0x0).den → (patsTy (wv14x0x0).pan).den → (patsTy (wy14x0x0).pan).den := fun c y => y
def Z14x0x0 {α : Type} (l : RQ vs14x0x0 wv14x0x0 → α) (an : α → α → α) (c : (patsTy cs14x0x0).den) (v : (patsTy vs14x0x0).den) : α := bif (decide (v.1 ≤ c.2.2.2.2.1.2.2.2.2.1)) then onExit (L14x0x0x0 ((), ((), ((), (c.2.2.2.1, (v.1, (c.2.2.2.2.1, (c.2.2.2.2.2.1, ()))))))) (c.2.2.2.2.1.2.2.2.2.2.1, (v.2.1, ()))) 4 (fun u4 => l (.next ((W (v.1 + (1 : Int))), (u4.1, ())))) (onRet (L14x0x0x0 ((), ((), ((), (c.2.2.2.1, (v.1, (c.2.2.2.2.1, (c.2.2.2.2.2.1, ()))))))) (c.2.2.2.2.1.2.2.2.2.2.1, (v.2.1, ()))) (fun u5 => l (.out (.ret u5))) (l .bad)) else l (.out (.exit 2 (v.2.1, ())))
theorem z14x0x0 (c : (patsTy cs14x0x0).den) (v : (patsTy vs14x0x0).den) : roundQ Try.prog E0 G14 0 214 [] ps14x0x0 wy14x0x0 b14x0x0 [.known (loopZ 0 [] ps14x0x0x0 fun x => spreadV wy14x0x0x0 je14x0x0x0 jr14x0x0x0 jp14x0x0x0 [] true (sp14x0x0x0 x).1 (L14x0x0x0 (sp14x0x0x0 x).1 (sp14x0x0x0 x).2) wy14x0x0x0.exits)] (j14x0x0 c v) = Z14x0x0 (fun r => .leaf (r.lift j14x0x0 je14x0x0 jr14x0x0 jp14x0x0 c)) .any c v := by kernel_rfl
def S14x0x0 (c : (patsTy cs14x0x0).den) (v : (patsTy vs14x0x0).den) : RQ vs14x0x0 wv14x0x0 := Z14x0x0 (fun r => r) (fun _ _ => .bad) c v
theorem s14x0x0 (c : (patsTy cs14x0x0).den) (v : (patsTy vs14x0x0).den) : detQ (roundQ Try.prog E0 G14 0 214 [] ps14x0x0 wy14x0x0 b14x0x0 [.known (loopZ 0 [] ps14x0x0x0 fun x => spreadV wy14x0x0x0 je14x0x0x0 jr14x0x0x0 jp14x0x0x0 [] true (sp14x0x0x0 x).1 (L14x0x0x0 (sp14x0x0x0 x).1 (sp14x0x0x0 x).2) wy14x0x0x0.exits)] (j14x0x0 c v)) = (S14x0x0 c v).lift j14x0x0 je14x0x0 jr14x0x0 jp14x0x0 c := by rw [z14x0x0]; unfold S14x0x0 Z14x0x0; simp only [detQ_cond, lift_cond, lift_bad, detQ, detQ_cl, detQ_onExit, detQ_onRet, detQ_onPanL, detQ_onNext, detQ_onBrk, detQ_onRetO, detQ_onPan, detQ_onOk, detQ_onGPan, lift_cl, lift_onExit, lift_onRet, lift_onPanL, lift_onNext, lift_onBrk, lift_onRetO, lift_onPan, lift_onOk, lift_onGPan]
def L14x0x0 (c : (patsTy cs14x0x0).den) (v : (patsTy vs14x0x0).den) : LQ wv14x0x0 := iterQ (S14x0x0 c) big v
theorem lo14x0 : loopsOf (b14x0) = [.loop b14x0x0] := by kernel_rfl
abbrev cs14x0 : List Pat := [.slot 2 (.ptr 2), .slot 5 (.ptr 433), .slot 11 (.ptr 1081), .box 2 [.pc (.sl T9), .pc tI, .pc tI, .pc tI, .pc tI, .pc tI, .pc tI, .pc tI, .pc tI, .pc tI, .pc tI, .pc tI, .pc tI], .box 433 [.pc tI, .pc tI, .pc tI, .pc tI, .pc tI, .pc tI]]
abbrev vs14x0 : List Pat := [.slot 12 (.pc tI), .box 1081 [.pc .bool, .pc .bool, .pc .bool, .pc .bool, .pc .bool, .pc .bool]]
abbrev ps14x0 : List Pat := [.slot 2 (.ptr 2), .slot 5 (.ptr 433), .slot 11 (.ptr 1081), .box 2 [.pc (.sl T9), .pc tI, .pc tI, .pc tI, .pc tI, .pc tI, .pc tI, .pc tI, .pc tI, .pc tI, .pc tI, .pc tI, .pc tI], .box 433 [.pc tI, .pc tI, .pc tI, .pc tI, .pc tI, .pc tI], .slot 12 (.pc tI), .box 1081 [.pc .bool, .pc .bool, .pc .bool, .pc .bool, .pc .bool, .pc .bool]]
def j14x0 : (patsTy cs14x0).den → (patsTy vs14x0).den → (patsTy ps14x0).den := fun c v => (c.1, (c.2.1, (c.2.2.1, (c.2.2.2.1, (c.2.2.2.2.1, v)))))
def sp14x0 : (patsTy ps14x0).den → (patsTy cs14x0).den × (patsTy vs14x0).den := fun x => ((x.1, (x.2.1, (x.2.2.1, (x.2.2.2.1, (x.2.2.2.2.1, ()))))), x.2.2.2.2.2)
abbrev wy14x0 : Ways := ⟨[(0, [.slot 11 (.ptr 1081), .box 1081 [.pc .bool, .pc .bool, .pc .bool, .pc .bool, .pc .bool, .pc .bool]])], [.slot 4 (.pc .bool)], []⟩
abbrev wv14x0 : Ways := ⟨[(0, [.box 1081 [.pc .bool, .pc .bool, .pc .bool, .pc .bool, .pc .bool, .pc .bool]])], [.slot 4 (.pc .bool)], []⟩
def je14x0 : (id : Nat) → (patsTy cs14x0).den → (patsTy (wayP wv14x0 id)).den → (patsTy (wayP wy14x0 id)).den := fun id => match id with | 0 => fun c y => (c.2.2.1, y) | id => fun _ _ => (patsTy (wayP wy14x0 id)).dflt
def jr14x0 : (patsTy cs14x0).den → (patsTy (wv14x0).ret).den → (patsTy (wy14x0).ret).den := fun c y => y
def jp14x0 : (patsTy cs14x0).den → (patsTy (wv14x0).pan).den → (patsTy (wy14x0).pan).den := fun c y => y
def Z14x0 {α : Type} (l : RQ vs14x0 wv14x0 → α) (an : α → α → α) (c : (patsTy cs14x0).den) (v : (patsTy vs14x0).den) : α := bif (decide (v.1 ≤ c.2.2.2.1.2.2.1)) then onExit (L14x0x0 ((), ((), ((), (v.1, (c.2.2.2.1, (c.2.2.2.2.1, ())))))) (c.2.2.2.1.2.2.2.1, (v.2.1, ()))) 2 (fun u6 => l (.next ((W (v.1 + (1 : Int))), (u6.1, ())))) (onRet (L14x0x0 ((), ((), ((), (v.1, (c.2.2.2.1, (c.2.2.2.2.1, ())))))) (c.2.2.2.1.2.2.2.1, (v.2.1, ()))) (fun u7 => l (.out (.ret u7))) (l .bad)) else l (.out (.exit 0 (v.2.1, ())))
theorem z14x0 (c : (patsTy cs14x0).den) (v : (patsTy vs14x0).den) : roundQ Try.prog E0 G14 0 214 [] ps14x0 wy14x0 b14x0 [.known (loopZ 0 [] ps14x0x0 fun x => spreadV wy14x0x0 je14x0x0 jr14x0x0 jp14x0x0 [] true (sp14x0x0 x).1 (L14x0x0 (sp14x0x0 x).1 (sp14x0x0 x).2) wy14x0x0.exits)] (j14x0 c v) = Z14x0 (fun r => .leaf (r.lift j14x0 je14x0 jr14x0 jp14x0 c)) .any c v := by kernel_rfl
def S14x0 (c : (patsTy cs14x0).den) (v : (patsTy vs14x0).den) : RQ vs14x0 wv14x0 := Z14x0 (fun r => r) (fun _ _ => .bad) c v
theorem s14x0 (c : (patsTy cs14x0).den) (v : (patsTy vs14x0).den) : detQ (roundQ Try.prog E0 G14 0 214 [] ps14x0 wy14x0 b14x0 [.known (loopZ 0 [] ps14x0x0 fun x => spreadV wy14x0x0 je14x0x0 jr14x0x0 jp14x0x0 [] true (sp14x0x0 x).1 (L14x0x0 (sp14x0x0 x).1 (sp14x0x0 x).2) wy14x0x0.exits)] (j14x0 c v)) = (S14x0 c v).lift j14x0 je14x0 jr14x0 jp14x0 c := by rw [z14x0]; unfold S14x0 Z14x0; simp only [detQ_cond, lift_cond, lift_bad, detQ, detQ_cl, detQ_onExit, detQ_onRet, detQ_onPanL, detQ_onNext, detQ_onBrk, detQ_onRetO, detQ_onPan, detQ_onOk, detQ_onGPan, lift_cl, lift_onExit, lift_onRet, lift_onPanL, lift_onNext, lift_onBrk, lift_onRetO, lift_onPan, lift_onOk, lift_onGPan]
def L14x0 (c : (patsTy cs14x0).den) (v : (patsTy vs14x0).den) : LQ wv14x0 := iterQ (S14x0 c) big v
theorem lo14 : loopsOf (c14) = [.loop b14x0] := by kernel_rfl
noncomputable def l14 : List Loop := [.known (loopZ 0 [] ps14x0 fun x => spreadV wy14x0 je14x0 jr14x0 jp14x0 [] true (sp14x0 x).1 (L14x0 (sp14x0 x).1 (sp14x0 x).2) wy14x0.exits)]
def Q14 {α : Type} (l : Option (r14).den → α) (an : α → α → α) (x : (a14).den) : α := cl (r27).dflt (M27 (x.1, ())) (fun u8 => bif (!u8.1) then cl (r19).dflt (M19 ()) (fun u9 => l (some u9)) (l none) else cl (r56).dflt (M56 (x.2.1, ())) (fun u10 => bif (!u10.1) then cl (r19).dflt (M19 ()) (fun u11 => l (some u11)) (l none) else cl (r38).dflt (M38 (x.1, ())) (fun u12 => bif (!u12.1) then cl (r19).dflt (M19 ()) (fun u13 => l (some u13)) (l none) else cl (r57).dflt (M57 (x.1, (x.2.1, ()))) (fun u14 => bif (!u14.1) then cl (r19).dflt (M19 ()) (fun u15 => l (some u15)) (l none) else cl (r48).dflt (M48 (x.1, ())) (fun u16 => cl (r58).dflt (M58 (x.1, (x.2.1, ()))) (fun u17 => bif (!(decide (u16.2.1 = (0 : Int)))) then l (some (false, ())) else bif (!(decide (u17.2.2.2.1 = (0 : Int)))) then l (some (false, ())) else cl (r45).dflt (M45 (u17.1, ((u16.1.1, (u16.1.2.1, ())), ()))) (fun u18 => bif (!u18.1) then l (some (false, ())) else cl (r45).dflt (M45 (u17.2.1, ((u16.1.2.2.1, (u16.1.2.2.2.1, ())), ()))) (fun u19 => bif (!u19.1) then l (some (false, ())) else cl (r45).dflt (M45 (u17.2.2.1, (u16.1.2.2.2.2, ()))) (fun u20 => bif (!u20.1) then l (some (false, ())) else onExit (L14x0 ((), ((), ((), (x.1, (u16.1, ()))))) (x.1.2.1, ((false, (false, (false, (false, (false, (false, ())))))), ()))) 0 (fun u21 => bif ((u21.1.1 == true) && ((u21.1.2.1 == true) && ((u21.1.2.2.1 == true) && ((u21.1.2.2.2.1 == true) && ((u21.1.2.2.2.2.1 == true) && ((u21.1.2.2.2.2.2.1 == true) && true)))))) then cl (r19).dflt (M19 ()) (fun u22 => l (some u22)) (l none) else l (some (false, ()))) (onRet (L14x0 ((), ((), ((), (x.1, (u16.1, ()))))) (x.1.2.1, ((false, (false, (false, (false, (false, (false, ())))))), ()))) (fun u23 => l (some u23)) (l none))) (l none)) (l none)) (l none)) (l none)) (l none)) (l none)) (l none)) (l none)) (l none)
theorem q14 (x : (a14).den) : runFn Try.prog E0 G14 Try.f14 l14 a14 r14 x = Q14 .leaf .any x := by kernel_rfl
def M14 (x : (a14).den) : Option (r14).den := Q14 (fun r => r) (fun _ _ => none) x
theorem m14 (x : (a14).den) : (runFn Try.prog E0 G14 Try.f14 l14 a14 r14 x).sure = M14 x := by rw [q14]; unfold M14 Q14; simp only [sure_cond, Tree.sure, sure_cl, sure_onExit, sure_onRet, sure_onPanL, sure_onNext, sure_onBrk, sure_onRetO, sure_onPan, sure_onOk, sure_onGPan]
def p14 (x : (a14).den) : Bool := (M14 x).isSome
def v14 (x : (a14).den) : (r14).den := (M14 x).getD (r14).dflt
def k14 : Con := ⟨a14, r14, p14, v14⟩
theorem h14 : Holds Try.prog 14 k14 := holds_of_M' (E := E0) follows_ok g14 eqTy_sound keyTy_sound at14 bd14 (by kernel_rfl) m14 fun G' hlo hF hE => LsOK_kn (by rw [lo14]; exact .cons (loopV_ok hE hF hlo (LsOK_kn (by rw [lo14x0]; exact .cons (loopV_ok hE hF hlo (LsOK_kn (by rw [lo14x0x0]; exact .cons (loopV_ok hE hF hlo (LsOK_kn (by rw [lo14x0x0x0]; exact .nil)) (by kernel_rfl) (by kernel_rfl) sp14x0x0x0 (fun _ => rfl) (fun _ _ => rfl) (s14x0x0x0) big) (.nil))) (by kernel_rfl) (by kernel_rfl) sp14x0x0 (fun _ => rfl) (fun _ _ => rfl) (s14x0x0) big) (.nil))) (by kernel_rfl) (by kernel_rfl) sp14x0 (fun _ => rfl) (fun _ _ => rfl) (s14x0) big) (.nil))
abbrev T137 : Ty := (.cons T71 T114)
abbrev T138 : Ty := (.cons T42 T137)
abbrev T139 : Ty := (.cons T39 T1)
abbrev T140 : Ty := (.cons T11 T139)
abbrev T141 : Ty := (.cons T42 T140)

end Go.Dm

/-
  Each function of the program as a Lean function, and that its calls come to what that says.
-/
import Derived.Test.YtlfgdpjompacjaaFwD
import Derived.Test.YtlfgdpjompacjaaProg
set_option linter.unusedVariables false
set_option linter.unusedSimpArgs false
namespace Go.Dm
open Go.RowKit Go.Proofs
noncomputable def E0 : TCtx := { eq := eqTy Try.prog, key := keyTy Try.prog, dfr := true }
abbrev tI : Ty := .int .i64
theorem follows_ok : Try.prog.follows .mixedOrders = true := by kernel_rfl
set_option maxRecDepth 100000
abbrev tII : Ty := .cons tI (.cons tI .nil)
abbrev tL : Ty := .sl (.cons tI .nil)
abbrev fl16 : List CPat := [.pc (.sl (.cons tI (.cons tI (.cons tI (.cons tI (.cons tI .nil)))))), .pc tI, .pc tI, .pc tI, .pc tI, .pc tI, .pc tI, .pc tI, .pc tI, .pc tI, .pc tI, .pc tI, .pc tI, .pc tI, .pc tI, .pc tI]
/-- isobar/kite.in -/
noncomputable def c102 : Code := Try.f102.body.getD .skip
theorem at102 : Try.prog.funcs[102]? = some Try.f102 := by kernel_rfl
theorem bd102 : Try.f102.body = some c102 := by kernel_rfl
theorem cl102 : Callable Try.prog 102 := callable_of at102 (by kernel_rfl) (by kernel_rfl)
abbrev T0 : Ty := (.cons tI .nil)
abbrev T1 : Ty := (.cons tI T0)
abbrev T2 : Ty := (.cons tI T1)
abbrev T3 : Ty := (.cons .bool .nil)
abbrev a102 : Ty := T2
abbrev r102 : Ty := T3
noncomputable def G102 : Ctx := Ctx.of []
theorem g102 : Sound Try.prog (G102) := sound_of (fun _ h => by cases h)
theorem lo102 : loopsOf (c102) = [] := by kernel_rfl
noncomputable def l102 : List Loop := []
def Q102 {α : Type} (l : Option (r102).den → α) (an : α → α → α) (x : (a102).den) : α := bif (decide (x.2.1 ≤ x.1)) then l (some ((decide (x.1 ≤ x.2.2.1)), ())) else l (some (false, ()))
theorem q102 (x : (a102).den) : runFn Try.prog E0 G102 Try.f102 l102 a102 r102 x = Q102 .leaf .any x := by kernel_rfl
def M102 (x : (a102).den) : Option (r102).den := Q102 (fun r => r) (fun _ _ => none) x
theorem m102 (x : (a102).den) : (runFn Try.prog E0 G102 Try.f102 l102 a102 r102 x).sure = M102 x := by rw [q102]; unfold M102 Q102; simp only [sure_cond, Tree.sure, sure_cl, sure_onExit, sure_onRet, sure_onPanL, sure_onNext, sure_onBrk, sure_onRetO, sure_onPan, sure_onOk, sure_onGPan]
def p102 (x : (a102).den) : Bool := (M102 x).isSome
def v102 (x : (a102).den) : (r102).den := (M102 x).getD (r102).dflt
def k102 : Con := ⟨a102, r102, p102, v102⟩
theorem h102 : Holds Try.prog 102 k102 := holds_of_M' (E := E0) follows_ok g102 eqTy_sound keyTy_sound at102 bd102 (by kernel_rfl) m102 fun G' hlo hF hE => LsOK_kn (by rw [lo102]; exact .nil)
/-- isobar/kite.span -/
noncomputable def c104 : Code := Try.f104.body.getD .skip
theorem at104 : Try.prog.funcs[104]? = some Try.f104 := by kernel_rfl
theorem bd104 : Try.f104.body = some c104 := by kernel_rfl
theorem cl104 : Callable Try.prog 104 := callable_of at104 (by kernel_rfl) (by kernel_rfl)
abbrev T4 : Ty := (.agg T1)
abbrev T5 : Ty := (.cons T4 T1)
abbrev a104 : Ty := T5
abbrev r104 : Ty := T3
noncomputable def G104 : Ctx := Ctx.of []
theorem g104 : Sound Try.prog (G104) := sound_of (fun _ h => by cases h)
theorem lo104 : loopsOf (c104) = [] := by kernel_rfl
noncomputable def l104 : List Loop := []
def Q104 {α : Type} (l : Option (r104).den → α) (an : α → α → α) (x : (a104).den) : α := bif (decide (x.2.1 ≤ x.1.1)) then bif (decide (x.1.1 ≤ x.1.2.1)) then l (some ((decide (x.1.2.1 ≤ x.2.2.1)), ())) else l (some (false, ())) else l (some (false, ()))
theorem q104 (x : (a104).den) : runFn Try.prog E0 G104 Try.f104 l104 a104 r104 x = Q104 .leaf .any x := by kernel_rfl
def M104 (x : (a104).den) : Option (r104).den := Q104 (fun r => r) (fun _ _ => none) x
theorem m104 (x : (a104).den) : (runFn Try.prog E0 G104 Try.f104 l104 a104 r104 x).sure = M104 x := by rw [q104]; unfold M104 Q104; simp only [sure_cond, Tree.sure, sure_cl, sure_onExit, sure_onRet, sure_onPanL, sure_onNext, sure_onBrk, sure_onRetO, sure_onPan, sure_onOk, sure_onGPan]
def p104 (x : (a104).den) : Bool := (M104 x).isSome
def v104 (x : (a104).den) : (r104).den := (M104 x).getD (r104).dflt
def k104 : Con := ⟨a104, r104, p104, v104⟩
theorem h104 : Holds Try.prog 104 k104 := holds_of_M' (E := E0) follows_ok g104 eqTy_sound keyTy_sound at104 bd104 (by kernel_rfl) m104 fun G' hlo hF hE => LsOK_kn (by rw [lo104]; exact .nil)
/-- isobar/kite.within -/
noncomputable def c73 : Code := Try.f73.body.getD .skip
theorem at73 : Try.prog.funcs[73]? = some Try.f73 := by kernel_rfl
theorem bd73 : Try.f73.body = some c73 := by kernel_rfl
theorem cl73 : Callable Try.prog 73 := callable_of at73 (by kernel_rfl) (by kernel_rfl)
abbrev T6 : Ty := (.cons T4 .nil)
abbrev T7 : Ty := (.cons tI T6)
abbrev a73 : Ty := T7
abbrev r73 : Ty := T3
noncomputable def G73 : Ctx := Ctx.of [(102, .pure k102)]
theorem g73 : Sound Try.prog (G73) := sound_of (List.forall_mem_cons.2 ⟨⟨cl102, h102⟩, fun _ h => by cases h⟩)
theorem lo73 : loopsOf (c73) = [] := by kernel_rfl
noncomputable def l73 : List Loop := []
def Q73 {α : Type} (l : Option (r73).den → α) (an : α → α → α) (x : (a73).den) : α := cl (r102).dflt (M102 (x.1, x.2.1)) (fun u0 => l (some u0)) (l none)
theorem q73 (x : (a73).den) : runFn Try.prog E0 G73 Try.f73 l73 a73 r73 x = Q73 .leaf .any x := by kernel_rfl
def M73 (x : (a73).den) : Option (r73).den := Q73 (fun r => r) (fun _ _ => none) x
theorem m73 (x : (a73).den) : (runFn Try.prog E0 G73 Try.f73 l73 a73 r73 x).sure = M73 x := by rw [q73]; unfold M73 Q73; simp only [sure_cond, Tree.sure, sure_cl, sure_onExit, sure_onRet, sure_onPanL, sure_onNext, sure_onBrk, sure_onRetO, sure_onPan, sure_onOk, sure_onGPan]
def p73 (x : (a73).den) : Bool := (M73 x).isSome
def v73 (x : (a73).den) : (r73).den := (M73 x).getD (r73).dflt
def k73 : Con := ⟨a73, r73, p73, v73⟩
theorem h73 : Holds Try.prog 73 k73 := holds_of_M' (E := E0) follows_ok g73 eqTy_sound keyTy_sound at73 bd73 (by kernel_rfl) m73 fun G' hlo hF hE => LsOK_kn (by rw [lo73]; exact .nil)
/-- isobar/kite.validLine -/
noncomputable def c65 : Code := Try.f65.body.getD .skip
theorem at65 : Try.prog.funcs[65]? = some Try.f65 := by kernel_rfl
theorem bd65 : Try.f65.body = some c65 := by kernel_rfl
theorem cl65 : Callable Try.prog 65 := callable_of at65 (by kernel_rfl) (by kernel_rfl)
abbrev T8 : Ty := (.cons tI T2)
abbrev T9 : Ty := (.cons tI T8)
abbrev T10 : Ty := (.cons tI T9)
abbrev T11 : Ty := (.agg T10)
abbrev T12 : Ty := (.cons T11 .nil)
abbrev a65 : Ty := T12
abbrev r65 : Ty := T3
noncomputable def G65 : Ctx := Ctx.of [(104, .pure k104)]
theorem g65 : Sound Try.prog (G65) := sound_of (List.forall_mem_cons.2 ⟨⟨cl104, h104⟩, fun _ h => by cases h⟩)
theorem lo65 : loopsOf (c65) = [] := by kernel_rfl
noncomputable def l65 : List Loop := []
def Q65 {α : Type} (l : Option (r65).den → α) (an : α → α → α) (x : (a65).den) : α := cl (r104).dflt (M104 ((x.1.1, (x.1.2.1, ())), ((0 : Int), ((10000 : Int), ())))) (fun u0 => bif u0.1 then cl (r104).dflt (M104 ((x.1.2.2.1, (x.1.2.2.2.1, ())), ((0 : Int), ((90 : Int), ())))) (fun u1 => bif u1.1 then cl (r104).dflt (M104 (x.1.2.2.2.2, ((0 : Int), ((1000 : Int), ())))) (fun u2 => l (some u2)) (l none) else l (some (false, ()))) (l none) else l (some (false, ()))) (l none)
theorem q65 (x : (a65).den) : runFn Try.prog E0 G65 Try.f65 l65 a65 r65 x = Q65 .leaf .any x := by kernel_rfl
def M65 (x : (a65).den) : Option (r65).den := Q65 (fun r => r) (fun _ _ => none) x
theorem m65 (x : (a65).den) : (runFn Try.prog E0 G65 Try.f65 l65 a65 r65 x).sure = M65 x := by rw [q65]; unfold M65 Q65; simp only [sure_cond, Tree.sure, sure_cl, sure_onExit, sure_onRet, sure_onPanL, sure_onNext, sure_onBrk, sure_onRetO, sure_onPan, sure_onOk, sure_onGPan]
def p65 (x : (a65).den) : Bool := (M65 x).isSome
def v65 (x : (a65).den) : (r65).den := (M65 x).getD (r65).dflt
def k65 : Con := ⟨a65, r65, p65, v65⟩
theorem h65 : Holds Try.prog 65 k65 := holds_of_M' (E := E0) follows_ok g65 eqTy_sound keyTy_sound at65 bd65 (by kernel_rfl) m65 fun G' hlo hF hE => LsOK_kn (by rw [lo65]; exact .nil)
/-- isobar/kite.sines -/
noncomputable def c121 : Code := Try.f121.body.getD .skip
theorem at121 : Try.prog.funcs[121]? = some Try.f121 := by kernel_rfl
theorem bd121 : Try.f121.body = some c121 := by kernel_rfl
theorem cl121 : Callable Try.prog 121 := callable_of at121 (by kernel_rfl) (by kernel_rfl)
abbrev T13 : Ty := (.cons tI T10)
abbrev T14 : Ty := (.cons tI T13)
abbrev T15 : Ty := (.cons tI T14)
abbrev T16 : Ty := (.cons tI T15)
abbrev T17 : Ty := (.cons tI T16)
abbrev T18 : Ty := (.cons tI T17)
abbrev T19 : Ty := (.cons tI T18)
abbrev T20 : Ty := (.cons tI T19)
abbrev T21 : Ty := (.cons tI T20)
abbrev T22 : Ty := (.cons tI T21)
abbrev T23 : Ty := (.cons tI T22)
abbrev T24 : Ty := (.cons tI T23)
abbrev T25 : Ty := (.cons tI T24)
abbrev T26 : Ty := (.agg T25)
abbrev T27 : Ty := (.cons T26 .nil)
abbrev a121 : Ty := .nil
abbrev r121 : Ty := T27
noncomputable def G121 : Ctx := Ctx.of []
theorem g121 : Sound Try.prog (G121) := sound_of (fun _ h => by cases h)
theorem lo121 : loopsOf (c121) = [] := by kernel_rfl
noncomputable def l121 : List Loop := []
def Q121 {α : Type} (l : Option (r121).den → α) (an : α → α → α) (x : (a121).den) : α := l (some (((0 : Int), ((872 : Int), ((1736 : Int), ((2588 : Int), ((3420 : Int), ((4226 : Int), ((5000 : Int), ((5736 : Int), ((6428 : Int), ((7071 : Int), ((7660 : Int), ((8192 : Int), ((8660 : Int), ((9063 : Int), ((9397 : Int), ((9659 : Int), ((9848 : Int), ((9962 : Int), ((10000 : Int), ()))))))))))))))))))), ()))
theorem q121 (x : (a121).den) : runFn Try.prog E0 G121 Try.f121 l121 a121 r121 x = Q121 .leaf .any x := by kernel_rfl
def M121 (x : (a121).den) : Option (r121).den := Q121 (fun r => r) (fun _ _ => none) x
theorem m121 (x : (a121).den) : (runFn Try.prog E0 G121 Try.f121 l121 a121 r121 x).sure = M121 x := by rw [q121]; unfold M121 Q121; simp only [sure_cond, Tree.sure, sure_cl, sure_onExit, sure_onRet, sure_onPanL, sure_onNext, sure_onBrk, sure_onRetO, sure_onPan, sure_onOk, sure_onGPan]
def p121 (x : (a121).den) : Bool := (M121 x).isSome
def v121 (x : (a121).den) : (r121).den := (M121 x).getD (r121).dflt
def k121 : Con := ⟨a121, r121, p121, v121⟩
theorem h121 : Holds Try.prog 121 k121 := holds_of_M' (E := E0) follows_ok g121 eqTy_sound keyTy_sound at121 bd121 (by kernel_rfl) m121 fun G' hlo hF hE => LsOK_kn (by rw [lo121]; exact .nil)
/-- isobar/kite.sine -/
noncomputable def c105 : Code := Try.f105.body.getD .skip
theorem at105 : Try.prog.funcs[105]? = some Try.f105 := by kernel_rfl
theorem bd105 : Try.f105.body = some c105 := by kernel_rfl
theorem cl105 : Callable Try.prog 105 := callable_of at105 (by kernel_rfl) (by kernel_rfl)
abbrev a105 : Ty := T0
abbrev r105 : Ty := T0
noncomputable def G105 : Ctx := Ctx.of [(121, .pure k121)]
theorem g105 : Sound Try.prog (G105) := sound_of (List.forall_mem_cons.2 ⟨⟨cl121, h121⟩, fun _ h => by cases h⟩)
theorem lo105 : loopsOf (c105) = [] := by kernel_rfl
noncomputable def l105 : List Loop := []
def Q105 {α : Type} (l : Option (r105).den → α) (an : α → α → α) (x : (a105).den) : α := cl (r121).dflt (M121 ()) (fun u0 => bif (decide ((Int.tmod x.1 (5 : Int)) = (0 : Int))) then bif (decide (((0 : Int) ≤ (W (Int.tdiv x.1 (5 : Int)))) ∧ ((W (Int.tdiv x.1 (5 : Int))) < (19 : Int)))) then bif (decide ((0 + ((Int.toNat (W (Int.tdiv x.1 (5 : Int)))) * 1)) < 19)) then l (some ((List.getD [u0.1.1, u0.1.2.1, u0.1.2.2.1, u0.1.2.2.2.1, u0.1.2.2.2.2.1, u0.1.2.2.2.2.2.1, u0.1.2.2.2.2.2.2.1, u0.1.2.2.2.2.2.2.2.1, u0.1.2.2.2.2.2.2.2.2.1, u0.1.2.2.2.2.2.2.2.2.2.1, u0.1.2.2.2.2.2.2.2.2.2.2.1, u0.1.2.2.2.2.2.2.2.2.2.2.2.1, u0.1.2.2.2.2.2.2.2.2.2.2.2.2.1, u0.1.2.2.2.2.2.2.2.2.2.2.2.2.2.1, u0.1.2.2.2.2.2.2.2.2.2.2.2.2.2.2.1, u0.1.2.2.2.2.2.2.2.2.2.2.2.2.2.2.2.1, u0.1.2.2.2.2.2.2.2.2.2.2.2.2.2.2.2.2.1, u0.1.2.2.2.2.2.2.2.2.2.2.2.2.2.2.2.2.2.1, u0.1.2.2.2.2.2.2.2.2.2.2.2.2.2.2.2.2.2.2.1] (0 + ((Int.toNat (W (Int.tdiv x.1 (5 : Int)))) * 1)) u0.1.1), ())) else l none else l none else bif (decide (((0 : Int) ≤ (W (Int.tdiv x.1 (5 : Int)))) ∧ ((W (Int.tdiv x.1 (5 : Int))) < (19 : Int)))) then bif (decide ((0 + ((Int.toNat (W (Int.tdiv x.1 (5 : Int)))) * 1)) < 19)) then bif (decide (((0 : Int) ≤ (W ((W (Int.tdiv x.1 (5 : Int))) + (1 : Int)))) ∧ ((W ((W (Int.tdiv x.1 (5 : Int))) + (1 : Int))) < (19 : Int)))) then bif (decide ((0 + ((Int.toNat (W ((W (Int.tdiv x.1 (5 : Int))) + (1 : Int)))) * 1)) < 19)) then bif (decide (((0 : Int) ≤ (W (Int.tdiv x.1 (5 : Int)))) ∧ ((W (Int.tdiv x.1 (5 : Int))) < (19 : Int)))) then bif (decide ((0 + ((Int.toNat (W (Int.tdiv x.1 (5 : Int)))) * 1)) < 19)) then l (some ((W ((List.getD [u0.1.1, u0.1.2.1, u0.1.2.2.1, u0.1.2.2.2.1, u0.1.2.2.2.2.1, u0.1.2.2.2.2.2.1, u0.1.2.2.2.2.2.2.1, u0.1.2.2.2.2.2.2.2.1, u0.1.2.2.2.2.2.2.2.2.1, u0.1.2.2.2.2.2.2.2.2.2.1, u0.1.2.2.2.2.2.2.2.2.2.2.1, u0.1.2.2.2.2.2.2.2.2.2.2.2.1, u0.1.2.2.2.2.2.2.2.2.2.2.2.2.1, u0.1.2.2.2.2.2.2.2.2.2.2.2.2.2.1, u0.1.2.2.2.2.2.2.2.2.2.2.2.2.2.2.1, u0.1.2.2.2.2.2.2.2.2.2.2.2.2.2.2.2.1, u0.1.2.2.2.2.2.2.2.2.2.2.2.2.2.2.2.2.1, u0.1.2.2.2.2.2.2.2.2.2.2.2.2.2.2.2.2.2.1, u0.1.2.2.2.2.2.2.2.2.2.2.2.2.2.2.2.2.2.2.1] (0 + ((Int.toNat (W (Int.tdiv x.1 (5 : Int)))) * 1)) u0.1.1) + (W (Int.tdiv (W ((W ((List.getD [u0.1.1, u0.1.2.1, u0.1.2.2.1, u0.1.2.2.2.1, u0.1.2.2.2.2.1, u0.1.2.2.2.2.2.1, u0.1.2.2.2.2.2.2.1, u0.1.2.2.2.2.2.2.2.1, u0.1.2.2.2.2.2.2.2.2.1, u0.1.2.2.2.2.2.2.2.2.2.1, u0.1.2.2.2.2.2.2.2.2.2.2.1, u0.1.2.2.2.2.2.2.2.2.2.2.2.1, u0.1.2.2.2.2.2.2.2.2.2.2.2.2.1, u0.1.2.2.2.2.2.2.2.2.2.2.2.2.2.1, u0.1.2.2.2.2.2.2.2.2.2.2.2.2.2.2.1, u0.1.2.2.2.2.2.2.2.2.2.2.2.2.2.2.2.1, u0.1.2.2.2.2.2.2.2.2.2.2.2.2.2.2.2.2.1, u0.1.2.2.2.2.2.2.2.2.2.2.2.2.2.2.2.2.2.1, u0.1.2.2.2.2.2.2.2.2.2.2.2.2.2.2.2.2.2.2.1] (0 + ((Int.toNat (W ((W (Int.tdiv x.1 (5 : Int))) + (1 : Int)))) * 1)) u0.1.1) - (List.getD [u0.1.1, u0.1.2.1, u0.1.2.2.1, u0.1.2.2.2.1, u0.1.2.2.2.2.1, u0.1.2.2.2.2.2.1, u0.1.2.2.2.2.2.2.1, u0.1.2.2.2.2.2.2.2.1, u0.1.2.2.2.2.2.2.2.2.1, u0.1.2.2.2.2.2.2.2.2.2.1, u0.1.2.2.2.2.2.2.2.2.2.2.1, u0.1.2.2.2.2.2.2.2.2.2.2.2.1, u0.1.2.2.2.2.2.2.2.2.2.2.2.2.1, u0.1.2.2.2.2.2.2.2.2.2.2.2.2.2.1, u0.1.2.2.2.2.2.2.2.2.2.2.2.2.2.2.1, u0.1.2.2.2.2.2.2.2.2.2.2.2.2.2.2.2.1, u0.1.2.2.2.2.2.2.2.2.2.2.2.2.2.2.2.2.1, u0.1.2.2.2.2.2.2.2.2.2.2.2.2.2.2.2.2.2.1, u0.1.2.2.2.2.2.2.2.2.2.2.2.2.2.2.2.2.2.2.1] (0 + ((Int.toNat (W (Int.tdiv x.1 (5 : Int)))) * 1)) u0.1.1))) * (Int.tmod x.1 (5 : Int)))) (5 : Int))))), ())) else l none else l none else l none else l none else l none else l none) (l none)
theorem q105 (x : (a105).den) : runFn Try.prog E0 G105 Try.f105 l105 a105 r105 x = Q105 .leaf .any x := by kernel_rfl
def M105 (x : (a105).den) : Option (r105).den := Q105 (fun r => r) (fun _ _ => none) x
theorem m105 (x : (a105).den) : (runFn Try.prog E0 G105 Try.f105 l105 a105 r105 x).sure = M105 x := by rw [q105]; unfold M105 Q105; simp only [sure_cond, Tree.sure, sure_cl, sure_onExit, sure_onRet, sure_onPanL, sure_onNext, sure_onBrk, sure_onRetO, sure_onPan, sure_onOk, sure_onGPan]
def p105 (x : (a105).den) : Bool := (M105 x).isSome
def v105 (x : (a105).den) : (r105).den := (M105 x).getD (r105).dflt
def k105 : Con := ⟨a105, r105, p105, v105⟩
theorem h105 : Holds Try.prog 105 k105 := holds_of_M' (E := E0) follows_ok g105 eqTy_sound keyTy_sound at105 bd105 (by kernel_rfl) m105 fun G' hlo hF hE => LsOK_kn (by rw [lo105]; exact .nil)
/-- isobar/kite.height -/
noncomputable def c67 : Code := Try.f67.body.getD .skip
theorem at67 : Try.prog.funcs[67]? = some Try.f67 := by kernel_rfl
theorem bd67 : Try.f67.body = some c67 := by kernel_rfl
theorem cl67 : Callable Try.prog 67 := callable_of at67 (by kernel_rfl) (by kernel_rfl)
abbrev T28 : Ty := (.agg T2)
abbrev T29 : Ty := (.cons T28 .nil)
abbrev a67 : Ty := T29
abbrev r67 : Ty := T0
noncomputable def G67 : Ctx := Ctx.of [(105, .pure k105)]
theorem g67 : Sound Try.prog (G67) := sound_of (List.forall_mem_cons.2 ⟨⟨cl105, h105⟩, fun _ h => by cases h⟩)
theorem lo67 : loopsOf (c67) = [] := by kernel_rfl
noncomputable def l67 : List Loop := []
def Q67 {α : Type} (l : Option (r67).den → α) (an : α → α → α) (x : (a67).den) : α := cl (r105).dflt (M105 (x.1.2.1, ())) (fun u0 => l (some ((W (Int.tdiv (W ((W (Int.tdiv (W (x.1.1 * (W ((1000 : Int) - x.1.2.2.1)))) (1000 : Int))) * u0.1)) (10000 : Int))), ()))) (l none)
theorem q67 (x : (a67).den) : runFn Try.prog E0 G67 Try.f67 l67 a67 r67 x = Q67 .leaf .any x := by kernel_rfl
def M67 (x : (a67).den) : Option (r67).den := Q67 (fun r => r) (fun _ _ => none) x
theorem m67 (x : (a67).den) : (runFn Try.prog E0 G67 Try.f67 l67 a67 r67 x).sure = M67 x := by rw [q67]; unfold M67 Q67; simp only [sure_cond, Tree.sure, sure_cl, sure_onExit, sure_onRet, sure_onPanL, sure_onNext, sure_onBrk, sure_onRetO, sure_onPan, sure_onOk, sure_onGPan]
def p67 (x : (a67).den) : Bool := (M67 x).isSome
def v67 (x : (a67).den) : (r67).den := (M67 x).getD (r67).dflt
def k67 : Con := ⟨a67, r67, p67, v67⟩
theorem h67 : Holds Try.prog 67 k67 := holds_of_M' (E := E0) follows_ok g67 eqTy_sound keyTy_sound at67 bd67 (by kernel_rfl) m67 fun G' hlo hF hE => LsOK_kn (by rw [lo67]; exact .nil)
/-- isobar/kite.both[isobar/kite.line] -/
noncomputable def c66 : Code := Try.f66.body.getD .skip
theorem at66 : Try.prog.funcs[66]? = some Try.f66 := by kernel_rfl
theorem bd66 : Try.f66.body = some c66 := by kernel_rfl
theorem cl66 : Callable Try.prog 66 := callable_of at66 (by kernel_rfl) (by kernel_rfl)
abbrev T30 : Ty := (.fn T29 T0)
abbrev T31 : Ty := (.cons T30 .nil)
abbrev T32 : Ty := (.cons T28 T31)
abbrev T33 : Ty := (.cons T28 T32)
abbrev a66 : Ty := T33
abbrev r66 : Ty := T6
noncomputable def G66 : Ctx := Ctx.of []
theorem g66 : Sound Try.prog (G66) := sound_of (fun _ h => by cases h)
theorem lo66 : loopsOf (c66) = [] := by kernel_rfl
noncomputable def l66 : List Loop := []
def Q66 {α : Type} (l : Option (r66).den → α) (an : α → α → α) (x : (a66).den) : α := bif (x.2.2.1 (x.1, ())).1 then bif (x.2.2.1 (x.2.1, ())).1 then l (some (((x.2.2.1 (x.1, ())).2.1, (x.2.2.1 (x.2.1, ())).2), ())) else l none else l none
theorem q66 (x : (a66).den) : runFn Try.prog E0 G66 Try.f66 l66 a66 r66 x = Q66 .leaf .any x := by kernel_rfl
def M66 (x : (a66).den) : Option (r66).den := Q66 (fun r => r) (fun _ _ => none) x
theorem m66 (x : (a66).den) : (runFn Try.prog E0 G66 Try.f66 l66 a66 r66 x).sure = M66 x := by rw [q66]; unfold M66 Q66; simp only [sure_cond, Tree.sure, sure_cl, sure_onExit, sure_onRet, sure_onPanL, sure_onNext, sure_onBrk, sure_onRetO, sure_onPan, sure_onOk, sure_onGPan]
def p66 (x : (a66).den) : Bool := (M66 x).isSome
def v66 (x : (a66).den) : (r66).den := (M66 x).getD (r66).dflt
def k66 : Con := ⟨a66, r66, p66, v66⟩
theorem h66 : Holds Try.prog 66 k66 := holds_of_M' (E := E0) follows_ok g66 eqTy_sound keyTy_sound at66 bd66 (by kernel_rfl) m66 fun G' hlo hF hE => LsOK_kn (by rw [lo66]; exact .nil)
/-- isobar/kite.Height -/
noncomputable def c17 : Code := Try.f17.body.getD .skip
theorem at17 : Try.prog.funcs[17]? = some Try.f17 := by kernel_rfl
theorem bd17 : Try.f17.body = some c17 := by kernel_rfl
theorem cl17 : Callable Try.prog 17 := callable_of at17 (by kernel_rfl) (by kernel_rfl)
abbrev T34 : Ty := (.cons T4 T0)
abbrev a17 : Ty := T12
abbrev r17 : Ty := T34
noncomputable def G17 : Ctx := Ctx.of [(65, .pure k65), (66, .pure k66), (67, .pure k67)]
theorem g17 : Sound Try.prog (G17) := sound_of (List.forall_mem_cons.2 ⟨⟨cl65, h65⟩, List.forall_mem_cons.2 ⟨⟨cl66, h66⟩, List.forall_mem_cons.2 ⟨⟨cl67, h67⟩, fun _ h => by cases h⟩⟩⟩)
theorem lo17 : loopsOf (c17) = [] := by kernel_rfl
noncomputable def l17 : List Loop := []
def Q17 {α : Type} (l : Option (r17).den → α) (an : α → α → α) (x : (a17).den) : α := cl (r65).dflt (M65 (x.1, ())) (fun u0 => bif (!u0.1) then l (some (((0 : Int), ((0 : Int), ())), ((2 : Int), ()))) else cl (r66).dflt (M66 ((x.1.1, (x.1.2.2.1, x.1.2.2.2.2.2)), ((x.1.2.1, (x.1.2.2.2.1, (x.1.2.2.2.2.1, ()))), ((fun y1 => ((p67 y1), (v67 y1))), ())))) (fun u1 => l (some (u1.1, ((0 : Int), ())))) (l none)) (l none)
theorem q17 (x : (a17).den) : runFn Try.prog E0 G17 Try.f17 l17 a17 r17 x = Q17 .leaf .any x := by kernel_rfl
def M17 (x : (a17).den) : Option (r17).den := Q17 (fun r => r) (fun _ _ => none) x
theorem m17 (x : (a17).den) : (runFn Try.prog E0 G17 Try.f17 l17 a17 r17 x).sure = M17 x := by rw [q17]; unfold M17 Q17; simp only [sure_cond, Tree.sure, sure_cl, sure_onExit, sure_onRet, sure_onPanL, sure_onNext, sure_onBrk, sure_onRetO, sure_onPan, sure_onOk, sure_onGPan]
def p17 (x : (a17).den) : Bool := (M17 x).isSome
def v17 (x : (a17).den) : (r17).den := (M17 x).getD (r17).dflt
def k17 : Con := ⟨a17, r17, p17, v17⟩
theorem h17 : Holds Try.prog 17 k17 := holds_of_M' (E := E0) follows_ok g17 eqTy_sound keyTy_sound at17 bd17 (by kernel_rfl) m17 fun G' hlo hF hE => LsOK_kn (by rw [lo17]; exact .nil)
abbrev T35 : Ty := (.cons T11 T2)
/-- isobar/isobarref07.in -/
noncomputable def c75 : Code := Try.f75.body.getD .skip
theorem at75 : Try.prog.funcs[75]? = some Try.f75 := by kernel_rfl
theorem bd75 : Try.f75.body = some c75 := by kernel_rfl
theorem cl75 : Callable Try.prog 75 := callable_of at75 (by kernel_rfl) (by kernel_rfl)
abbrev a75 : Ty := T2
abbrev r75 : Ty := T3
noncomputable def G75 : Ctx := Ctx.of []
theorem g75 : Sound Try.prog (G75) := sound_of (fun _ h => by cases h)
theorem lo75 : loopsOf (c75) = [] := by kernel_rfl
noncomputable def l75 : List Loop := []
def Q75 {α : Type} (l : Option (r75).den → α) (an : α → α → α) (x : (a75).den) : α := bif (decide (x.2.1 ≤ x.1)) then l (some ((decide (x.1 ≤ x.2.2.1)), ())) else l (some (false, ()))
theorem q75 (x : (a75).den) : runFn Try.prog E0 G75 Try.f75 l75 a75 r75 x = Q75 .leaf .any x := by kernel_rfl
def M75 (x : (a75).den) : Option (r75).den := Q75 (fun r => r) (fun _ _ => none) x
theorem m75 (x : (a75).den) : (runFn Try.prog E0 G75 Try.f75 l75 a75 r75 x).sure = M75 x := by rw [q75]; unfold M75 Q75; simp only [sure_cond, Tree.sure, sure_cl, sure_onExit, sure_onRet, sure_onPanL, sure_onNext, sure_onBrk, sure_onRetO, sure_onPan, sure_onOk, sure_onGPan]
def p75 (x : (a75).den) : Bool := (M75 x).isSome
def v75 (x : (a75).den) : (r75).den := (M75 x).getD (r75).dflt
def k75 : Con := ⟨a75, r75, p75, v75⟩
theorem h75 : Holds Try.prog 75 k75 := holds_of_M' (E := E0) follows_ok g75 eqTy_sound keyTy_sound at75 bd75 (by kernel_rfl) m75 fun G' hlo hF hE => LsOK_kn (by rw [lo75]; exact .nil)
/-- isobar/isobarref07.Span -/
noncomputable def c68 : Code := Try.f68.body.getD .skip
theorem at68 : Try.prog.funcs[68]? = some Try.f68 := by kernel_rfl
theorem bd68 : Try.f68.body = some c68 := by kernel_rfl
theorem cl68 : Callable Try.prog 68 := callable_of at68 (by kernel_rfl) (by kernel_rfl)
abbrev a68 : Ty := T5
abbrev r68 : Ty := T3
noncomputable def G68 : Ctx := Ctx.of []
theorem g68 : Sound Try.prog (G68) := sound_of (fun _ h => by cases h)
theorem lo68 : loopsOf (c68) = [] := by kernel_rfl
noncomputable def l68 : List Loop := []
def Q68 {α : Type} (l : Option (r68).den → α) (an : α → α → α) (x : (a68).den) : α := bif (decide (x.2.1 ≤ x.1.1)) then bif (decide (x.1.1 ≤ x.1.2.1)) then l (some ((decide (x.1.2.1 ≤ x.2.2.1)), ())) else l (some (false, ())) else l (some (false, ()))
theorem q68 (x : (a68).den) : runFn Try.prog E0 G68 Try.f68 l68 a68 r68 x = Q68 .leaf .any x := by kernel_rfl
def M68 (x : (a68).den) : Option (r68).den := Q68 (fun r => r) (fun _ _ => none) x
theorem m68 (x : (a68).den) : (runFn Try.prog E0 G68 Try.f68 l68 a68 r68 x).sure = M68 x := by rw [q68]; unfold M68 Q68; simp only [sure_cond, Tree.sure, sure_cl, sure_onExit, sure_onRet, sure_onPanL, sure_onNext, sure_onBrk, sure_onRetO, sure_onPan, sure_onOk, sure_onGPan]
def p68 (x : (a68).den) : Bool := (M68 x).isSome
def v68 (x : (a68).den) : (r68).den := (M68 x).getD (r68).dflt
def k68 : Con := ⟨a68, r68, p68, v68⟩
theorem h68 : Holds Try.prog 68 k68 := holds_of_M' (E := E0) follows_ok g68 eqTy_sound keyTy_sound at68 bd68 (by kernel_rfl) m68 fun G' hlo hF hE => LsOK_kn (by rw [lo68]; exact .nil)
/-- isobar/isobarref07.Line -/
noncomputable def c18 : Code := Try.f18.body.getD .skip
theorem at18 : Try.prog.funcs[18]? = some Try.f18 := by kernel_rfl
theorem bd18 : Try.f18.body = some c18 := by kernel_rfl
theorem cl18 : Callable Try.prog 18 := callable_of at18 (by kernel_rfl) (by kernel_rfl)
abbrev a18 : Ty := T12
abbrev r18 : Ty := T3
noncomputable def G18 : Ctx := Ctx.of [(68, .pure k68)]
theorem g18 : Sound Try.prog (G18) := sound_of (List.forall_mem_cons.2 ⟨⟨cl68, h68⟩, fun _ h => by cases h⟩)
theorem lo18 : loopsOf (c18) = [] := by kernel_rfl
noncomputable def l18 : List Loop := []
def Q18 {α : Type} (l : Option (r18).den → α) (an : α → α → α) (x : (a18).den) : α := cl (r68).dflt (M68 ((x.1.1, (x.1.2.1, ())), ((0 : Int), ((10000 : Int), ())))) (fun u0 => bif u0.1 then cl (r68).dflt (M68 ((x.1.2.2.1, (x.1.2.2.2.1, ())), ((0 : Int), ((90 : Int), ())))) (fun u1 => bif u1.1 then cl (r68).dflt (M68 (x.1.2.2.2.2, ((0 : Int), ((1000 : Int), ())))) (fun u2 => l (some u2)) (l none) else l (some (false, ()))) (l none) else l (some (false, ()))) (l none)
theorem q18 (x : (a18).den) : runFn Try.prog E0 G18 Try.f18 l18 a18 r18 x = Q18 .leaf .any x := by kernel_rfl
def M18 (x : (a18).den) : Option (r18).den := Q18 (fun r => r) (fun _ _ => none) x
theorem m18 (x : (a18).den) : (runFn Try.prog E0 G18 Try.f18 l18 a18 r18 x).sure = M18 x := by rw [q18]; unfold M18 Q18; simp only [sure_cond, Tree.sure, sure_cl, sure_onExit, sure_onRet, sure_onPanL, sure_onNext, sure_onBrk, sure_onRetO, sure_onPan, sure_onOk, sure_onGPan]
def p18 (x : (a18).den) : Bool := (M18 x).isSome
def v18 (x : (a18).den) : (r18).den := (M18 x).getD (r18).dflt
def k18 : Con := ⟨a18, r18, p18, v18⟩
theorem h18 : Holds Try.prog 18 k18 := holds_of_M' (E := E0) follows_ok g18 eqTy_sound keyTy_sound at18 bd18 (by kernel_rfl) m18 fun G' hlo hF hE => LsOK_kn (by rw [lo18]; exact .nil)
/-- isobar/isobarref07.Sine -/
noncomputable def c91 : Code := Try.f91.body.getD .skip
theorem at91 : Try.prog.funcs[91]? = some Try.f91 := by kernel_rfl
theorem bd91 : Try.f91.body = some c91 := by kernel_rfl
theorem cl91 : Callable Try.prog 91 := callable_of at91 (by kernel_rfl) (by kernel_rfl)
abbrev a91 : Ty := T0
abbrev r91 : Ty := T0
noncomputable def G91 : Ctx := Ctx.of []
theorem g91 : Sound Try.prog (G91) := sound_of (fun _ h => by cases h)
theorem lo91 : loopsOf (c91) = [] := by kernel_rfl
noncomputable def l91 : List Loop := []
def Q91 {α : Type} (l : Option (r91).den → α) (an : α → α → α) (x : (a91).den) : α := bif (decide ((Int.tmod x.1 (5 : Int)) = (0 : Int))) then bif (decide (((0 : Int) ≤ (W (Int.tdiv x.1 (5 : Int)))) ∧ ((W (Int.tdiv x.1 (5 : Int))) < (19 : Int)))) then l (some (List.getD [((0 : Int), ()), ((872 : Int), ()), ((1736 : Int), ()), ((2588 : Int), ()), ((3420 : Int), ()), ((4226 : Int), ()), ((5000 : Int), ()), ((5736 : Int), ()), ((6428 : Int), ()), ((7071 : Int), ()), ((7660 : Int), ()), ((8192 : Int), ()), ((8660 : Int), ()), ((9063 : Int), ()), ((9397 : Int), ()), ((9659 : Int), ()), ((9848 : Int), ()), ((9962 : Int), ()), ((10000 : Int), ())] (Int.toNat (W (Int.tdiv x.1 (5 : Int)))) ((0 : Int), ()))) else l none else bif (decide (((0 : Int) ≤ (W (Int.tdiv x.1 (5 : Int)))) ∧ ((W (Int.tdiv x.1 (5 : Int))) < (19 : Int)))) then bif (decide (((0 : Int) ≤ (W ((W (Int.tdiv x.1 (5 : Int))) + (1 : Int)))) ∧ ((W ((W (Int.tdiv x.1 (5 : Int))) + (1 : Int))) < (19 : Int)))) then bif (decide (((0 : Int) ≤ (W (Int.tdiv x.1 (5 : Int)))) ∧ ((W (Int.tdiv x.1 (5 : Int))) < (19 : Int)))) then l (some ((W ((List.getD [((0 : Int), ()), ((872 : Int), ()), ((1736 : Int), ()), ((2588 : Int), ()), ((3420 : Int), ()), ((4226 : Int), ()), ((5000 : Int), ()), ((5736 : Int), ()), ((6428 : Int), ()), ((7071 : Int), ()), ((7660 : Int), ()), ((8192 : Int), ()), ((8660 : Int), ()), ((9063 : Int), ()), ((9397 : Int), ()), ((9659 : Int), ()), ((9848 : Int), ()), ((9962 : Int), ()), ((10000 : Int), ())] (Int.toNat (W (Int.tdiv x.1 (5 : Int)))) ((0 : Int), ())).1 + (W (Int.tdiv (W ((W ((List.getD [((0 : Int), ()), ((872 : Int), ()), ((1736 : Int), ()), ((2588 : Int), ()), ((3420 : Int), ()), ((4226 : Int), ()), ((5000 : Int), ()), ((5736 : Int), ()), ((6428 : Int), ()), ((7071 : Int), ()), ((7660 : Int), ()), ((8192 : Int), ()), ((8660 : Int), ()), ((9063 : Int), ()), ((9397 : Int), ()), ((9659 : Int), ()), ((9848 : Int), ()), ((9962 : Int), ()), ((10000 : Int), ())] (Int.toNat (W ((W (Int.tdiv x.1 (5 : Int))) + (1 : Int)))) ((0 : Int), ())).1 - (List.getD [((0 : Int), ()), ((872 : Int), ()), ((1736 : Int), ()), ((2588 : Int), ()), ((3420 : Int), ()), ((4226 : Int), ()), ((5000 : Int), ()), ((5736 : Int), ()), ((6428 : Int), ()), ((7071 : Int), ()), ((7660 : Int), ()), ((8192 : Int), ()), ((8660 : Int), ()), ((9063 : Int), ()), ((9397 : Int), ()), ((9659 : Int), ()), ((9848 : Int), ()), ((9962 : Int), ()), ((10000 : Int), ())] (Int.toNat (W (Int.tdiv x.1 (5 : Int)))) ((0 : Int), ())).1)) * (Int.tmod x.1 (5 : Int)))) (5 : Int))))), ())) else l none else l none else l none
theorem q91 (x : (a91).den) : runFn Try.prog E0 G91 Try.f91 l91 a91 r91 x = Q91 .leaf .any x := by kernel_rfl
def M91 (x : (a91).den) : Option (r91).den := Q91 (fun r => r) (fun _ _ => none) x
theorem m91 (x : (a91).den) : (runFn Try.prog E0 G91 Try.f91 l91 a91 r91 x).sure = M91 x := by rw [q91]; unfold M91 Q91; simp only [sure_cond, Tree.sure, sure_cl, sure_onExit, sure_onRet, sure_onPanL, sure_onNext, sure_onBrk, sure_onRetO, sure_onPan, sure_onOk, sure_onGPan]
def p91 (x : (a91).den) : Bool := (M91 x).isSome
def v91 (x : (a91).den) : (r91).den := (M91 x).getD (r91).dflt
def k91 : Con := ⟨a91, r91, p91, v91⟩
theorem h91 : Holds Try.prog 91 k91 := holds_of_M' (E := E0) follows_ok g91 eqTy_sound keyTy_sound at91 bd91 (by kernel_rfl) m91 fun G' hlo hF hE => LsOK_kn (by rw [lo91]; exact .nil)
/-- isobar/isobarref07.Climb -/
noncomputable def c44 : Code := Try.f44.body.getD .skip
theorem at44 : Try.prog.funcs[44]? = some Try.f44 := by kernel_rfl
theorem bd44 : Try.f44.body = some c44 := by kernel_rfl
theorem cl44 : Callable Try.prog 44 := callable_of at44 (by kernel_rfl) (by kernel_rfl)
abbrev a44 : Ty := T2
abbrev r44 : Ty := T0
noncomputable def G44 : Ctx := Ctx.of [(91, .pure k91)]
theorem g44 : Sound Try.prog (G44) := sound_of (List.forall_mem_cons.2 ⟨⟨cl91, h91⟩, fun _ h => by cases h⟩)
theorem lo44 : loopsOf (c44) = [] := by kernel_rfl
noncomputable def l44 : List Loop := []
def Q44 {α : Type} (l : Option (r44).den → α) (an : α → α → α) (x : (a44).den) : α := cl (r91).dflt (M91 (x.2.1, ())) (fun u0 => l (some ((W (Int.tdiv (W ((W (Int.tdiv (W (x.1 * (W ((1000 : Int) - x.2.2.1)))) (1000 : Int))) * u0.1)) (10000 : Int))), ()))) (l none)
theorem q44 (x : (a44).den) : runFn Try.prog E0 G44 Try.f44 l44 a44 r44 x = Q44 .leaf .any x := by kernel_rfl
def M44 (x : (a44).den) : Option (r44).den := Q44 (fun r => r) (fun _ _ => none) x
theorem m44 (x : (a44).den) : (runFn Try.prog E0 G44 Try.f44 l44 a44 r44 x).sure = M44 x := by rw [q44]; unfold M44 Q44; simp only [sure_cond, Tree.sure, sure_cl, sure_onExit, sure_onRet, sure_onPanL, sure_onNext, sure_onBrk, sure_onRetO, sure_onPan, sure_onOk, sure_onGPan]
def p44 (x : (a44).den) : Bool := (M44 x).isSome
def v44 (x : (a44).den) : (r44).den := (M44 x).getD (r44).dflt
def k44 : Con := ⟨a44, r44, p44, v44⟩
theorem h44 : Holds Try.prog 44 k44 := holds_of_M' (E := E0) follows_ok g44 eqTy_sound keyTy_sound at44 bd44 (by kernel_rfl) m44 fun G' hlo hF hE => LsOK_kn (by rw [lo44]; exact .nil)
/-- isobar/isobarref07.Height -/
noncomputable def c20 : Code := Try.f20.body.getD .skip
theorem at20 : Try.prog.funcs[20]? = some Try.f20 := by kernel_rfl
theorem bd20 : Try.f20.body = some c20 := by kernel_rfl
theorem cl20 : Callable Try.prog 20 := callable_of at20 (by kernel_rfl) (by kernel_rfl)
abbrev a20 : Ty := T12
abbrev r20 : Ty := T6
noncomputable def G20 : Ctx := Ctx.of [(44, .pure k44)]
theorem g20 : Sound Try.prog (G20) := sound_of (List.forall_mem_cons.2 ⟨⟨cl44, h44⟩, fun _ h => by cases h⟩)
theorem lo20 : loopsOf (c20) = [] := by kernel_rfl
noncomputable def l20 : List Loop := []
def Q20 {α : Type} (l : Option (r20).den → α) (an : α → α → α) (x : (a20).den) : α := cl (r44).dflt (M44 (x.1.1, (x.1.2.2.1, x.1.2.2.2.2.2))) (fun u0 => cl (r44).dflt (M44 (x.1.2.1, (x.1.2.2.2.1, (x.1.2.2.2.2.1, ())))) (fun u1 => l (some ((u0.1, u1), ()))) (l none)) (l none)
theorem q20 (x : (a20).den) : runFn Try.prog E0 G20 Try.f20 l20 a20 r20 x = Q20 .leaf .any x := by kernel_rfl
def M20 (x : (a20).den) : Option (r20).den := Q20 (fun r => r) (fun _ _ => none) x
theorem m20 (x : (a20).den) : (runFn Try.prog E0 G20 Try.f20 l20 a20 r20 x).sure = M20 x := by rw [q20]; unfold M20 Q20; simp only [sure_cond, Tree.sure, sure_cl, sure_onExit, sure_onRet, sure_onPanL, sure_onNext, sure_onBrk, sure_onRetO, sure_onPan, sure_onOk, sure_onGPan]
def p20 (x : (a20).den) : Bool := (M20 x).isSome
def v20 (x : (a20).den) : (r20).den := (M20 x).getD (r20).dflt
def k20 : Con := ⟨a20, r20, p20, v20⟩
theorem h20 : Holds Try.prog 20 k20 := holds_of_M' (E := E0) follows_ok g20 eqTy_sound keyTy_sound at20 bd20 (by kernel_rfl) m20 fun G' hlo hF hE => LsOK_kn (by rw [lo20]; exact .nil)
/-- isobar/isobarlaw07.span -/
noncomputable def c46 : Code := Try.f46.body.getD .skip
theorem at46 : Try.prog.funcs[46]? = some Try.f46 := by kernel_rfl
theorem bd46 : Try.f46.body = some c46 := by kernel_rfl
theorem cl46 : Callable Try.prog 46 := callable_of at46 (by kernel_rfl) (by kernel_rfl)
abbrev a46 : Ty := T1
abbrev r46 : Ty := T6
noncomputable def G46 : Ctx := Ctx.of []
theorem g46 : Sound Try.prog (G46) := sound_of (fun _ h => by cases h)
theorem lo46 : loopsOf (c46) = [] := by kernel_rfl
noncomputable def l46 : List Loop := []
def Q46 {α : Type} (l : Option (r46).den → α) (an : α → α → α) (x : (a46).den) : α := l (some (x, ()))
theorem q46 (x : (a46).den) : runFn Try.prog E0 G46 Try.f46 l46 a46 r46 x = Q46 .leaf .any x := by kernel_rfl
def M46 (x : (a46).den) : Option (r46).den := Q46 (fun r => r) (fun _ _ => none) x
theorem m46 (x : (a46).den) : (runFn Try.prog E0 G46 Try.f46 l46 a46 r46 x).sure = M46 x := by rw [q46]; unfold M46 Q46; simp only [sure_cond, Tree.sure, sure_cl, sure_onExit, sure_onRet, sure_onPanL, sure_onNext, sure_onBrk, sure_onRetO, sure_onPan, sure_onOk, sure_onGPan]
def p46 (x : (a46).den) : Bool := (M46 x).isSome
def v46 (x : (a46).den) : (r46).den := (M46 x).getD (r46).dflt
def k46 : Con := ⟨a46, r46, p46, v46⟩
theorem h46 : Holds Try.prog 46 k46 := holds_of_M' (E := E0) follows_ok g46 eqTy_sound keyTy_sound at46 bd46 (by kernel_rfl) m46 fun G' hlo hF hE => LsOK_kn (by rw [lo46]; exact .nil)
/-- isobar/isobarlaw07.K -/
noncomputable def c69 : Code := Try.f69.body.getD .skip
theorem at69 : Try.prog.funcs[69]? = some Try.f69 := by kernel_rfl
theorem bd69 : Try.f69.body = some c69 := by kernel_rfl
theorem cl69 : Callable Try.prog 69 := callable_of at69 (by kernel_rfl) (by kernel_rfl)
abbrev a69 : Ty := .nil
abbrev r69 : Ty := T12
noncomputable def G69 : Ctx := Ctx.of [(46, .pure k46)]
theorem g69 : Sound Try.prog (G69) := sound_of (List.forall_mem_cons.2 ⟨⟨cl46, h46⟩, fun _ h => by cases h⟩)
theorem lo69 : loopsOf (c69) = [] := by kernel_rfl
noncomputable def l69 : List Loop := []
def Q69 {α : Type} (l : Option (r69).den → α) (an : α → α → α) (x : (a69).den) : α := cl (r46).dflt (M46 ((1000 : Int), ((1040 : Int), ()))) (fun u0 => cl (r46).dflt (M46 ((40 : Int), ((42 : Int), ()))) (fun u1 => cl (r46).dflt (M46 ((20 : Int), ((50 : Int), ()))) (fun u2 => l (some ((u0.1.1, (u0.1.2.1, (u1.1.1, (u1.1.2.1, u2.1)))), ()))) (l none)) (l none)) (l none)
theorem q69 (x : (a69).den) : runFn Try.prog E0 G69 Try.f69 l69 a69 r69 x = Q69 .leaf .any x := by kernel_rfl
def M69 (x : (a69).den) : Option (r69).den := Q69 (fun r => r) (fun _ _ => none) x
theorem m69 (x : (a69).den) : (runFn Try.prog E0 G69 Try.f69 l69 a69 r69 x).sure = M69 x := by rw [q69]; unfold M69 Q69; simp only [sure_cond, Tree.sure, sure_cl, sure_onExit, sure_onRet, sure_onPanL, sure_onNext, sure_onBrk, sure_onRetO, sure_onPan, sure_onOk, sure_onGPan]
def p69 (x : (a69).den) : Bool := (M69 x).isSome
def v69 (x : (a69).den) : (r69).den := (M69 x).getD (r69).dflt
def k69 : Con := ⟨a69, r69, p69, v69⟩
theorem h69 : Holds Try.prog 69 k69 := holds_of_M' (E := E0) follows_ok g69 eqTy_sound keyTy_sound at69 bd69 (by kernel_rfl) m69 fun G' hlo hF hE => LsOK_kn (by rw [lo69]; exact .nil)
/-- isobar/isobarlaw07.T -/
noncomputable def c70 : Code := Try.f70.body.getD .skip
theorem at70 : Try.prog.funcs[70]? = some Try.f70 := by kernel_rfl
theorem bd70 : Try.f70.body = some c70 := by kernel_rfl
theorem cl70 : Callable Try.prog 70 := callable_of at70 (by kernel_rfl) (by kernel_rfl)
abbrev T36 : Ty := (.cons (.sl T2) .nil)
abbrev T37 : Ty := (.cons tI T36)
abbrev T38 : Ty := (.cons tI T37)
abbrev T39 : Ty := (.agg T38)
abbrev T40 : Ty := (.cons T39 .nil)
abbrev a70 : Ty := .nil
abbrev r70 : Ty := T40
noncomputable def G70 : Ctx := Ctx.of [(46, .pure k46)]
theorem g70 : Sound Try.prog (G70) := sound_of (List.forall_mem_cons.2 ⟨⟨cl46, h46⟩, fun _ h => by cases h⟩)
theorem lo70 : loopsOf (c70) = [] := by kernel_rfl
noncomputable def l70 : List Loop := []
def Q70 {α : Type} (l : Option (r70).den → α) (an : α → α → α) (x : (a70).den) : α := cl (r46).dflt (M46 ((100 : Int), ((110 : Int), ()))) (fun u0 => cl (r46).dflt (M46 ((150 : Int), ((160 : Int), ()))) (fun u1 => cl (r46).dflt (M46 ((120 : Int), ((130 : Int), ()))) (fun u2 => cl (r46).dflt (M46 ((40 : Int), ((60 : Int), ()))) (fun u3 => l (some ((u0.1.1, (u0.1.2.1, ((⟨3, fun i => List.getD [((75000 : Int), u1.1), ((70000 : Int), u2.1), ((60000 : Int), u3.1)] i ((75000 : Int), u1.1)⟩ : Sl _), ()))), ()))) (l none)) (l none)) (l none)) (l none)
theorem q70 (x : (a70).den) : runFn Try.prog E0 G70 Try.f70 l70 a70 r70 x = Q70 .leaf .any x := by kernel_rfl
def M70 (x : (a70).den) : Option (r70).den := Q70 (fun r => r) (fun _ _ => none) x
theorem m70 (x : (a70).den) : (runFn Try.prog E0 G70 Try.f70 l70 a70 r70 x).sure = M70 x := by rw [q70]; unfold M70 Q70; simp only [sure_cond, Tree.sure, sure_cl, sure_onExit, sure_onRet, sure_onPanL, sure_onNext, sure_onBrk, sure_onRetO, sure_onPan, sure_onOk, sure_onGPan]
def p70 (x : (a70).den) : Bool := (M70 x).isSome
def v70 (x : (a70).den) : (r70).den := (M70 x).getD (r70).dflt
def k70 : Con := ⟨a70, r70, p70, v70⟩
theorem h70 : Holds Try.prog 70 k70 := holds_of_M' (E := E0) follows_ok g70 eqTy_sound keyTy_sound at70 bd70 (by kernel_rfl) m70 fun G' hlo hF hE => LsOK_kn (by rw [lo70]; exact .nil)
/-- isobar/isobarlaw07.F -/
noncomputable def c71 : Code := Try.f71.body.getD .skip
theorem at71 : Try.prog.funcs[71]? = some Try.f71 := by kernel_rfl
theorem bd71 : Try.f71.body = some c71 := by kernel_rfl
theorem cl71 : Callable Try.prog 71 := callable_of at71 (by kernel_rfl) (by kernel_rfl)
abbrev T41 : Ty := (.cons (.sl T9) T18)
abbrev T42 : Ty := (.agg T41)
abbrev T43 : Ty := (.cons T42 .nil)
abbrev a71 : Ty := .nil
abbrev r71 : Ty := T43
noncomputable def G71 : Ctx := Ctx.of [(46, .pure k46)]
theorem g71 : Sound Try.prog (G71) := sound_of (List.forall_mem_cons.2 ⟨⟨cl46, h46⟩, fun _ h => by cases h⟩)
theorem lo71 : loopsOf (c71) = [] := by kernel_rfl
noncomputable def l71 : List Loop := []
def Q71 {α : Type} (l : Option (r71).den → α) (an : α → α → α) (x : (a71).den) : α := cl (r46).dflt (M46 ((1 : Int), ((3 : Int), ()))) (fun u0 => cl (r46).dflt (M46 ((0 : Int), ((1 : Int), ()))) (fun u1 => cl (r46).dflt (M46 ((4 : Int), ((6 : Int), ()))) (fun u2 => cl (r46).dflt (M46 ((-2 : Int), ((0 : Int), ()))) (fun u3 => cl (r46).dflt (M46 ((200 : Int), ((200 : Int), ()))) (fun u4 => cl (r46).dflt (M46 ((400 : Int), ((400 : Int), ()))) (fun u5 => cl (r46).dflt (M46 ((1 : Int), ((2 : Int), ()))) (fun u6 => cl (r46).dflt (M46 ((40 : Int), ((41 : Int), ()))) (fun u7 => cl (r46).dflt (M46 ((-7 : Int), ((-6 : Int), ()))) (fun u8 => cl (r46).dflt (M46 ((0 : Int), ((20 : Int), ()))) (fun u9 => l (some (((⟨2, fun i => List.getD [((600 : Int), (u0.1.1, (u0.1.2.1, u1.1))), ((800 : Int), (u2.1.1, (u2.1.2.1, u3.1)))] i ((600 : Int), (u0.1.1, (u0.1.2.1, u1.1)))⟩ : Sl _), (u4.1.1, (u4.1.2.1, (u5.1.1, (u5.1.2.1, (u6.1.1, (u6.1.2.1, (u7.1.1, (u7.1.2.1, (u8.1.1, (u8.1.2.1, u9.1))))))))))), ()))) (l none)) (l none)) (l none)) (l none)) (l none)) (l none)) (l none)) (l none)) (l none)) (l none)
theorem q71 (x : (a71).den) : runFn Try.prog E0 G71 Try.f71 l71 a71 r71 x = Q71 .leaf .any x := by kernel_rfl
def M71 (x : (a71).den) : Option (r71).den := Q71 (fun r => r) (fun _ _ => none) x
theorem m71 (x : (a71).den) : (runFn Try.prog E0 G71 Try.f71 l71 a71 r71 x).sure = M71 x := by rw [q71]; unfold M71 Q71; simp only [sure_cond, Tree.sure, sure_cl, sure_onExit, sure_onRet, sure_onPanL, sure_onNext, sure_onBrk, sure_onRetO, sure_onPan, sure_onOk, sure_onGPan]
def p71 (x : (a71).den) : Bool := (M71 x).isSome
def v71 (x : (a71).den) : (r71).den := (M71 x).getD (r71).dflt
def k71 : Con := ⟨a71, r71, p71, v71⟩
theorem h71 : Holds Try.prog 71 k71 := holds_of_M' (E := E0) follows_ok g71 eqTy_sound keyTy_sound at71 bd71 (by kernel_rfl) m71 fun G' hlo hF hE => LsOK_kn (by rw [lo71]; exact .nil)
/-- isobar/isobarlaw07.within -/
noncomputable def c45 : Code := Try.f45.body.getD .skip
theorem at45 : Try.prog.funcs[45]? = some Try.f45 := by kernel_rfl
theorem bd45 : Try.f45.body = some c45 := by kernel_rfl
theorem cl45 : Callable Try.prog 45 := callable_of at45 (by kernel_rfl) (by kernel_rfl)
abbrev a45 : Ty := T7
abbrev r45 : Ty := T3
noncomputable def G45 : Ctx := Ctx.of []
theorem g45 : Sound Try.prog (G45) := sound_of (fun _ h => by cases h)
theorem lo45 : loopsOf (c45) = [] := by kernel_rfl
noncomputable def l45 : List Loop := []
def Q45 {α : Type} (l : Option (r45).den → α) (an : α → α → α) (x : (a45).den) : α := bif (decide (x.2.1.1 ≤ x.1)) then l (some ((decide (x.1 ≤ x.2.1.2.1)), ())) else l (some (false, ()))
theorem q45 (x : (a45).den) : runFn Try.prog E0 G45 Try.f45 l45 a45 r45 x = Q45 .leaf .any x := by kernel_rfl
def M45 (x : (a45).den) : Option (r45).den := Q45 (fun r => r) (fun _ _ => none) x
theorem m45 (x : (a45).den) : (runFn Try.prog E0 G45 Try.f45 l45 a45 r45 x).sure = M45 x := by rw [q45]; unfold M45 Q45; simp only [sure_cond, Tree.sure, sure_cl, sure_onExit, sure_onRet, sure_onPanL, sure_onNext, sure_onBrk, sure_onRetO, sure_onPan, sure_onOk, sure_onGPan]
def p45 (x : (a45).den) : Bool := (M45 x).isSome
def v45 (x : (a45).den) : (r45).den := (M45 x).getD (r45).dflt
def k45 : Con := ⟨a45, r45, p45, v45⟩
theorem h45 : Holds Try.prog 45 k45 := holds_of_M' (E := E0) follows_ok g45 eqTy_sound keyTy_sound at45 bd45 (by kernel_rfl) m45 fun G' hlo hF hE => LsOK_kn (by rw [lo45]; exact .nil)
/-- isobar/kite.validTrace -/
noncomputable def c72 : Code := Try.f72.body.getD .skip
theorem at72 : Try.prog.funcs[72]? = some Try.f72 := by kernel_rfl
theorem bd72 : Try.f72.body = some c72 := by kernel_rfl
theorem cl72 : Callable Try.prog 72 := callable_of at72 (by kernel_rfl) (by kernel_rfl)
abbrev a72 : Ty := T40
abbrev r72 : Ty := T3
noncomputable def G72 : Ctx := Ctx.of [(102, .pure k102), (104, .pure k104)]
theorem g72 : Sound Try.prog (G72) := sound_of (List.forall_mem_cons.2 ⟨⟨cl102, h102⟩, List.forall_mem_cons.2 ⟨⟨cl104, h104⟩, fun _ h => by cases h⟩⟩)
noncomputable def b72x0 : Code := loopBody ((loopsOf (c72))[0]?)
theorem lo72x0 : loopsOf (b72x0) = [] := by kernel_rfl
abbrev cs72x0 : List Pat := [.slot 1 (.ptr 1), .slot 7 (.pc (.sl T2)), .slot 8 (.pc tI), .box 1 [.pc tI, .pc tI, .pc (.sl T2)]]
abbrev vs72x0 : List Pat := [.slot 3 (.pc tI), .slot 9 (.pc tI)]
abbrev ps72x0 : List Pat := [.slot 1 (.ptr 1), .slot 7 (.pc (.sl T2)), .slot 8 (.pc tI), .box 1 [.pc tI, .pc tI, .pc (.sl T2)], .slot 3 (.pc tI), .slot 9 (.pc tI)]
def j72x0 : (patsTy cs72x0).den → (patsTy vs72x0).den → (patsTy ps72x0).den := fun c v => (c.1, (c.2.1, (c.2.2.1, (c.2.2.2.1, v))))
def sp72x0 : (patsTy ps72x0).den → (patsTy cs72x0).den × (patsTy vs72x0).den := fun x => ((x.1, (x.2.1, (x.2.2.1, (x.2.2.2.1, ())))), x.2.2.2.2)
abbrev wy72x0 : Ways := ⟨[(0, [.slot 1 (.ptr 1), .box 1 [.pc tI, .pc tI, .pc (.sl T2)]])], [.slot 2 (.pc .bool)], []⟩
abbrev wv72x0 : Ways := ⟨[(0, [])], [.slot 2 (.pc .bool)], []⟩
def je72x0 : (id : Nat) → (patsTy cs72x0).den → (patsTy (wayP wv72x0 id)).den → (patsTy (wayP wy72x0 id)).den := fun id => match id with | 0 => fun c y => (c.1, (c.2.2.2.1, y)) | id => fun _ _ => (patsTy (wayP wy72x0 id)).dflt
def jr72x0 : (patsTy cs72x0).den → (patsTy (wv72x0).ret).den → (patsTy (wy72x0).ret).den := fun c y => y
def jp72x0 : (patsTy cs72x0).den → (patsTy (wv72x0).pan).den → (patsTy (wy72x0).pan).den := fun c y => y
def Z72x0 {α : Type} (l : RQ vs72x0 wv72x0 → α) (an : α → α → α) (c : (patsTy cs72x0).den) (v : (patsTy vs72x0).den) : α := bif (decide (v.2.1 < c.2.2.1)) then bif (decide (((0 : Int) ≤ v.2.1) ∧ (v.2.1 < ((c.2.1.n : Nat) : Int)))) then cl (r102).dflt (M102 ((c.2.1.g (Int.toNat v.2.1)).1, ((1 : Int), ((W (v.1 - (1 : Int))), ())))) (fun u0 => bif (!u0.1) then l (.out (.ret (false, ()))) else cl (r104).dflt (M104 ((c.2.1.g (Int.toNat v.2.1)).2, ((-900 : Int), ((500 : Int), ())))) (fun u1 => bif (!u1.1) then l (.out (.ret (false, ()))) else l (.next ((c.2.1.g (Int.toNat v.2.1)).1, ((W (v.2.1 + (1 : Int))), ())))) (l .bad)) (l .bad) else l .bad else l (.out (.exit 0 ()))
theorem z72x0 (c : (patsTy cs72x0).den) (v : (patsTy vs72x0).den) : roundQ Try.prog E0 G72 0 37 [] ps72x0 wy72x0 b72x0 [] (j72x0 c v) = Z72x0 (fun r => .leaf (r.lift j72x0 je72x0 jr72x0 jp72x0 c)) .any c v := by kernel_rfl
def S72x0 (c : (patsTy cs72x0).den) (v : (patsTy vs72x0).den) : RQ vs72x0 wv72x0 := Z72x0 (fun r => r) (fun _ _ => .bad) c v
theorem s72x0 (c : (patsTy cs72x0).den) (v : (patsTy vs72x0).den) : detQ (roundQ Try.prog E0 G72 0 37 [] ps72x0 wy72x0 b72x0 [] (j72x0 c v)) = (S72x0 c v).lift j72x0 je72x0 jr72x0 jp72x0 c := by rw [z72x0]; unfold S72x0 Z72x0; simp only [detQ_cond, lift_cond, lift_bad, detQ, detQ_cl, detQ_onExit, detQ_onRet, detQ_onPanL, detQ_onNext, detQ_onBrk, detQ_onRetO, detQ_onPan, detQ_onOk, detQ_onGPan, lift_cl, lift_onExit, lift_onRet, lift_onPanL, lift_onNext, lift_onBrk, lift_onRetO, lift_onPan, lift_onOk, lift_onGPan]
def L72x0 (c : (patsTy cs72x0).den) (v : (patsTy vs72x0).den) : LQ wv72x0 := iterQ (S72x0 c) big v
theorem lo72 : loopsOf (c72) = [.loop b72x0] := by kernel_rfl
noncomputable def l72 : List Loop := [.known (loopZ 0 [] ps72x0 fun x => spreadV wy72x0 je72x0 jr72x0 jp72x0 [] true (sp72x0 x).1 (L72x0 (sp72x0 x).1 (sp72x0 x).2) wy72x0.exits)]
def Q72 {α : Type} (l : Option (r72).den → α) (an : α → α → α) (x : (a72).den) : α := onExit (L72x0 ((), (x.1.2.2.1, (((x.1.2.2.1.n : Nat) : Int), (x.1, ())))) ((100000 : Int), ((0 : Int), ()))) 0 (fun u2 => cl (r104).dflt (M104 ((x.1.1, (x.1.2.1, ())), ((-5000 : Int), ((5000 : Int), ())))) (fun u3 => bif u3.1 then cl (r102).dflt (M102 (((x.1.2.2.1.n : Nat) : Int), ((1 : Int), ((8 : Int), ())))) (fun u4 => l (some u4)) (l none) else l (some (false, ()))) (l none)) (onRet (L72x0 ((), (x.1.2.2.1, (((x.1.2.2.1.n : Nat) : Int), (x.1, ())))) ((100000 : Int), ((0 : Int), ()))) (fun u5 => l (some u5)) (l none))
theorem q72 (x : (a72).den) : runFn Try.prog E0 G72 Try.f72 l72 a72 r72 x = Q72 .leaf .any x := by kernel_rfl
def M72 (x : (a72).den) : Option (r72).den := Q72 (fun r => r) (fun _ _ => none) x
theorem m72 (x : (a72).den) : (runFn Try.prog E0 G72 Try.f72 l72 a72 r72 x).sure = M72 x := by rw [q72]; unfold M72 Q72; simp only [sure_cond, Tree.sure, sure_cl, sure_onExit, sure_onRet, sure_onPanL, sure_onNext, sure_onBrk, sure_onRetO, sure_onPan, sure_onOk, sure_onGPan]
def p72 (x : (a72).den) : Bool := (M72 x).isSome
def v72 (x : (a72).den) : (r72).den := (M72 x).getD (r72).dflt
def k72 : Con := ⟨a72, r72, p72, v72⟩
theorem h72 : Holds Try.prog 72 k72 := holds_of_M' (E := E0) follows_ok g72 eqTy_sound keyTy_sound at72 bd72 (by kernel_rfl) m72 fun G' hlo hF hE => LsOK_kn (by rw [lo72]; exact .cons (loopV_ok hE hF hlo (LsOK_kn (by rw [lo72x0]; exact .nil)) (by kernel_rfl) (by kernel_rfl) sp72x0 (fun _ => rfl) (fun _ _ => rfl) (s72x0) big) (.nil))
/-- isobar/kite.heights -/
noncomputable def c74 : Code := Try.f74.body.getD .skip
theorem at74 : Try.prog.funcs[74]? = some Try.f74 := by kernel_rfl
theorem bd74 : Try.f74.body = some c74 := by kernel_rfl
theorem cl74 : Callable Try.prog 74 := callable_of at74 (by kernel_rfl) (by kernel_rfl)
abbrev T44 : Ty := (.cons (.sl T0) .nil)
abbrev T45 : Ty := (.cons tI T44)
abbrev T46 : Ty := (.cons T39 T45)
abbrev a74 : Ty := T46
abbrev r74 : Ty := T44
noncomputable def G74 : Ctx := Ctx.of []
theorem g74 : Sound Try.prog (G74) := sound_of (fun _ h => by cases h)
noncomputable def b74x0 : Code := loopBody ((loopsOf (c74))[0]?)
theorem lo74x0 : loopsOf (b74x0) = [] := by kernel_rfl
abbrev cs74x0 : List Pat := [.slot 2 (.pc (.sl T0)), .slot 3 (.ptr 3), .box 3 [.pc tI, .pc tI, .pc (.sl T2)]]
abbrev vs74x0 : List Pat := [.slot 1 (.pc tI), .slot 7 (.own 73 3 T0), .slot 8 (.pc tI)]
abbrev ps74x0 : List Pat := [.slot 2 (.pc (.sl T0)), .slot 3 (.ptr 3), .box 3 [.pc tI, .pc tI, .pc (.sl T2)], .slot 1 (.pc tI), .slot 7 (.own 73 3 T0), .slot 8 (.pc tI)]
def j74x0 : (patsTy cs74x0).den → (patsTy vs74x0).den → (patsTy ps74x0).den := fun c v => (c.1, (c.2.1, (c.2.2.1, v)))
def sp74x0 : (patsTy ps74x0).den → (patsTy cs74x0).den × (patsTy vs74x0).den := fun x => ((x.1, (x.2.1, (x.2.2.1, ()))), x.2.2.2)
abbrev wy74x0 : Ways := ⟨[(0, [.slot 7 (.pc (.sl T0))])], [], []⟩
abbrev wv74x0 : Ways := ⟨[(0, [.slot 7 (.pc (.sl T0))])], [], []⟩
def je74x0 : (id : Nat) → (patsTy cs74x0).den → (patsTy (wayP wv74x0 id)).den → (patsTy (wayP wy74x0 id)).den := fun id => match id with | 0 => fun c y => y | id => fun _ _ => (patsTy (wayP wy74x0 id)).dflt
def jr74x0 : (patsTy cs74x0).den → (patsTy (wv74x0).ret).den → (patsTy (wy74x0).ret).den := fun c y => y
def jp74x0 : (patsTy cs74x0).den → (patsTy (wv74x0).pan).den → (patsTy (wy74x0).pan).den := fun c y => y
def Z74x0 {α : Type} (l : RQ vs74x0 wv74x0 → α) (an : α → α → α) (c : (patsTy cs74x0).den) (v : (patsTy vs74x0).den) : α := bif (decide (v.2.2.1 < ((c.2.2.1.2.2.1.n : Nat) : Int))) then bif (decide (((0 : Int) ≤ (W (v.2.2.1 - (1 : Int)))) ∧ ((W (v.2.2.1 - (1 : Int))) < ((c.2.2.1.2.2.1.n : Nat) : Int)))) then bif (decide (((0 : Int) ≤ v.2.2.1) ∧ (v.2.2.1 < ((c.2.2.1.2.2.1.n : Nat) : Int)))) then bif (decide (((0 : Int) ≤ (W (v.2.2.1 - (1 : Int)))) ∧ ((W (v.2.2.1 - (1 : Int))) < ((c.1.n : Nat) : Int)))) then bif (decide (((0 : Int) ≤ v.2.2.1) ∧ (v.2.2.1 < ((c.1.n : Nat) : Int)))) then bif (decide ((W ((1000 : Int) * (W ((c.2.2.1.2.2.1.g (Int.toNat (W (v.2.2.1 - (1 : Int))))).1 + (c.2.2.1.2.2.1.g (Int.toNat v.2.2.1)).1)))) = (0 : Int))) then l .bad else bif (decide (((v.2.1.n + 1) * 8) ≤ 140737488355328)) then l (.next ((W (v.1 + (W (Int.tdiv (W ((W ((W ((W ((5464 : Int) + (c.1.g (Int.toNat (W (v.2.2.1 - (1 : Int))))).1)) + (c.1.g (Int.toNat v.2.2.1)).1)) * (W ((c.2.2.1.2.2.1.g (Int.toNat (W (v.2.2.1 - (1 : Int))))).1 - (c.2.2.1.2.2.1.g (Int.toNat v.2.2.1)).1)))) * (2927 : Int))) (W ((1000 : Int) * (W ((c.2.2.1.2.2.1.g (Int.toNat (W (v.2.2.1 - (1 : Int))))).1 + (c.2.2.1.2.2.1.g (Int.toNat v.2.2.1)).1)))))))), ((catSl v.2.1 (⟨1, fun i => List.getD [((W (v.1 + (W (Int.tdiv (W ((W ((W ((W ((5464 : Int) + (c.1.g (Int.toNat (W (v.2.2.1 - (1 : Int))))).1)) + (c.1.g (Int.toNat v.2.2.1)).1)) * (W ((c.2.2.1.2.2.1.g (Int.toNat (W (v.2.2.1 - (1 : Int))))).1 - (c.2.2.1.2.2.1.g (Int.toNat v.2.2.1)).1)))) * (2927 : Int))) (W ((1000 : Int) * (W ((c.2.2.1.2.2.1.g (Int.toNat (W (v.2.2.1 - (1 : Int))))).1 + (c.2.2.1.2.2.1.g (Int.toNat v.2.2.1)).1)))))))), ())] i ((W (v.1 + (W (Int.tdiv (W ((W ((W ((W ((5464 : Int) + (c.1.g (Int.toNat (W (v.2.2.1 - (1 : Int))))).1)) + (c.1.g (Int.toNat v.2.2.1)).1)) * (W ((c.2.2.1.2.2.1.g (Int.toNat (W (v.2.2.1 - (1 : Int))))).1 - (c.2.2.1.2.2.1.g (Int.toNat v.2.2.1)).1)))) * (2927 : Int))) (W ((1000 : Int) * (W ((c.2.2.1.2.2.1.g (Int.toNat (W (v.2.2.1 - (1 : Int))))).1 + (c.2.2.1.2.2.1.g (Int.toNat v.2.2.1)).1)))))))), ())⟩ : Sl (Ty.den T0))), ((W (v.2.2.1 + (1 : Int))), ())))) else l .bad else l .bad else l .bad else l .bad else l .bad else l (.out (.exit 0 (v.2.1, ())))
theorem z74x0 (c : (patsTy cs74x0).den) (v : (patsTy vs74x0).den) : roundQ Try.prog E0 G74 0 61 [] ps74x0 wy74x0 b74x0 [] (j74x0 c v) = Z74x0 (fun r => .leaf (r.lift j74x0 je74x0 jr74x0 jp74x0 c)) .any c v := by kernel_rfl
def S74x0 (c : (patsTy cs74x0).den) (v : (patsTy vs74x0).den) : RQ vs74x0 wv74x0 := Z74x0 (fun r => r) (fun _ _ => .bad) c v
theorem s74x0 (c : (patsTy cs74x0).den) (v : (patsTy vs74x0).den) : detQ (roundQ Try.prog E0 G74 0 61 [] ps74x0 wy74x0 b74x0 [] (j74x0 c v)) = (S74x0 c v).lift j74x0 je74x0 jr74x0 jp74x0 c := by rw [z74x0]; unfold S74x0 Z74x0; simp only [detQ_cond, lift_cond, lift_bad, detQ, detQ_cl, detQ_onExit, detQ_onRet, detQ_onPanL, detQ_onNext, detQ_onBrk, detQ_onRetO, detQ_onPan, detQ_onOk, detQ_onGPan, lift_cl, lift_onExit, lift_onRet, lift_onPanL, lift_onNext, lift_onBrk, lift_onRetO, lift_onPan, lift_onOk, lift_onGPan]
def L74x0 (c : (patsTy cs74x0).den) (v : (patsTy vs74x0).den) : LQ wv74x0 := iterQ (S74x0 c) big v
theorem lo74 : loopsOf (c74) = [.loop b74x0] := by kernel_rfl
noncomputable def l74 : List Loop := [.known (loopZ 0 [] ps74x0 fun x => spreadV wy74x0 je74x0 jr74x0 jp74x0 [] false (sp74x0 x).1 (L74x0 (sp74x0 x).1 (sp74x0 x).2) wy74x0.exits)]
def Q74 {α : Type} (l : Option (r74).den → α) (an : α → α → α) (x : (a74).den) : α := onExit (L74x0 (x.2.2.1, ((), (x.1, ()))) (x.2.1, ((⟨1, fun i => List.getD [(x.2.1, ())] i (x.2.1, ())⟩ : Sl _), ((1 : Int), ())))) 0 (fun u0 => l (some u0)) (l none)
theorem q74 (x : (a74).den) : runFn Try.prog E0 G74 Try.f74 l74 a74 r74 x = Q74 .leaf .any x := by kernel_rfl
def M74 (x : (a74).den) : Option (r74).den := Q74 (fun r => r) (fun _ _ => none) x
theorem m74 (x : (a74).den) : (runFn Try.prog E0 G74 Try.f74 l74 a74 r74 x).sure = M74 x := by rw [q74]; unfold M74 Q74; simp only [sure_cond, Tree.sure, sure_cl, sure_onExit, sure_onRet, sure_onPanL, sure_onNext, sure_onBrk, sure_onRetO, sure_onPan, sure_onOk, sure_onGPan]
def p74 (x : (a74).den) : Bool := (M74 x).isSome
def v74 (x : (a74).den) : (r74).den := (M74 x).getD (r74).dflt
def k74 : Con := ⟨a74, r74, p74, v74⟩
theorem h74 : Holds Try.prog 74 k74 := holds_of_M' (E := E0) follows_ok g74 eqTy_sound keyTy_sound at74 bd74 (by kernel_rfl) m74 fun G' hlo hF hE => LsOK_kn (by rw [lo74]; exact .cons (loopV_ok hE hF hlo (LsOK_kn (by rw [lo74x0]; exact .nil)) (by kernel_rfl) (by kernel_rfl) sp74x0 (fun _ => rfl) (fun _ _ => rfl) (s74x0) big) (.nil))
/-- isobar/kite.Levels -/
noncomputable def c40 : Code := Try.f40.body.getD .skip
theorem at40 : Try.prog.funcs[40]? = some Try.f40 := by kernel_rfl
theorem bd40 : Try.f40.body = some c40 := by kernel_rfl
theorem cl40 : Callable Try.prog 40 := callable_of at40 (by kernel_rfl) (by kernel_rfl)
abbrev T47 : Ty := (.cons (.sl T1) T0)
abbrev a40 : Ty := T40
abbrev r40 : Ty := T47
noncomputable def G40 : Ctx := Ctx.of [(72, .pure k72), (74, .pure k74)]
theorem g40 : Sound Try.prog (G40) := sound_of (List.forall_mem_cons.2 ⟨⟨cl72, h72⟩, List.forall_mem_cons.2 ⟨⟨cl74, h74⟩, fun _ h => by cases h⟩⟩)
noncomputable def b40x0 : Code := loopBody ((loopsOf (c40))[0]?)
theorem lo40x0 : loopsOf (b40x0) = [] := by kernel_rfl
abbrev cs40x0 : List Pat := [.slot 1 (.ptr 1), .slot 16 (.pc (.sl T2)), .slot 17 (.pc tI), .box 1 [.pc tI, .pc tI, .pc (.sl T2)]]
abbrev vs40x0 : List Pat := [.slot 4 (.own 1000004 3 T0), .slot 5 (.own 1000005 3 T0), .slot 18 (.pc tI)]
abbrev ps40x0 : List Pat := [.slot 1 (.ptr 1), .slot 16 (.pc (.sl T2)), .slot 17 (.pc tI), .box 1 [.pc tI, .pc tI, .pc (.sl T2)], .slot 4 (.own 1000004 3 T0), .slot 5 (.own 1000005 3 T0), .slot 18 (.pc tI)]
def j40x0 : (patsTy cs40x0).den → (patsTy vs40x0).den → (patsTy ps40x0).den := fun c v => (c.1, (c.2.1, (c.2.2.1, (c.2.2.2.1, v))))
def sp40x0 : (patsTy ps40x0).den → (patsTy cs40x0).den × (patsTy vs40x0).den := fun x => ((x.1, (x.2.1, (x.2.2.1, (x.2.2.2.1, ())))), x.2.2.2.2)
abbrev wy40x0 : Ways := ⟨[(0, [.slot 1 (.ptr 1), .box 1 [.pc tI, .pc tI, .pc (.sl T2)], .slot 4 (.pc (.sl T0)), .slot 5 (.pc (.sl T0))])], [], []⟩
abbrev wv40x0 : Ways := ⟨[(0, [.slot 4 (.pc (.sl T0)), .slot 5 (.pc (.sl T0))])], [], []⟩
def je40x0 : (id : Nat) → (patsTy cs40x0).den → (patsTy (wayP wv40x0 id)).den → (patsTy (wayP wy40x0 id)).den := fun id => match id with | 0 => fun c y => (c.1, (c.2.2.2.1, y)) | id => fun _ _ => (patsTy (wayP wy40x0 id)).dflt
def jr40x0 : (patsTy cs40x0).den → (patsTy (wv40x0).ret).den → (patsTy (wy40x0).ret).den := fun c y => y
def jp40x0 : (patsTy cs40x0).den → (patsTy (wv40x0).pan).den → (patsTy (wy40x0).pan).den := fun c y => y
def Z40x0 {α : Type} (l : RQ vs40x0 wv40x0 → α) (an : α → α → α) (c : (patsTy cs40x0).den) (v : (patsTy vs40x0).den) : α := bif (decide (v.2.2.1 < c.2.2.1)) then bif (decide (((0 : Int) ≤ v.2.2.1) ∧ (v.2.2.1 < ((c.2.1.n : Nat) : Int)))) then bif (decide (((v.1.n + 1) * 8) ≤ 140737488355328)) then bif (decide (((v.2.1.n + 1) * 8) ≤ 140737488355328)) then l (.next ((catSl v.1 (⟨1, fun i => List.getD [((c.2.1.g (Int.toNat v.2.2.1)).2.1, ())] i ((c.2.1.g (Int.toNat v.2.2.1)).2.1, ())⟩ : Sl (Ty.den T0))), ((catSl v.2.1 (⟨1, fun i => List.getD [(c.2.1.g (Int.toNat v.2.2.1)).2.2] i (c.2.1.g (Int.toNat v.2.2.1)).2.2⟩ : Sl (Ty.den T0))), ((W (v.2.2.1 + (1 : Int))), ())))) else l .bad else l .bad else l .bad else l (.out (.exit 0 (v.1, (v.2.1, ()))))
theorem z40x0 (c : (patsTy cs40x0).den) (v : (patsTy vs40x0).den) : roundQ Try.prog E0 G40 0 67 [] ps40x0 wy40x0 b40x0 [] (j40x0 c v) = Z40x0 (fun r => .leaf (r.lift j40x0 je40x0 jr40x0 jp40x0 c)) .any c v := by kernel_rfl
def S40x0 (c : (patsTy cs40x0).den) (v : (patsTy vs40x0).den) : RQ vs40x0 wv40x0 := Z40x0 (fun r => r) (fun _ _ => .bad) c v
theorem s40x0 (c : (patsTy cs40x0).den) (v : (patsTy vs40x0).den) : detQ (roundQ Try.prog E0 G40 0 67 [] ps40x0 wy40x0 b40x0 [] (j40x0 c v)) = (S40x0 c v).lift j40x0 je40x0 jr40x0 jp40x0 c := by rw [z40x0]; unfold S40x0 Z40x0; simp only [detQ_cond, lift_cond, lift_bad, detQ, detQ_cl, detQ_onExit, detQ_onRet, detQ_onPanL, detQ_onNext, detQ_onBrk, detQ_onRetO, detQ_onPan, detQ_onOk, detQ_onGPan, lift_cl, lift_onExit, lift_onRet, lift_onPanL, lift_onNext, lift_onBrk, lift_onRetO, lift_onPan, lift_onOk, lift_onGPan]
def L40x0 (c : (patsTy cs40x0).den) (v : (patsTy vs40x0).den) : LQ wv40x0 := iterQ (S40x0 c) big v
noncomputable def b40x1 : Code := loopBody ((loopsOf (c40))[1]?)
theorem lo40x1 : loopsOf (b40x1) = [] := by kernel_rfl
abbrev cs40x1 : List Pat := [.slot 8 (.pc (.sl T0)), .slot 9 (.pc (.sl T0)), .slot 49 (.pc tI)]
abbrev vs40x1 : List Pat := [.slot 10 (.own 1000010 23 T1), .slot 50 (.pc tI)]
abbrev ps40x1 : List Pat := [.slot 8 (.pc (.sl T0)), .slot 9 (.pc (.sl T0)), .slot 49 (.pc tI), .slot 10 (.own 1000010 23 T1), .slot 50 (.pc tI)]
def j40x1 : (patsTy cs40x1).den → (patsTy vs40x1).den → (patsTy ps40x1).den := fun c v => (c.1, (c.2.1, (c.2.2.1, v)))
def sp40x1 : (patsTy ps40x1).den → (patsTy cs40x1).den × (patsTy vs40x1).den := fun x => ((x.1, (x.2.1, (x.2.2.1, ()))), x.2.2.2)
abbrev wy40x1 : Ways := ⟨[(2, [.slot 10 (.pc (.sl T1))])], [], []⟩
abbrev wv40x1 : Ways := ⟨[(2, [.slot 10 (.pc (.sl T1))])], [], []⟩
def je40x1 : (id : Nat) → (patsTy cs40x1).den → (patsTy (wayP wv40x1 id)).den → (patsTy (wayP wy40x1 id)).den := fun id => match id with | 2 => fun c y => y | id => fun _ _ => (patsTy (wayP wy40x1 id)).dflt
def jr40x1 : (patsTy cs40x1).den → (patsTy (wv40x1).ret).den → (patsTy (wy40x1).ret).den := fun c y => y
def jp40x1 : (patsTy cs40x1).den → (patsTy (wv40x1).pan).den → (patsTy (wy40x1).pan).den := fun c y => y
def Z40x1 {α : Type} (l : RQ vs40x1 wv40x1 → α) (an : α → α → α) (c : (patsTy cs40x1).den) (v : (patsTy vs40x1).den) : α := bif (decide (v.2.1 < c.2.2.1)) then bif (decide (((0 : Int) ≤ v.2.1) ∧ (v.2.1 < ((c.1.n : Nat) : Int)))) then bif (decide (((0 : Int) ≤ v.2.1) ∧ (v.2.1 < ((c.2.1.n : Nat) : Int)))) then bif (decide (((v.1.n + 1) * 16) ≤ 140737488355328)) then l (.next ((catSl v.1 (⟨1, fun i => List.getD [((c.1.g (Int.toNat v.2.1)).1, (c.2.1.g (Int.toNat v.2.1)))] i ((c.1.g (Int.toNat v.2.1)).1, (c.2.1.g (Int.toNat v.2.1)))⟩ : Sl (Ty.den T1))), ((W (v.2.1 + (1 : Int))), ()))) else l .bad else l .bad else l .bad else l (.out (.exit 2 (v.1, ())))
theorem z40x1 (c : (patsTy cs40x1).den) (v : (patsTy vs40x1).den) : roundQ Try.prog E0 G40 0 67 [] ps40x1 wy40x1 b40x1 [] (j40x1 c v) = Z40x1 (fun r => .leaf (r.lift j40x1 je40x1 jr40x1 jp40x1 c)) .any c v := by kernel_rfl
def S40x1 (c : (patsTy cs40x1).den) (v : (patsTy vs40x1).den) : RQ vs40x1 wv40x1 := Z40x1 (fun r => r) (fun _ _ => .bad) c v
theorem s40x1 (c : (patsTy cs40x1).den) (v : (patsTy vs40x1).den) : detQ (roundQ Try.prog E0 G40 0 67 [] ps40x1 wy40x1 b40x1 [] (j40x1 c v)) = (S40x1 c v).lift j40x1 je40x1 jr40x1 jp40x1 c := by rw [z40x1]; unfold S40x1 Z40x1; simp only [detQ_cond, lift_cond, lift_bad, detQ, detQ_cl, detQ_onExit, detQ_onRet, detQ_onPanL, detQ_onNext, detQ_onBrk, detQ_onRetO, detQ_onPan, detQ_onOk, detQ_onGPan, lift_cl, lift_onExit, lift_onRet, lift_onPanL, lift_onNext, lift_onBrk, lift_onRetO, lift_onPan, lift_onOk, lift_onGPan]
def L40x1 (c : (patsTy cs40x1).den) (v : (patsTy vs40x1).den) : LQ wv40x1 := iterQ (S40x1 c) big v
theorem lo40 : loopsOf (c40) = [.loop b40x0, .loop b40x1] := by kernel_rfl
noncomputable def l40 : List Loop := [.known (loopZ 0 [] ps40x0 fun x => spreadV wy40x0 je40x0 jr40x0 jp40x0 [] false (sp40x0 x).1 (L40x0 (sp40x0 x).1 (sp40x0 x).2) wy40x0.exits), .known (loopZ 0 [] ps40x1 fun x => spreadV wy40x1 je40x1 jr40x1 jp40x1 [] false (sp40x1 x).1 (L40x1 (sp40x1 x).1 (sp40x1 x).2) wy40x1.exits)]
def Q40 {α : Type} (l : Option (r40).den → α) (an : α → α → α) (x : (a40).den) : α := cl (r72).dflt (M72 (x.1, ())) (fun u0 => bif (!u0.1) then l (some ((⟨0, fun i => ((0 : Int), ((0 : Int), ()))⟩ : Sl _), ((2 : Int), ()))) else onExit (L40x0 ((), (x.1.2.2.1, (((x.1.2.2.1.n : Nat) : Int), (x.1, ())))) ((⟨0, fun i => ((0 : Int), ())⟩ : Sl _), ((⟨0, fun i => ((0 : Int), ())⟩ : Sl _), ((0 : Int), ())))) 0 (fun u1 => cl (r74).dflt (M74 (x.1, (x.1.1, (u1.1, ())))) (fun u2 => cl (r74).dflt (M74 (x.1, (x.1.2.1, u1.2))) (fun u3 => onExit (L40x1 (u2.1, (u3.1, (((x.1.2.2.1.n : Nat) : Int), ()))) ((⟨0, fun i => ((0 : Int), ((0 : Int), ()))⟩ : Sl _), ((0 : Int), ()))) 2 (fun u4 => l (some (u4.1, ((0 : Int), ())))) (l none)) (l none)) (l none)) (l none)) (l none)
theorem q40 (x : (a40).den) : runFn Try.prog E0 G40 Try.f40 l40 a40 r40 x = Q40 .leaf .any x := by kernel_rfl
def M40 (x : (a40).den) : Option (r40).den := Q40 (fun r => r) (fun _ _ => none) x
theorem m40 (x : (a40).den) : (runFn Try.prog E0 G40 Try.f40 l40 a40 r40 x).sure = M40 x := by rw [q40]; unfold M40 Q40; simp only [sure_cond, Tree.sure, sure_cl, sure_onExit, sure_onRet, sure_onPanL, sure_onNext, sure_onBrk, sure_onRetO, sure_onPan, sure_onOk, sure_onGPan]
def p40 (x : (a40).den) : Bool := (M40 x).isSome
def v40 (x : (a40).den) : (r40).den := (M40 x).getD (r40).dflt
def k40 : Con := ⟨a40, r40, p40, v40⟩
theorem h40 : Holds Try.prog 40 k40 := holds_of_M' (E := E0) follows_ok g40 eqTy_sound keyTy_sound at40 bd40 (by kernel_rfl) m40 fun G' hlo hF hE => LsOK_kn (by rw [lo40]; exact .cons (loopV_ok hE hF hlo (LsOK_kn (by rw [lo40x0]; exact .nil)) (by kernel_rfl) (by kernel_rfl) sp40x0 (fun _ => rfl) (fun _ _ => rfl) (s40x0) big) (.cons (loopV_ok hE hF hlo (LsOK_kn (by rw [lo40x1]; exact .nil)) (by kernel_rfl) (by kernel_rfl) sp40x1 (fun _ => rfl) (fun _ _ => rfl) (s40x1) big) (.nil)))
/-- isobar/kite.Rise -/
noncomputable def c22 : Code := Try.f22.body.getD .skip
theorem at22 : Try.prog.funcs[22]? = some Try.f22 := by kernel_rfl
theorem bd22 : Try.f22.body = some c22 := by kernel_rfl
theorem cl22 : Callable Try.prog 22 := callable_of at22 (by kernel_rfl) (by kernel_rfl)
abbrev T48 : Ty := (.cons (.sl T0) T0)
abbrev a22 : Ty := T46
abbrev r22 : Ty := T48
noncomputable def G22 : Ctx := Ctx.of [(72, .pure k72), (73, .pure k73), (74, .pure k74)]
theorem g22 : Sound Try.prog (G22) := sound_of (List.forall_mem_cons.2 ⟨⟨cl72, h72⟩, List.forall_mem_cons.2 ⟨⟨cl73, h73⟩, List.forall_mem_cons.2 ⟨⟨cl74, h74⟩, fun _ h => by cases h⟩⟩⟩)
noncomputable def b22x0 : Code := loopBody ((loopsOf (c22))[0]?)
theorem lo22x0 : loopsOf (b22x0) = [] := by kernel_rfl
abbrev cs22x0 : List Pat := [.slot 1 (.pc tI), .slot 2 (.pc (.sl T0)), .slot 3 (.ptr 3), .slot 28 (.pc (.sl T0)), .slot 29 (.pc tI), .box 3 [.pc tI, .pc tI, .pc (.sl T2)]]
abbrev vs22x0 : List Pat := [.slot 30 (.pc tI)]
abbrev ps22x0 : List Pat := [.slot 1 (.pc tI), .slot 2 (.pc (.sl T0)), .slot 3 (.ptr 3), .slot 28 (.pc (.sl T0)), .slot 29 (.pc tI), .box 3 [.pc tI, .pc tI, .pc (.sl T2)], .slot 30 (.pc tI)]
def j22x0 : (patsTy cs22x0).den → (patsTy vs22x0).den → (patsTy ps22x0).den := fun c v => (c.1, (c.2.1, (c.2.2.1, (c.2.2.2.1, (c.2.2.2.2.1, (c.2.2.2.2.2.1, v))))))
def sp22x0 : (patsTy ps22x0).den → (patsTy cs22x0).den × (patsTy vs22x0).den := fun x => ((x.1, (x.2.1, (x.2.2.1, (x.2.2.2.1, (x.2.2.2.2.1, (x.2.2.2.2.2.1, ())))))), x.2.2.2.2.2.2)
abbrev wy22x0 : Ways := ⟨[(0, [.slot 1 (.pc tI), .slot 2 (.pc (.sl T0)), .slot 3 (.ptr 3), .box 3 [.pc tI, .pc tI, .pc (.sl T2)]])], [.slot 6 (.pc (.sl T0)), .slot 7 (.pc tI)], []⟩
abbrev wv22x0 : Ways := ⟨[(0, [])], [.slot 6 (.pc (.sl T0)), .slot 7 (.pc tI)], []⟩
def je22x0 : (id : Nat) → (patsTy cs22x0).den → (patsTy (wayP wv22x0 id)).den → (patsTy (wayP wy22x0 id)).den := fun id => match id with | 0 => fun c y => (c.1, (c.2.1, (c.2.2.1, (c.2.2.2.2.2.1, y)))) | id => fun _ _ => (patsTy (wayP wy22x0 id)).dflt
def jr22x0 : (patsTy cs22x0).den → (patsTy (wv22x0).ret).den → (patsTy (wy22x0).ret).den := fun c y => y
def jp22x0 : (patsTy cs22x0).den → (patsTy (wv22x0).pan).den → (patsTy (wy22x0).pan).den := fun c y => y
def Z22x0 {α : Type} (l : RQ vs22x0 wv22x0 → α) (an : α → α → α) (c : (patsTy cs22x0).den) (v : (patsTy vs22x0).den) : α := bif (decide (v.1 < c.2.2.2.2.1)) then bif (decide (((0 : Int) ≤ v.1) ∧ (v.1 < ((c.2.2.2.1.n : Nat) : Int)))) then bif (decide (((0 : Int) ≤ v.1) ∧ (v.1 < ((c.2.2.2.2.2.1.2.2.1.n : Nat) : Int)))) then cl (r73).dflt (M73 ((c.2.2.2.1.g (Int.toNat v.1)).1, ((c.2.2.2.2.2.1.2.2.1.g (Int.toNat v.1)).2, ()))) (fun u0 => bif (!u0.1) then l (.out (.ret ((⟨0, fun i => ((0 : Int), ())⟩ : Sl _), ((2 : Int), ())))) else l (.next ((W (v.1 + (1 : Int))), ()))) (l .bad) else l .bad else l .bad else l (.out (.exit 0 ()))
theorem z22x0 (c : (patsTy cs22x0).den) (v : (patsTy vs22x0).den) : roundQ Try.prog E0 G22 0 49 [] ps22x0 wy22x0 b22x0 [] (j22x0 c v) = Z22x0 (fun r => .leaf (r.lift j22x0 je22x0 jr22x0 jp22x0 c)) .any c v := by kernel_rfl
def S22x0 (c : (patsTy cs22x0).den) (v : (patsTy vs22x0).den) : RQ vs22x0 wv22x0 := Z22x0 (fun r => r) (fun _ _ => .bad) c v
theorem s22x0 (c : (patsTy cs22x0).den) (v : (patsTy vs22x0).den) : detQ (roundQ Try.prog E0 G22 0 49 [] ps22x0 wy22x0 b22x0 [] (j22x0 c v)) = (S22x0 c v).lift j22x0 je22x0 jr22x0 jp22x0 c := by rw [z22x0]; unfold S22x0 Z22x0; simp only [detQ_cond, lift_cond, lift_bad, detQ, detQ_cl, detQ_onExit, detQ_onRet, detQ_onPanL, detQ_onNext, detQ_onBrk, detQ_onRetO, detQ_onPan, detQ_onOk, detQ_onGPan, lift_cl, lift_onExit, lift_onRet, lift_onPanL, lift_onNext, lift_onBrk, lift_onRetO, lift_onPan, lift_onOk, lift_onGPan]
def L22x0 (c : (patsTy cs22x0).den) (v : (patsTy vs22x0).den) : LQ wv22x0 := iterQ (S22x0 c) big v
theorem lo22 : loopsOf (c22) = [.loop b22x0] := by kernel_rfl
noncomputable def l22 : List Loop := [.known (loopZ 0 [] ps22x0 fun x => spreadV wy22x0 je22x0 jr22x0 jp22x0 [] true (sp22x0 x).1 (L22x0 (sp22x0 x).1 (sp22x0 x).2) wy22x0.exits)]
def Q22 {α : Type} (l : Option (r22).den → α) (an : α → α → α) (x : (a22).den) : α := cl (r72).dflt (M72 (x.1, ())) (fun u1 => bif (!u1.1) then l (some ((⟨0, fun i => ((0 : Int), ())⟩ : Sl _), ((2 : Int), ()))) else cl (r73).dflt (M73 (x.2.1, ((x.1.1, (x.1.2.1, ())), ()))) (fun u2 => bif (!u2.1) then l (some ((⟨0, fun i => ((0 : Int), ())⟩ : Sl _), ((2 : Int), ()))) else bif (!(decide (((x.2.2.1.n : Nat) : Int) = ((x.1.2.2.1.n : Nat) : Int)))) then l (some ((⟨0, fun i => ((0 : Int), ())⟩ : Sl _), ((2 : Int), ()))) else onExit (L22x0 (x.2.1, (x.2.2.1, ((), (x.2.2.1, (((x.2.2.1.n : Nat) : Int), (x.1, ())))))) ((0 : Int), ())) 0 (fun u3 => cl (r74).dflt (M74 (x.1, x.2)) (fun u4 => l (some (u4.1, ((0 : Int), ())))) (l none)) (onRet (L22x0 (x.2.1, (x.2.2.1, ((), (x.2.2.1, (((x.2.2.1.n : Nat) : Int), (x.1, ())))))) ((0 : Int), ())) (fun u5 => l (some u5)) (l none))) (l none)) (l none)
theorem q22 (x : (a22).den) : runFn Try.prog E0 G22 Try.f22 l22 a22 r22 x = Q22 .leaf .any x := by kernel_rfl
def M22 (x : (a22).den) : Option (r22).den := Q22 (fun r => r) (fun _ _ => none) x
theorem m22 (x : (a22).den) : (runFn Try.prog E0 G22 Try.f22 l22 a22 r22 x).sure = M22 x := by rw [q22]; unfold M22 Q22; simp only [sure_cond, Tree.sure, sure_cl, sure_onExit, sure_onRet, sure_onPanL, sure_onNext, sure_onBrk, sure_onRetO, sure_onPan, sure_onOk, sure_onGPan]
def p22 (x : (a22).den) : Bool := (M22 x).isSome
def v22 (x : (a22).den) : (r22).den := (M22 x).getD (r22).dflt
def k22 : Con := ⟨a22, r22, p22, v22⟩
theorem h22 : Holds Try.prog 22 k22 := holds_of_M' (E := E0) follows_ok g22 eqTy_sound keyTy_sound at22 bd22 (by kernel_rfl) m22 fun G' hlo hF hE => LsOK_kn (by rw [lo22]; exact .cons (loopV_ok hE hF hlo (LsOK_kn (by rw [lo22x0]; exact .nil)) (by kernel_rfl) (by kernel_rfl) sp22x0 (fun _ => rfl) (fun _ _ => rfl) (s22x0) big) (.nil))
abbrev T49 : Ty := (.cons T39 T0)
abbrev T50 : Ty := (.cons T39 T3)
abbrev T51 : Ty := (.cons (.sl T1) .nil)
/-- isobar/isobarref07.Same -/
noncomputable def c25 : Code := Try.f25.body.getD .skip
theorem at25 : Try.prog.funcs[25]? = some Try.f25 := by kernel_rfl
theorem bd25 : Try.f25.body = some c25 := by kernel_rfl
theorem cl25 : Callable Try.prog 25 := callable_of at25 (by kernel_rfl) (by kernel_rfl)
abbrev T52 : Ty := (.cons (.sl T0) T44)
abbrev a25 : Ty := T52
abbrev r25 : Ty := T3
noncomputable def G25 : Ctx := Ctx.of []
theorem g25 : Sound Try.prog (G25) := sound_of (fun _ h => by cases h)
noncomputable def b25x0 : Code := loopBody ((loopsOf (c25))[0]?)
theorem lo25x0 : loopsOf (b25x0) = [] := by kernel_rfl
abbrev cs25x0 : List Pat := [.slot 0 (.pc (.sl T0)), .slot 1 (.pc (.sl T0))]
abbrev vs25x0 : List Pat := [.slot 5 (.pc tI)]
abbrev ps25x0 : List Pat := [.slot 0 (.pc (.sl T0)), .slot 1 (.pc (.sl T0)), .slot 5 (.pc tI)]
def j25x0 : (patsTy cs25x0).den → (patsTy vs25x0).den → (patsTy ps25x0).den := fun c v => (c.1, (c.2.1, v))
def sp25x0 : (patsTy ps25x0).den → (patsTy cs25x0).den × (patsTy vs25x0).den := fun x => ((x.1, (x.2.1, ())), x.2.2)
abbrev wy25x0 : Ways := ⟨[(0, [])], [.slot 4 (.pc .bool)], []⟩
abbrev wv25x0 : Ways := ⟨[(0, [])], [.slot 4 (.pc .bool)], []⟩
def je25x0 : (id : Nat) → (patsTy cs25x0).den → (patsTy (wayP wv25x0 id)).den → (patsTy (wayP wy25x0 id)).den := fun id => match id with | 0 => fun c y => y | id => fun _ _ => (patsTy (wayP wy25x0 id)).dflt
def jr25x0 : (patsTy cs25x0).den → (patsTy (wv25x0).ret).den → (patsTy (wy25x0).ret).den := fun c y => y
def jp25x0 : (patsTy cs25x0).den → (patsTy (wv25x0).pan).den → (patsTy (wy25x0).pan).den := fun c y => y
def Z25x0 {α : Type} (l : RQ vs25x0 wv25x0 → α) (an : α → α → α) (c : (patsTy cs25x0).den) (v : (patsTy vs25x0).den) : α := bif (decide (v.1 < ((c.1.n : Nat) : Int))) then bif (decide (((0 : Int) ≤ v.1) ∧ (v.1 < ((c.1.n : Nat) : Int)))) then bif (decide (((0 : Int) ≤ v.1) ∧ (v.1 < ((c.2.1.n : Nat) : Int)))) then bif (!(decide ((c.1.g (Int.toNat v.1)).1 = (c.2.1.g (Int.toNat v.1)).1))) then l (.out (.ret (false, ()))) else l (.next ((W (v.1 + (1 : Int))), ())) else l .bad else l .bad else l (.out (.exit 0 ()))
theorem z25x0 (c : (patsTy cs25x0).den) (v : (patsTy vs25x0).den) : roundQ Try.prog E0 G25 0 26 [] ps25x0 wy25x0 b25x0 [] (j25x0 c v) = Z25x0 (fun r => .leaf (r.lift j25x0 je25x0 jr25x0 jp25x0 c)) .any c v := by kernel_rfl
def S25x0 (c : (patsTy cs25x0).den) (v : (patsTy vs25x0).den) : RQ vs25x0 wv25x0 := Z25x0 (fun r => r) (fun _ _ => .bad) c v
theorem s25x0 (c : (patsTy cs25x0).den) (v : (patsTy vs25x0).den) : detQ (roundQ Try.prog E0 G25 0 26 [] ps25x0 wy25x0 b25x0 [] (j25x0 c v)) = (S25x0 c v).lift j25x0 je25x0 jr25x0 jp25x0 c := by rw [z25x0]; unfold S25x0 Z25x0; simp only [detQ_cond, lift_cond, lift_bad, detQ, detQ_cl, detQ_onExit, detQ_onRet, detQ_onPanL, detQ_onNext, detQ_onBrk, detQ_onRetO, detQ_onPan, detQ_onOk, detQ_onGPan, lift_cl, lift_onExit, lift_onRet, lift_onPanL, lift_onNext, lift_onBrk, lift_onRetO, lift_onPan, lift_onOk, lift_onGPan]
def L25x0 (c : (patsTy cs25x0).den) (v : (patsTy vs25x0).den) : LQ wv25x0 := iterQ (S25x0 c) big v
theorem lo25 : loopsOf (c25) = [.loop b25x0] := by kernel_rfl
noncomputable def l25 : List Loop := [.known (loopZ 0 [] ps25x0 fun x => spreadV wy25x0 je25x0 jr25x0 jp25x0 [] true (sp25x0 x).1 (L25x0 (sp25x0 x).1 (sp25x0 x).2) wy25x0.exits)]
def Q25 {α : Type} (l : Option (r25).den → α) (an : α → α → α) (x : (a25).den) : α := bif (!(decide (((x.1.n : Nat) : Int) = ((x.2.1.n : Nat) : Int)))) then l (some (false, ())) else onExit (L25x0 x ((0 : Int), ())) 0 (fun u0 => l (some (true, ()))) (onRet (L25x0 x ((0 : Int), ())) (fun u1 => l (some u1)) (l none))
theorem q25 (x : (a25).den) : runFn Try.prog E0 G25 Try.f25 l25 a25 r25 x = Q25 .leaf .any x := by kernel_rfl
def M25 (x : (a25).den) : Option (r25).den := Q25 (fun r => r) (fun _ _ => none) x
theorem m25 (x : (a25).den) : (runFn Try.prog E0 G25 Try.f25 l25 a25 r25 x).sure = M25 x := by rw [q25]; unfold M25 Q25; simp only [sure_cond, Tree.sure, sure_cl, sure_onExit, sure_onRet, sure_onPanL, sure_onNext, sure_onBrk, sure_onRetO, sure_onPan, sure_onOk, sure_onGPan]
def p25 (x : (a25).den) : Bool := (M25 x).isSome
def v25 (x : (a25).den) : (r25).den := (M25 x).getD (r25).dflt
def k25 : Con := ⟨a25, r25, p25, v25⟩
theorem h25 : Holds Try.prog 25 k25 := holds_of_M' (E := E0) follows_ok g25 eqTy_sound keyTy_sound at25 bd25 (by kernel_rfl) m25 fun G' hlo hF hE => LsOK_kn (by rw [lo25]; exact .cons (loopV_ok hE hF hlo (LsOK_kn (by rw [lo25x0]; exact .nil)) (by kernel_rfl) (by kernel_rfl) sp25x0 (fun _ => rfl) (fun _ _ => rfl) (s25x0) big) (.nil))
/-- isobar/isobarref07.SameSpans -/
noncomputable def c51 : Code := Try.f51.body.getD .skip
theorem at51 : Try.prog.funcs[51]? = some Try.f51 := by kernel_rfl
theorem bd51 : Try.f51.body = some c51 := by kernel_rfl
theorem cl51 : Callable Try.prog 51 := callable_of at51 (by kernel_rfl) (by kernel_rfl)
abbrev T53 : Ty := (.cons (.sl T1) T51)
abbrev a51 : Ty := T53
abbrev r51 : Ty := T3
noncomputable def G51 : Ctx := Ctx.of []
theorem g51 : Sound Try.prog (G51) := sound_of (fun _ h => by cases h)
noncomputable def b51x0 : Code := loopBody ((loopsOf (c51))[0]?)
theorem lo51x0 : loopsOf (b51x0) = [] := by kernel_rfl
abbrev cs51x0 : List Pat := [.slot 0 (.pc (.sl T1)), .slot 1 (.pc (.sl T1))]
abbrev vs51x0 : List Pat := [.slot 5 (.pc tI)]
abbrev ps51x0 : List Pat := [.slot 0 (.pc (.sl T1)), .slot 1 (.pc (.sl T1)), .slot 5 (.pc tI)]
def j51x0 : (patsTy cs51x0).den → (patsTy vs51x0).den → (patsTy ps51x0).den := fun c v => (c.1, (c.2.1, v))
def sp51x0 : (patsTy ps51x0).den → (patsTy cs51x0).den × (patsTy vs51x0).den := fun x => ((x.1, (x.2.1, ())), x.2.2)
abbrev wy51x0 : Ways := ⟨[(0, [])], [.slot 4 (.pc .bool)], []⟩
abbrev wv51x0 : Ways := ⟨[(0, [])], [.slot 4 (.pc .bool)], []⟩
def je51x0 : (id : Nat) → (patsTy cs51x0).den → (patsTy (wayP wv51x0 id)).den → (patsTy (wayP wy51x0 id)).den := fun id => match id with | 0 => fun c y => y | id => fun _ _ => (patsTy (wayP wy51x0 id)).dflt
def jr51x0 : (patsTy cs51x0).den → (patsTy (wv51x0).ret).den → (patsTy (wy51x0).ret).den := fun c y => y
def jp51x0 : (patsTy cs51x0).den → (patsTy (wv51x0).pan).den → (patsTy (wy51x0).pan).den := fun c y => y
def Z51x0 {α : Type} (l : RQ vs51x0 wv51x0 → α) (an : α → α → α) (c : (patsTy cs51x0).den) (v : (patsTy vs51x0).den) : α := bif (decide (v.1 < ((c.1.n : Nat) : Int))) then bif (decide (((0 : Int) ≤ v.1) ∧ (v.1 < ((c.1.n : Nat) : Int)))) then bif (decide (((0 : Int) ≤ v.1) ∧ (v.1 < ((c.2.1.n : Nat) : Int)))) then bif (!((decide ((c.1.g (Int.toNat v.1)).1 = (c.2.1.g (Int.toNat v.1)).1)) && ((decide ((c.1.g (Int.toNat v.1)).2.1 = (c.2.1.g (Int.toNat v.1)).2.1)) && true))) then l (.out (.ret (false, ()))) else l (.next ((W (v.1 + (1 : Int))), ())) else l .bad else l .bad else l (.out (.exit 0 ()))
theorem z51x0 (c : (patsTy cs51x0).den) (v : (patsTy vs51x0).den) : roundQ Try.prog E0 G51 0 26 [] ps51x0 wy51x0 b51x0 [] (j51x0 c v) = Z51x0 (fun r => .leaf (r.lift j51x0 je51x0 jr51x0 jp51x0 c)) .any c v := by kernel_rfl
def S51x0 (c : (patsTy cs51x0).den) (v : (patsTy vs51x0).den) : RQ vs51x0 wv51x0 := Z51x0 (fun r => r) (fun _ _ => .bad) c v
theorem s51x0 (c : (patsTy cs51x0).den) (v : (patsTy vs51x0).den) : detQ (roundQ Try.prog E0 G51 0 26 [] ps51x0 wy51x0 b51x0 [] (j51x0 c v)) = (S51x0 c v).lift j51x0 je51x0 jr51x0 jp51x0 c := by rw [z51x0]; unfold S51x0 Z51x0; simp only [detQ_cond, lift_cond, lift_bad, detQ, detQ_cl, detQ_onExit, detQ_onRet, detQ_onPanL, detQ_onNext, detQ_onBrk, detQ_onRetO, detQ_onPan, detQ_onOk, detQ_onGPan, lift_cl, lift_onExit, lift_onRet, lift_onPanL, lift_onNext, lift_onBrk, lift_onRetO, lift_onPan, lift_onOk, lift_onGPan]
def L51x0 (c : (patsTy cs51x0).den) (v : (patsTy vs51x0).den) : LQ wv51x0 := iterQ (S51x0 c) big v
theorem lo51 : loopsOf (c51) = [.loop b51x0] := by kernel_rfl
noncomputable def l51 : List Loop := [.known (loopZ 0 [] ps51x0 fun x => spreadV wy51x0 je51x0 jr51x0 jp51x0 [] true (sp51x0 x).1 (L51x0 (sp51x0 x).1 (sp51x0 x).2) wy51x0.exits)]
def Q51 {α : Type} (l : Option (r51).den → α) (an : α → α → α) (x : (a51).den) : α := bif (!(decide (((x.1.n : Nat) : Int) = ((x.2.1.n : Nat) : Int)))) then l (some (false, ())) else onExit (L51x0 x ((0 : Int), ())) 0 (fun u0 => l (some (true, ()))) (onRet (L51x0 x ((0 : Int), ())) (fun u1 => l (some u1)) (l none))
theorem q51 (x : (a51).den) : runFn Try.prog E0 G51 Try.f51 l51 a51 r51 x = Q51 .leaf .any x := by kernel_rfl
def M51 (x : (a51).den) : Option (r51).den := Q51 (fun r => r) (fun _ _ => none) x
theorem m51 (x : (a51).den) : (runFn Try.prog E0 G51 Try.f51 l51 a51 r51 x).sure = M51 x := by rw [q51]; unfold M51 Q51; simp only [sure_cond, Tree.sure, sure_cl, sure_onExit, sure_onRet, sure_onPanL, sure_onNext, sure_onBrk, sure_onRetO, sure_onPan, sure_onOk, sure_onGPan]
def p51 (x : (a51).den) : Bool := (M51 x).isSome
def v51 (x : (a51).den) : (r51).den := (M51 x).getD (r51).dflt
def k51 : Con := ⟨a51, r51, p51, v51⟩
theorem h51 : Holds Try.prog 51 k51 := holds_of_M' (E := E0) follows_ok g51 eqTy_sound keyTy_sound at51 bd51 (by kernel_rfl) m51 fun G' hlo hF hE => LsOK_kn (by rw [lo51]; exact .cons (loopV_ok hE hF hlo (LsOK_kn (by rw [lo51x0]; exact .nil)) (by kernel_rfl) (by kernel_rfl) sp51x0 (fun _ => rfl) (fun _ _ => rfl) (s51x0) big) (.nil))
/-- isobar/kite.wind -/
noncomputable def c113 : Code := Try.f113.body.getD .skip
theorem at113 : Try.prog.funcs[113]? = some Try.f113 := by kernel_rfl
theorem bd113 : Try.f113.body = some c113 := by kernel_rfl
theorem cl113 : Callable Try.prog 113 := callable_of at113 (by kernel_rfl) (by kernel_rfl)
abbrev a113 : Ty := T6
abbrev r113 : Ty := T3
noncomputable def G113 : Ctx := Ctx.of [(104, .pure k104)]
theorem g113 : Sound Try.prog (G113) := sound_of (List.forall_mem_cons.2 ⟨⟨cl104, h104⟩, fun _ h => by cases h⟩)
theorem lo113 : loopsOf (c113) = [] := by kernel_rfl
noncomputable def l113 : List Loop := []
def Q113 {α : Type} (l : Option (r113).den → α) (an : α → α → α) (x : (a113).den) : α := cl (r104).dflt (M104 (x.1, ((-100 : Int), ((100 : Int), ())))) (fun u0 => bif u0.1 then l (some ((decide ((W (x.1.2.1 - x.1.1)) ≤ (8 : Int))), ())) else l (some (false, ()))) (l none)
theorem q113 (x : (a113).den) : runFn Try.prog E0 G113 Try.f113 l113 a113 r113 x = Q113 .leaf .any x := by kernel_rfl
def M113 (x : (a113).den) : Option (r113).den := Q113 (fun r => r) (fun _ _ => none) x
theorem m113 (x : (a113).den) : (runFn Try.prog E0 G113 Try.f113 l113 a113 r113 x).sure = M113 x := by rw [q113]; unfold M113 Q113; simp only [sure_cond, Tree.sure, sure_cl, sure_onExit, sure_onRet, sure_onPanL, sure_onNext, sure_onBrk, sure_onRetO, sure_onPan, sure_onOk, sure_onGPan]
def p113 (x : (a113).den) : Bool := (M113 x).isSome
def v113 (x : (a113).den) : (r113).den := (M113 x).getD (r113).dflt
def k113 : Con := ⟨a113, r113, p113, v113⟩
theorem h113 : Holds Try.prog 113 k113 := holds_of_M' (E := E0) follows_ok g113 eqTy_sound keyTy_sound at113 bd113 (by kernel_rfl) m113 fun G' hlo hF hE => LsOK_kn (by rw [lo113]; exact .nil)
/-- isobar/kite.speed -/
noncomputable def c114 : Code := Try.f114.body.getD .skip
theorem at114 : Try.prog.funcs[114]? = some Try.f114 := by kernel_rfl
theorem bd114 : Try.f114.body = some c114 := by kernel_rfl
theorem cl114 : Callable Try.prog 114 := callable_of at114 (by kernel_rfl) (by kernel_rfl)
abbrev a114 : Ty := T6
abbrev r114 : Ty := T3
noncomputable def G114 : Ctx := Ctx.of [(104, .pure k104)]
theorem g114 : Sound Try.prog (G114) := sound_of (List.forall_mem_cons.2 ⟨⟨cl104, h104⟩, fun _ h => by cases h⟩)
theorem lo114 : loopsOf (c114) = [] := by kernel_rfl
noncomputable def l114 : List Loop := []
def Q114 {α : Type} (l : Option (r114).den → α) (an : α → α → α) (x : (a114).den) : α := cl (r104).dflt (M104 (x.1, ((50 : Int), ((1000 : Int), ())))) (fun u0 => bif u0.1 then l (some ((decide ((W (x.1.2.1 - x.1.1)) ≤ (3 : Int))), ())) else l (some (false, ()))) (l none)
theorem q114 (x : (a114).den) : runFn Try.prog E0 G114 Try.f114 l114 a114 r114 x = Q114 .leaf .any x := by kernel_rfl
def M114 (x : (a114).den) : Option (r114).den := Q114 (fun r => r) (fun _ _ => none) x
theorem m114 (x : (a114).den) : (runFn Try.prog E0 G114 Try.f114 l114 a114 r114 x).sure = M114 x := by rw [q114]; unfold M114 Q114; simp only [sure_cond, Tree.sure, sure_cl, sure_onExit, sure_onRet, sure_onPanL, sure_onNext, sure_onBrk, sure_onRetO, sure_onPan, sure_onOk, sure_onGPan]
def p114 (x : (a114).den) : Bool := (M114 x).isSome
def v114 (x : (a114).den) : (r114).den := (M114 x).getD (r114).dflt
def k114 : Con := ⟨a114, r114, p114, v114⟩
theorem h114 : Holds Try.prog 114 k114 := holds_of_M' (E := E0) follows_ok g114 eqTy_sound keyTy_sound at114 bd114 (by kernel_rfl) m114 fun G' hlo hF hE => LsOK_kn (by rw [lo114]; exact .nil)
/-- isobar/kite.valid -/
noncomputable def c92 : Code := Try.f92.body.getD .skip
theorem at92 : Try.prog.funcs[92]? = some Try.f92 := by kernel_rfl
theorem bd92 : Try.f92.body = some c92 := by kernel_rfl
theorem cl92 : Callable Try.prog 92 := callable_of at92 (by kernel_rfl) (by kernel_rfl)
abbrev a92 : Ty := T43
abbrev r92 : Ty := T3
noncomputable def G92 : Ctx := Ctx.of [(102, .pure k102), (104, .pure k104), (113, .pure k113), (114, .pure k114)]
theorem g92 : Sound Try.prog (G92) := sound_of (List.forall_mem_cons.2 ⟨⟨cl102, h102⟩, List.forall_mem_cons.2 ⟨⟨cl104, h104⟩, List.forall_mem_cons.2 ⟨⟨cl113, h113⟩, List.forall_mem_cons.2 ⟨⟨cl114, h114⟩, fun _ h => by cases h⟩⟩⟩⟩)
noncomputable def b92x0 : Code := loopBody ((loopsOf (c92))[0]?)
theorem lo92x0 : loopsOf (b92x0) = [] := by kernel_rfl
abbrev cs92x0 : List Pat := [.slot 1 (.ptr 1), .slot 6 (.pc (.sl T9)), .slot 7 (.pc tI), .box 1 [.pc (.sl T9), .pc tI, .pc tI, .pc tI, .pc tI, .pc tI, .pc tI, .pc tI, .pc tI, .pc tI, .pc tI, .pc tI, .pc tI]]
abbrev vs92x0 : List Pat := [.slot 8 (.pc tI)]
abbrev ps92x0 : List Pat := [.slot 1 (.ptr 1), .slot 6 (.pc (.sl T9)), .slot 7 (.pc tI), .box 1 [.pc (.sl T9), .pc tI, .pc tI, .pc tI, .pc tI, .pc tI, .pc tI, .pc tI, .pc tI, .pc tI, .pc tI, .pc tI, .pc tI], .slot 8 (.pc tI)]
def j92x0 : (patsTy cs92x0).den → (patsTy vs92x0).den → (patsTy ps92x0).den := fun c v => (c.1, (c.2.1, (c.2.2.1, (c.2.2.2.1, v))))
def sp92x0 : (patsTy ps92x0).den → (patsTy cs92x0).den × (patsTy vs92x0).den := fun x => ((x.1, (x.2.1, (x.2.2.1, (x.2.2.2.1, ())))), x.2.2.2.2)
abbrev wy92x0 : Ways := ⟨[(0, [.slot 1 (.ptr 1), .box 1 [.pc (.sl T9), .pc tI, .pc tI, .pc tI, .pc tI, .pc tI, .pc tI, .pc tI, .pc tI, .pc tI, .pc tI, .pc tI, .pc tI]])], [.slot 2 (.pc .bool)], []⟩
abbrev wv92x0 : Ways := ⟨[(0, [])], [.slot 2 (.pc .bool)], []⟩
def je92x0 : (id : Nat) → (patsTy cs92x0).den → (patsTy (wayP wv92x0 id)).den → (patsTy (wayP wy92x0 id)).den := fun id => match id with | 0 => fun c y => (c.1, (c.2.2.2.1, y)) | id => fun _ _ => (patsTy (wayP wy92x0 id)).dflt
def jr92x0 : (patsTy cs92x0).den → (patsTy (wv92x0).ret).den → (patsTy (wy92x0).ret).den := fun c y => y
def jp92x0 : (patsTy cs92x0).den → (patsTy (wv92x0).pan).den → (patsTy (wy92x0).pan).den := fun c y => y
def Z92x0 {α : Type} (l : RQ vs92x0 wv92x0 → α) (an : α → α → α) (c : (patsTy cs92x0).den) (v : (patsTy vs92x0).den) : α := bif (decide (v.1 < c.2.2.1)) then bif (decide (((0 : Int) ≤ v.1) ∧ (v.1 < ((c.2.1.n : Nat) : Int)))) then cl (r102).dflt (M102 ((c.2.1.g (Int.toNat v.1)).1, ((1 : Int), ((3000 : Int), ())))) (fun u0 => bif (!u0.1) then l (.out (.ret (false, ()))) else cl (r113).dflt (M113 (((c.2.1.g (Int.toNat v.1)).2.1, ((c.2.1.g (Int.toNat v.1)).2.2.1, ())), ())) (fun u1 => bif (!u1.1) then l (.out (.ret (false, ()))) else cl (r113).dflt (M113 ((c.2.1.g (Int.toNat v.1)).2.2.2, ())) (fun u2 => bif (!u2.1) then l (.out (.ret (false, ()))) else l (.next ((W (v.1 + (1 : Int))), ()))) (l .bad)) (l .bad)) (l .bad) else l .bad else l (.out (.exit 0 ()))
theorem z92x0 (c : (patsTy cs92x0).den) (v : (patsTy vs92x0).den) : roundQ Try.prog E0 G92 0 66 [] ps92x0 wy92x0 b92x0 [] (j92x0 c v) = Z92x0 (fun r => .leaf (r.lift j92x0 je92x0 jr92x0 jp92x0 c)) .any c v := by kernel_rfl
def S92x0 (c : (patsTy cs92x0).den) (v : (patsTy vs92x0).den) : RQ vs92x0 wv92x0 := Z92x0 (fun r => r) (fun _ _ => .bad) c v
theorem s92x0 (c : (patsTy cs92x0).den) (v : (patsTy vs92x0).den) : detQ (roundQ Try.prog E0 G92 0 66 [] ps92x0 wy92x0 b92x0 [] (j92x0 c v)) = (S92x0 c v).lift j92x0 je92x0 jr92x0 jp92x0 c := by rw [z92x0]; unfold S92x0 Z92x0; simp only [detQ_cond, lift_cond, lift_bad, detQ, detQ_cl, detQ_onExit, detQ_onRet, detQ_onPanL, detQ_onNext, detQ_onBrk, detQ_onRetO, detQ_onPan, detQ_onOk, detQ_onGPan, lift_cl, lift_onExit, lift_onRet, lift_onPanL, lift_onNext, lift_onBrk, lift_onRetO, lift_onPan, lift_onOk, lift_onGPan]
def L92x0 (c : (patsTy cs92x0).den) (v : (patsTy vs92x0).den) : LQ wv92x0 := iterQ (S92x0 c) big v
theorem lo92 : loopsOf (c92) = [.loop b92x0] := by kernel_rfl
noncomputable def l92 : List Loop := [.known (loopZ 0 [] ps92x0 fun x => spreadV wy92x0 je92x0 jr92x0 jp92x0 [] true (sp92x0 x).1 (L92x0 (sp92x0 x).1 (sp92x0 x).2) wy92x0.exits)]
def Q92 {α : Type} (l : Option (r92).den → α) (an : α → α → α) (x : (a92).den) : α := onExit (L92x0 ((), (x.1.1, (((x.1.1.n : Nat) : Int), (x.1, ())))) ((0 : Int), ())) 0 (fun u3 => cl (r102).dflt (M102 (((x.1.1.n : Nat) : Int), ((1 : Int), ((4 : Int), ())))) (fun u4 => bif u4.1 then cl (r114).dflt (M114 ((x.1.2.1, (x.1.2.2.1, ())), ())) (fun u5 => bif u5.1 then cl (r114).dflt (M114 ((x.1.2.2.2.1, (x.1.2.2.2.2.1, ())), ())) (fun u6 => bif u6.1 then cl (r104).dflt (M104 ((x.1.2.2.2.2.2.1, (x.1.2.2.2.2.2.2.1, ())), ((1 : Int), (((x.1.1.n : Nat) : Int), ())))) (fun u7 => bif u7.1 then cl (r104).dflt (M104 ((x.1.2.2.2.2.2.2.2.1, (x.1.2.2.2.2.2.2.2.2.1, ())), ((-100000 : Int), ((100000 : Int), ())))) (fun u8 => bif u8.1 then cl (r104).dflt (M104 ((x.1.2.2.2.2.2.2.2.2.2.1, (x.1.2.2.2.2.2.2.2.2.2.2.1, ())), ((-100000 : Int), ((100000 : Int), ())))) (fun u9 => bif u9.1 then cl (r104).dflt (M104 (x.1.2.2.2.2.2.2.2.2.2.2.2, ((0 : Int), ((100000 : Int), ())))) (fun u10 => l (some u10)) (l none) else l (some (false, ()))) (l none) else l (some (false, ()))) (l none) else l (some (false, ()))) (l none) else l (some (false, ()))) (l none) else l (some (false, ()))) (l none) else l (some (false, ()))) (l none)) (onRet (L92x0 ((), (x.1.1, (((x.1.1.n : Nat) : Int), (x.1, ())))) ((0 : Int), ())) (fun u11 => l (some u11)) (l none))
theorem q92 (x : (a92).den) : runFn Try.prog E0 G92 Try.f92 l92 a92 r92 x = Q92 .leaf .any x := by kernel_rfl
def M92 (x : (a92).den) : Option (r92).den := Q92 (fun r => r) (fun _ _ => none) x
theorem m92 (x : (a92).den) : (runFn Try.prog E0 G92 Try.f92 l92 a92 r92 x).sure = M92 x := by rw [q92]; unfold M92 Q92; simp only [sure_cond, Tree.sure, sure_cl, sure_onExit, sure_onRet, sure_onPanL, sure_onNext, sure_onBrk, sure_onRetO, sure_onPan, sure_onOk, sure_onGPan]
def p92 (x : (a92).den) : Bool := (M92 x).isSome
def v92 (x : (a92).den) : (r92).den := (M92 x).getD (r92).dflt
def k92 : Con := ⟨a92, r92, p92, v92⟩
theorem h92 : Holds Try.prog 92 k92 := holds_of_M' (E := E0) follows_ok g92 eqTy_sound keyTy_sound at92 bd92 (by kernel_rfl) m92 fun G' hlo hF hE => LsOK_kn (by rw [lo92]; exact .cons (loopV_ok hE hF hlo (LsOK_kn (by rw [lo92x0]; exact .nil)) (by kernel_rfl) (by kernel_rfl) sp92x0 (fun _ => rfl) (fun _ _ => rfl) (s92x0) big) (.nil))
/-- isobar/kite.flights$1 -/
noncomputable def c115 : Code := Try.f115.body.getD .skip
theorem at115 : Try.prog.funcs[115]? = some Try.f115 := by kernel_rfl
theorem bd115 : Try.f115.body = some c115 := by kernel_rfl
theorem cl115 : Callable Try.prog 115 := callable_of at115 (by kernel_rfl) (by kernel_rfl)
abbrev fst115 : Ty := .nil
abbrev T54 : Ty := (.ptr T41)
abbrev T55 : Ty := (.cons T54 .nil)
abbrev cap115 : Ty := T55
abbrev T56 : Ty := (.cons (.sl T9) T21)
abbrev T57 : Ty := (.agg T56)
abbrev T58 : Ty := (.cons T57 .nil)
abbrev e115 : Ty := T58
theorem none_sound : Sound Try.prog (fun _ => none) := fun _ _ h => by cases h
abbrev fl_kf : Ty := .cons (.sl (.cons tI (.cons tI (.cons tI (.cons tI (.cons tI .nil)))))) (.cons tI (.cons tI (.cons tI (.cons tI (.cons tI (.cons tI (.cons tI (.cons tI (.cons tI (.cons tI (.cons tI (.cons tI .nil))))))))))))
abbrev fl_fl : Ty := .cons (.sl (.cons tI (.cons tI (.cons tI (.cons tI (.cons tI .nil)))))) (.cons tI (.cons tI (.cons tI (.cons tI (.cons tI (.cons tI (.cons tI (.cons tI (.cons tI (.cons tI (.cons tI (.cons tI (.cons tI (.cons tI (.cons tI .nil)))))))))))))))
abbrev fl_eF : Ty := .cons (.agg fl_fl) .nil
abbrev fl_ps0 : List Pat := [.tr fl_eF, .slot 0 .yld, .slot 1 (.pc (.ptr fl_kf)), .slot 3 (.pc tI)]
abbrev fl_ps2 : List Pat := [.tr fl_eF, .slot 0 .yld, .slot 1 (.pc (.ptr fl_kf)), .slot 3 (.pc tI), .slot 4 (.pc tI)]
abbrev fl_ps4 : List Pat := [.tr fl_eF, .slot 0 .yld, .slot 1 (.pc (.ptr fl_kf)), .slot 3 (.pc tI), .slot 4 (.pc tI), .slot 5 (.pc tI)]
abbrev fl_wy4 : Ways := ⟨[(4, fl_ps2)], [.tr fl_eF], [.tr fl_eF]⟩
abbrev fl_wy2 : Ways := ⟨[(2, fl_ps0)], [.tr fl_eF], [.tr fl_eF]⟩
abbrev fl_wy0 : Ways := ⟨[(0, [.tr fl_eF])], [.tr fl_eF], [.tr fl_eF]⟩
noncomputable def fl_b0 : Code := ((Try.f115.body).bind bodyOf).getD .skip
noncomputable def fl_b2 : Code := (bodyOf fl_b0).getD .skip
noncomputable def fl_b4 : Code := (bodyOf fl_b2).getD .skip
def fl_itm (k : fl_kf.den) (u d t : Int) : fl_eF.den :=
  ((k.1, k.2.1, k.2.2.1, k.2.2.2.1, k.2.2.2.2.1, k.2.2.2.2.2.1, k.2.2.2.2.2.2.1, k.2.2.2.2.2.2.2.1, k.2.2.2.2.2.2.2.2.1, k.2.2.2.2.2.2.2.2.2.1, k.2.2.2.2.2.2.2.2.2.2.1, k.2.2.2.2.2.2.2.2.2.2.2.1, k.2.2.2.2.2.2.2.2.2.2.2.2.1, u, d, t, ()), ())
def fl_push (tr : Sl fl_eF.den) (i : fl_eF.den) : Sl fl_eF.den := catSl tr ⟨1, fun _ => i⟩
theorem fl_round4 (tr : Sl fl_eF.den) (k : fl_kf.den) (u d t : Int) :
    roundT true Try.prog E0 (fun _ => none) 0 44 [] fl_ps4 fl_wy4 fl_b4 [] (tr, (), k, u, d, t, ()) =
      bif decide (t ≤ k.2.2.2.2.2.2.1) then
        .any (.leaf (.next (fl_push tr (fl_itm k u d t), (), k, u, d, W (t + 1), ())))
          (.any (.leaf (.out (.stop fl_eF (fl_push tr (fl_itm k u d t))))) (.leaf (.out (.foreign fl_eF (fl_push tr (fl_itm k u d t))))))
      else .leaf (.out (.exit 4 fl_ps2 (tr, (), k, u, d, ()))) := by
  kernel_rfl

/-- What yields only: this, unless a round says 'no more', or panics. -/
def fl_yl (id : Nat) (qs : List Pat) (y : (patsTy qs).den) (T : Sl fl_eF.den) : Tree LO := .any (.leaf (.exit id qs y)) (.any (.leaf (.stop fl_eF T)) (.leaf (.foreign fl_eF T)))

theorem fl_yl_fine {id : Nat} {qs : List Pat} {y : (patsTy qs).den} {T : Sl fl_eF.den} {o : LO} (h : (fl_yl id qs y T).Has o) : o ≠ .bad := by
  rcases h with h | h | h <;> (rw [show o = _ from h]; simp)
theorem fl_yl_self {id : Nat} {qs : List Pat} {y : (patsTy qs).den} {T : Sl fl_eF.den} : ∀ o, (fl_yl id qs y T).Has o → Cov (fl_yl id qs y T) o := fun o h => ⟨o, h, .refl (fl_yl_fine h)⟩
theorem fl_yl_stop {id : Nat} {qs : List Pat} {y : (patsTy qs).den} {T T' : Sl fl_eF.den} (h : T'.list <+: T.list) : Cov (fl_yl id qs y T) (.stop fl_eF T') := ⟨_, .inr (.inl rfl), .stop h⟩
theorem fl_yl_foreign {id : Nat} {qs : List Pat} {y : (patsTy qs).den} {T T' : Sl fl_eF.den} (h : T'.list <+: T.list) : Cov (fl_yl id qs y T) (.foreign fl_eF T') := ⟨_, .inr (.inr rfl), .foreign h⟩

theorem fl_push_list (tr : Sl fl_eF.den) (i : fl_eF.den) : (fl_push tr i).list = tr.list ++ [i] := list_append tr i

def fl_acc4 (k : fl_kf.den) (u d : Int) : Nat → Int → Sl fl_eF.den → Sl fl_eF.den
  | 0, _, tr => tr
  | n + 1, t, tr => fl_acc4 k u d n (t + 1) (fl_push tr (fl_itm k u d t))
theorem fl_acc4_pre (k : fl_kf.den) (u d : Int) : ∀ (n : Nat) (t : Int) (tr : Sl fl_eF.den), tr.list <+: (fl_acc4 k u d n t tr).list
  | 0, _, tr => List.prefix_refl _
  | n + 1, t, tr => by
    have := fl_acc4_pre k u d n (t + 1) (fl_push tr (fl_itm k u d t))
    rw [fl_push_list] at this
    exact (List.prefix_append _ _).trans this

def fl_hi5 (k : fl_kf.den) : Int := k.2.2.2.2.2.2.1
def fl_ok5 (hi t : Int) : Bool := decide (hi ≤ 9223372036854775806 ∧ -9223372036854775808 ≤ t)
def fl_f4 : (patsTy fl_ps4).den → Tree LO := fun (tr, _, k, u, d, t, _) =>
  .br (fl_ok5 (fl_hi5 k) t) (fl_yl 4 fl_ps2 (fl_acc4 k u d (fl_hi5 k + 1 - t).toNat t tr, (), k, u, d, ()) (fl_acc4 k u d (fl_hi5 k + 1 - t).toNat t tr)) (.leaf .bad)

def fl_m4 : (patsTy fl_ps4).den → Nat := fun (_, _, k, _, _, t, _) => (fl_hi5 k + 1 - t).toNat
theorem fl_br_true {b : Bool} {l r : Tree LO} (hb : b = true) : (∀ o, (Tree.br b l r).Has o → l.Has o) ∧ ∀ o, Cov l o → Cov (Tree.br b l r) o := by
  subst hb
  exact ⟨fun o h => h, fun o ⟨o', h1, h2⟩ => ⟨o', h1, h2⟩⟩
theorem fl_br_fine {b : Bool} {l : Tree LO} (h : Fine (Tree.br b l (.leaf .bad))) : b = true := by
  cases b with
  | true => rfl
  | false => exact absurd rfl (h .bad rfl)
theorem fl_loop4_round' (tr : Sl fl_eF.den) (k : fl_kf.den) (u d t : Int) (hf : Fine (fl_f4 (tr, (), k, u, d, t, ()))) :
    (roundT true Try.prog E0 (fun _ => none) 0 44 [] fl_ps4 fl_wy4 fl_b4 [] (tr, (), k, u, d, t, ())).All (ResOk fl_m4 fl_f4 (tr, (), k, u, d, t, ())) := by
  have hok : fl_ok5 (fl_hi5 k) t = true := fl_br_fine hf
  obtain ⟨_, e0⟩ := fl_br_true (l := fl_yl 4 fl_ps2 (fl_acc4 k u d (fl_hi5 k + 1 - t).toNat t tr, (), k, u, d, ()) (fl_acc4 k u d (fl_hi5 k + 1 - t).toNat t tr)) (r := .leaf .bad) hok
  obtain ⟨h1, h2⟩ : fl_hi5 k ≤ 9223372036854775806 ∧ -9223372036854775808 ≤ t := of_decide_eq_true hok
  rw [fl_round4]
  by_cases ht : t ≤ fl_hi5 k
  · have ht' : decide (t ≤ k.2.2.2.2.2.2.1) = true := decide_eq_true ht
    rw [ht', cond_true]
    have hW : W (t + 1) = t + 1 := IntWalk.i64_in _ ⟨by omega, by omega⟩
    have hn : (fl_hi5 k + 1 - t).toNat = (fl_hi5 k + 1 - (t + 1)).toNat + 1 := by omega
    have hok' : fl_ok5 (fl_hi5 k) (t + 1) = true := decide_eq_true ⟨h1, by omega⟩
    obtain ⟨e1, _⟩ := fl_br_true (l := fl_yl 4 fl_ps2 (fl_acc4 k u d (fl_hi5 k + 1 - (t + 1)).toNat (t + 1) (fl_push tr (fl_itm k u d t)), (), k, u, d, ()) (fl_acc4 k u d (fl_hi5 k + 1 - (t + 1)).toNat (t + 1) (fl_push tr (fl_itm k u d t)))) (r := .leaf .bad) hok'
    have hp : (fl_push tr (fl_itm k u d t)).list <+: (fl_acc4 k u d (fl_hi5 k + 1 - t).toNat t tr).list := by
      rw [hn]; exact fl_acc4_pre k u d _ _ _
    refine ⟨⟨?_, fun o ho => ?_⟩, e0 _ (fl_yl_stop hp), e0 _ (fl_yl_foreign hp)⟩
    · show (fl_hi5 k + 1 - W (t + 1)).toNat < (fl_hi5 k + 1 - t).toNat
      rw [hW]; omega
    · rw [hW] at ho
      have := e1 o ho
      rw [show fl_acc4 k u d (fl_hi5 k + 1 - (t + 1)).toNat (t + 1) (fl_push tr (fl_itm k u d t)) = fl_acc4 k u d (fl_hi5 k + 1 - t).toNat t tr by rw [hn]; rfl] at this
      exact e0 o (fl_yl_self o this)
  · have ht' : decide (t ≤ k.2.2.2.2.2.2.1) = false := decide_eq_false ht
    rw [ht', cond_false]
    have hn : (fl_hi5 k + 1 - t).toNat = 0 := by omega
    refine e0 _ ⟨_, .inl rfl, ?_⟩
    rw [hn]
    exact .refl (by simp)
theorem fl_loop4_round (x : (patsTy fl_ps4).den) (hf : Fine (fl_f4 x)) : (roundT true Try.prog E0 (fun _ => none) 0 44 [] fl_ps4 fl_wy4 fl_b4 [] x).All (ResOk fl_m4 fl_f4 x) := by
  obtain ⟨tr, ⟨⟩, k, u, d, t, ⟨⟩⟩ := x
  exact fl_loop4_round' tr k u d t hf

noncomputable abbrev fl_ls2 : List Loop := [.known (loopF 0 [] fl_ps4 fl_f4)]
theorem fl_round2 (tr : Sl fl_eF.den) (k : fl_kf.den) (u d : Int) :
    roundT true Try.prog E0 (fun _ => none) 0 44 [] fl_ps2 fl_wy2 fl_b2 fl_ls2 (tr, (), k, u, d, ()) =
      bif decide (d ≤ k.2.2.2.2.1) then
        (bif fl_ok5 (fl_hi5 k) k.2.2.2.2.2.1 then
          .any (.leaf (.next (fl_acc4 k u d (fl_hi5 k + 1 - k.2.2.2.2.2.1).toNat k.2.2.2.2.2.1 tr, (), k, u, W (d + 1), ())))
            (.any (.leaf (.out (.stop fl_eF (fl_acc4 k u d (fl_hi5 k + 1 - k.2.2.2.2.2.1).toNat k.2.2.2.2.2.1 tr)))) (.leaf (.out (.foreign fl_eF (fl_acc4 k u d (fl_hi5 k + 1 - k.2.2.2.2.2.1).toNat k.2.2.2.2.2.1 tr)))))
        else .leaf (.out .bad))
      else .leaf (.out (.exit 2 fl_ps0 (tr, (), k, u, ()))) := by
  kernel_rfl

def fl_lo5 (k : fl_kf.den) : Int := k.2.2.2.2.2.1
def fl_hi4 (k : fl_kf.den) : Int := k.2.2.2.2.1
def fl_a5 (k : fl_kf.den) (u d : Int) (tr : Sl fl_eF.den) : Sl fl_eF.den := fl_acc4 k u d (fl_hi5 k + 1 - fl_lo5 k).toNat (fl_lo5 k) tr
def fl_acc2 (k : fl_kf.den) (u : Int) : Nat → Int → Sl fl_eF.den → Sl fl_eF.den
  | 0, _, tr => tr
  | n + 1, d, tr => fl_acc2 k u n (d + 1) (fl_a5 k u d tr)
theorem fl_a5_pre (k : fl_kf.den) (u d : Int) (tr : Sl fl_eF.den) : tr.list <+: (fl_a5 k u d tr).list := fl_acc4_pre k u d _ _ _
theorem fl_acc2_pre (k : fl_kf.den) (u : Int) : ∀ (n : Nat) (d : Int) (tr : Sl fl_eF.den), tr.list <+: (fl_acc2 k u n d tr).list
  | 0, _, tr => List.prefix_refl _
  | n + 1, d, tr => (fl_a5_pre k u d tr).trans (fl_acc2_pre k u n (d + 1) (fl_a5 k u d tr))
def fl_f2 : (patsTy fl_ps2).den → Tree LO := fun (tr, _, k, u, d, _) =>
  .br (fl_ok5 (fl_hi4 k) d && fl_ok5 (fl_hi5 k) (fl_lo5 k)) (fl_yl 2 fl_ps0 (fl_acc2 k u (fl_hi4 k + 1 - d).toNat d tr, (), k, u, ()) (fl_acc2 k u (fl_hi4 k + 1 - d).toNat d tr)) (.leaf .bad)
def fl_m2 : (patsTy fl_ps2).den → Nat := fun (_, _, k, _, d, _) => (fl_hi4 k + 1 - d).toNat
theorem fl_loop2_round' (tr : Sl fl_eF.den) (k : fl_kf.den) (u d : Int) (hf : Fine (fl_f2 (tr, (), k, u, d, ()))) :
    (roundT true Try.prog E0 (fun _ => none) 0 44 [] fl_ps2 fl_wy2 fl_b2 fl_ls2 (tr, (), k, u, d, ())).All (ResOk fl_m2 fl_f2 (tr, (), k, u, d, ())) := by
  have hok : (fl_ok5 (fl_hi4 k) d && fl_ok5 (fl_hi5 k) (fl_lo5 k)) = true := fl_br_fine hf
  obtain ⟨_, e0⟩ := fl_br_true (l := fl_yl 2 fl_ps0 (fl_acc2 k u (fl_hi4 k + 1 - d).toNat d tr, (), k, u, ()) (fl_acc2 k u (fl_hi4 k + 1 - d).toNat d tr)) (r := .leaf .bad) hok
  rw [Bool.and_eq_true] at hok
  obtain ⟨h1, h2⟩ : fl_hi4 k ≤ 9223372036854775806 ∧ -9223372036854775808 ≤ d := of_decide_eq_true hok.1
  rw [fl_round2]
  by_cases ht : d ≤ fl_hi4 k
  · have ht' : decide (d ≤ k.2.2.2.2.1) = true := decide_eq_true ht
    have h5 : fl_ok5 (fl_hi5 k) k.2.2.2.2.2.1 = true := hok.2
    rw [ht', cond_true, h5, cond_true]
    have hW : W (d + 1) = d + 1 := IntWalk.i64_in _ ⟨by omega, by omega⟩
    have hn : (fl_hi4 k + 1 - d).toNat = (fl_hi4 k + 1 - (d + 1)).toNat + 1 := by omega
    have hok' : (fl_ok5 (fl_hi4 k) (d + 1) && fl_ok5 (fl_hi5 k) (fl_lo5 k)) = true := by rw [hok.2, Bool.and_true]; exact decide_eq_true ⟨h1, by omega⟩
    obtain ⟨e1, _⟩ := fl_br_true (l := fl_yl 2 fl_ps0 (fl_acc2 k u (fl_hi4 k + 1 - (d + 1)).toNat (d + 1) (fl_a5 k u d tr), (), k, u, ()) (fl_acc2 k u (fl_hi4 k + 1 - (d + 1)).toNat (d + 1) (fl_a5 k u d tr))) (r := .leaf .bad) hok'
    have hp : (fl_a5 k u d tr).list <+: (fl_acc2 k u (fl_hi4 k + 1 - d).toNat d tr).list := by
      rw [hn]; exact fl_acc2_pre k u _ _ _
    refine ⟨⟨?_, fun o ho => ?_⟩, e0 _ (fl_yl_stop hp), e0 _ (fl_yl_foreign hp)⟩
    · show (fl_hi4 k + 1 - W (d + 1)).toNat < (fl_hi4 k + 1 - d).toNat
      rw [hW]; omega
    · rw [hW] at ho
      have := e1 o ho
      rw [show fl_acc2 k u (fl_hi4 k + 1 - (d + 1)).toNat (d + 1) (fl_a5 k u d tr) = fl_acc2 k u (fl_hi4 k + 1 - d).toNat d tr by rw [hn]; rfl] at this
      exact e0 o (fl_yl_self o this)
  · have ht' : decide (d ≤ k.2.2.2.2.1) = false := decide_eq_false ht
    rw [ht', cond_false]
    have hn : (fl_hi4 k + 1 - d).toNat = 0 := by omega
    refine e0 _ ⟨_, .inl rfl, ?_⟩
    rw [hn]
    exact .refl (by simp)
theorem fl_loop2_round (x : (patsTy fl_ps2).den) (hf : Fine (fl_f2 x)) : (roundT true Try.prog E0 (fun _ => none) 0 44 [] fl_ps2 fl_wy2 fl_b2 fl_ls2 x).All (ResOk fl_m2 fl_f2 x) := by
  obtain ⟨tr, ⟨⟩, k, u, d, ⟨⟩⟩ := x
  exact fl_loop2_round' tr k u d hf

def fl_lo4 (k : fl_kf.den) : Int := k.2.2.2.1
def fl_hi3 (k : fl_kf.den) : Int := k.2.2.1
noncomputable abbrev fl_ls0 : List Loop := [.known (loopF 0 [] fl_ps2 fl_f2)]
theorem fl_round0 (tr : Sl fl_eF.den) (k : fl_kf.den) (u : Int) :
    roundT true Try.prog E0 (fun _ => none) 0 44 [] fl_ps0 fl_wy0 fl_b0 fl_ls0 (tr, (), k, u, ()) =
      bif decide (u ≤ k.2.2.1) then
        (bif (fl_ok5 (fl_hi4 k) k.2.2.2.1 && fl_ok5 (fl_hi5 k) (fl_lo5 k)) then
          .any (.leaf (.next (fl_acc2 k u (fl_hi4 k + 1 - k.2.2.2.1).toNat k.2.2.2.1 tr, (), k, W (u + 1), ())))
            (.any (.leaf (.out (.stop fl_eF (fl_acc2 k u (fl_hi4 k + 1 - k.2.2.2.1).toNat k.2.2.2.1 tr)))) (.leaf (.out (.foreign fl_eF (fl_acc2 k u (fl_hi4 k + 1 - k.2.2.2.1).toNat k.2.2.2.1 tr)))))
        else .leaf (.out .bad))
      else .leaf (.out (.exit 0 [.tr fl_eF] (tr, ()))) := by
  kernel_rfl

def fl_a4 (k : fl_kf.den) (u : Int) (tr : Sl fl_eF.den) : Sl fl_eF.den := fl_acc2 k u (fl_hi4 k + 1 - fl_lo4 k).toNat (fl_lo4 k) tr
def fl_acc0 (k : fl_kf.den) : Nat → Int → Sl fl_eF.den → Sl fl_eF.den
  | 0, _, tr => tr
  | n + 1, u, tr => fl_acc0 k n (u + 1) (fl_a4 k u tr)
theorem fl_a4_pre (k : fl_kf.den) (u : Int) (tr : Sl fl_eF.den) : tr.list <+: (fl_a4 k u tr).list := fl_acc2_pre k u _ _ _
theorem fl_acc0_pre (k : fl_kf.den) : ∀ (n : Nat) (u : Int) (tr : Sl fl_eF.den), tr.list <+: (fl_acc0 k n u tr).list
  | 0, _, tr => List.prefix_refl _
  | n + 1, u, tr => (fl_a4_pre k u tr).trans (fl_acc0_pre k n (u + 1) (fl_a4 k u tr))
def fl_okk (k : fl_kf.den) : Bool := fl_ok5 (fl_hi4 k) (fl_lo4 k) && fl_ok5 (fl_hi5 k) (fl_lo5 k)
def fl_f0 : (patsTy fl_ps0).den → Tree LO := fun (tr, _, k, u, _) =>
  .br (fl_ok5 (fl_hi3 k) u && fl_okk k) (fl_yl 0 [.tr fl_eF] (fl_acc0 k (fl_hi3 k + 1 - u).toNat u tr, ()) (fl_acc0 k (fl_hi3 k + 1 - u).toNat u tr)) (.leaf .bad)
def fl_m0 : (patsTy fl_ps0).den → Nat := fun (_, _, k, u, _) => (fl_hi3 k + 1 - u).toNat
theorem fl_loop0_round' (tr : Sl fl_eF.den) (k : fl_kf.den) (u : Int) (hf : Fine (fl_f0 (tr, (), k, u, ()))) :
    (roundT true Try.prog E0 (fun _ => none) 0 44 [] fl_ps0 fl_wy0 fl_b0 fl_ls0 (tr, (), k, u, ())).All (ResOk fl_m0 fl_f0 (tr, (), k, u, ())) := by
  have hok : (fl_ok5 (fl_hi3 k) u && fl_okk k) = true := fl_br_fine hf
  obtain ⟨_, e0⟩ := fl_br_true (l := fl_yl 0 [.tr fl_eF] (fl_acc0 k (fl_hi3 k + 1 - u).toNat u tr, ()) (fl_acc0 k (fl_hi3 k + 1 - u).toNat u tr)) (r := .leaf .bad) hok
  rw [Bool.and_eq_true] at hok
  obtain ⟨h1, h2⟩ : fl_hi3 k ≤ 9223372036854775806 ∧ -9223372036854775808 ≤ u := of_decide_eq_true hok.1
  rw [fl_round0]
  by_cases ht : u ≤ fl_hi3 k
  · have ht' : decide (u ≤ k.2.2.1) = true := decide_eq_true ht
    have h5 : (fl_ok5 (fl_hi4 k) k.2.2.2.1 && fl_ok5 (fl_hi5 k) (fl_lo5 k)) = true := hok.2
    rw [ht', cond_true, h5, cond_true]
    have hW : W (u + 1) = u + 1 := IntWalk.i64_in _ ⟨by omega, by omega⟩
    have hn : (fl_hi3 k + 1 - u).toNat = (fl_hi3 k + 1 - (u + 1)).toNat + 1 := by omega
    have hok' : (fl_ok5 (fl_hi3 k) (u + 1) && fl_okk k) = true := by rw [hok.2, Bool.and_true]; exact decide_eq_true ⟨h1, by omega⟩
    obtain ⟨e1, _⟩ := fl_br_true (l := fl_yl 0 [.tr fl_eF] (fl_acc0 k (fl_hi3 k + 1 - (u + 1)).toNat (u + 1) (fl_a4 k u tr), ()) (fl_acc0 k (fl_hi3 k + 1 - (u + 1)).toNat (u + 1) (fl_a4 k u tr))) (r := .leaf .bad) hok'
    have hp : (fl_a4 k u tr).list <+: (fl_acc0 k (fl_hi3 k + 1 - u).toNat u tr).list := by
      rw [hn]; exact fl_acc0_pre k _ _ _
    refine ⟨⟨?_, fun o ho => ?_⟩, e0 _ (fl_yl_stop hp), e0 _ (fl_yl_foreign hp)⟩
    · show (fl_hi3 k + 1 - W (u + 1)).toNat < (fl_hi3 k + 1 - u).toNat
      rw [hW]; omega
    · rw [hW] at ho
      have := e1 o ho
      rw [show fl_acc0 k (fl_hi3 k + 1 - (u + 1)).toNat (u + 1) (fl_a4 k u tr) = fl_acc0 k (fl_hi3 k + 1 - u).toNat u tr by rw [hn]; rfl] at this
      exact e0 o (fl_yl_self o this)
  · have ht' : decide (u ≤ k.2.2.1) = false := decide_eq_false ht
    rw [ht', cond_false]
    have hn : (fl_hi3 k + 1 - u).toNat = 0 := by omega
    refine e0 _ ⟨_, .inl rfl, ?_⟩
    rw [hn]
    exact .refl (by simp)
theorem fl_loop0_round (x : (patsTy fl_ps0).den) (hf : Fine (fl_f0 x)) : (roundT true Try.prog E0 (fun _ => none) 0 44 [] fl_ps0 fl_wy0 fl_b0 fl_ls0 x).All (ResOk fl_m0 fl_f0 x) := by
  obtain ⟨tr, ⟨⟩, k, u, ⟨⟩⟩ := x
  exact fl_loop0_round' tr k u hf

def fl_lo3 (k : fl_kf.den) : Int := k.2.1
def fl_flights (k : fl_kf.den) : Sl fl_eF.den := fl_acc0 k (fl_hi3 k + 1 - fl_lo3 k).toNat (fl_lo3 k) ⟨0, fun _ => fl_eF.dflt⟩
def ip115 (_ : (fst115).den) (y : (cap115).den) : Bool := fl_ok5 (fl_hi3 y.1) (fl_lo3 y.1) && fl_okk y.1
def ii115 (_ : (fst115).den) (y : (cap115).den) : Sl (e115).den := fl_flights y.1
def i115 : ICon := ⟨fst115, cap115, e115, ip115, ii115⟩
noncomputable abbrev fl_ls : List Loop := [.known (loopF 0 [] fl_ps0 fl_f0)]
theorem fl_run115 (k : fl_kf.den) : runI Try.prog E0 (fun _ => none) Try.f115 fl_ls i115 () (k, ()) =
    bif (fl_ok5 (fl_hi3 k) k.2.1 && fl_okk k) then .any (.leaf (.full ⟨fl_eF, true, fl_flights k⟩)) (.any (.leaf (.stop ⟨fl_eF, false, fl_flights k⟩)) (.leaf (.foreign ⟨fl_eF, false, fl_flights k⟩)))
    else .leaf .bad := by
  kernel_rfl


theorem fl_loops115 (G' : Gh) (h0 : G'.lo = 0) (hok : G'.Ok Try.prog) : LsOK Try.prog 44 G' 115 Fence.wide 0 c115 fl_ls := by
  have hE : Env Try.prog E0 (fun _ => none) G' Fence.wide := ⟨follows_ok, none_sound, eqTy_sound, keyTy_sound, hok, .wide, fun _ => rfl⟩
  have l4 : LoopOK Try.prog 44 G' 115 Fence.wide 0 (.loop fl_b4) (loopF 0 [] fl_ps4 fl_f4) := by
    have := loop_ok (fid := 115) (r := 0) (N := 44) (dfr := []) hE (tr := true) (.inl rfl) (ps := fl_ps4) (wy := fl_wy4) (body := fl_b4) (ls := []) LsOK_nil (by kernel_rfl) (by kernel_rfl) fl_f4 fl_m4 (by rw [h0]; exact fl_loop4_round)
    rw [h0] at this; exact this
  have l2 : LoopOK Try.prog 44 G' 115 Fence.wide 0 (.loop fl_b2) (loopF 0 [] fl_ps2 fl_f2) := by
    have := loop_ok (fid := 115) (r := 0) (N := 44) (dfr := []) hE (tr := true) (.inl rfl) (ps := fl_ps2) (wy := fl_wy2) (body := fl_b2) (ls := fl_ls2) (LsOK_one l4 (by kernel_rfl) (by kernel_rfl)) (by kernel_rfl) (by kernel_rfl) fl_f2 fl_m2 (by rw [h0]; exact fl_loop2_round)
    rw [h0] at this; exact this
  have l0 : LoopOK Try.prog 44 G' 115 Fence.wide 0 (.loop fl_b0) (loopF 0 [] fl_ps0 fl_f0) := by
    have := loop_ok (fid := 115) (r := 0) (N := 44) (dfr := []) hE (tr := true) (.inl rfl) (ps := fl_ps0) (wy := fl_wy0) (body := fl_b0) (ls := fl_ls0) (LsOK_one l2 (by kernel_rfl) (by kernel_rfl)) (by kernel_rfl) (by kernel_rfl) fl_f0 fl_m0 (by rw [h0]; exact fl_loop0_round)
    rw [h0] at this; exact this
  exact LsOK_one l0 (by kernel_rfl) (by kernel_rfl)

theorem h115 : IHolds Try.prog 115 i115 := by
  refine iholds_of_run follows_ok none_sound eqTy_sound keyTy_sound (E := E0) at115 bd115 (ls := fl_ls) i115 rfl rfl (Nat.le_of_ble_eq_true (by kernel_rfl)) (by kernel_rfl) (fun G' h0 hok _ => fl_loops115 G' h0 hok) ?_
  rintro ⟨⟩ ⟨k, ⟨⟩⟩ hp
  rw [fl_run115]
  have hp : (fl_ok5 (fl_hi3 k) k.2.1 && fl_okk k) = true := hp
  rw [hp, cond_true]
  exact ⟨⟨_, rfl, rfl⟩, ⟨_, rfl, List.prefix_refl _⟩, _, rfl, List.prefix_refl _⟩


/-- isobar/kite.flights -/
noncomputable def c93 : Code := Try.f93.body.getD .skip
theorem at93 : Try.prog.funcs[93]? = some Try.f93 := by kernel_rfl
theorem bd93 : Try.f93.body = some c93 := by kernel_rfl
theorem cl93 : Callable Try.prog 93 := callable_of at93 (by kernel_rfl) (by kernel_rfl)
abbrev T59 : Ty := (.seq T58)
abbrev T60 : Ty := (.cons T59 .nil)
abbrev a93 : Ty := T43
abbrev r93 : Ty := T60
noncomputable def G93 : Ctx := Ctx.of [(115, .iter i115)]
theorem g93 : Sound Try.prog (G93) := sound_of (List.forall_mem_cons.2 ⟨⟨cl115, h115⟩, fun _ h => by cases h⟩)
theorem lo93 : loopsOf (c93) = [] := by kernel_rfl
noncomputable def l93 : List Loop := []
def Q93 {α : Type} (l : Option (r93).den → α) (an : α → α → α) (x : (a93).den) : α := bif (ip115 () (x.1, ())) then l (some ((ii115 () (x.1, ())), ())) else l none
theorem q93 (x : (a93).den) : runFn Try.prog E0 G93 Try.f93 l93 a93 r93 x = Q93 .leaf .any x := by kernel_rfl
def M93 (x : (a93).den) : Option (r93).den := Q93 (fun r => r) (fun _ _ => none) x
theorem m93 (x : (a93).den) : (runFn Try.prog E0 G93 Try.f93 l93 a93 r93 x).sure = M93 x := by rw [q93]; unfold M93 Q93; simp only [sure_cond, Tree.sure, sure_cl, sure_onExit, sure_onRet, sure_onPanL, sure_onNext, sure_onBrk, sure_onRetO, sure_onPan, sure_onOk, sure_onGPan]
def p93 (x : (a93).den) : Bool := (M93 x).isSome
def v93 (x : (a93).den) : (r93).den := (M93 x).getD (r93).dflt
def k93 : Con := ⟨a93, r93, p93, v93⟩
theorem h93 : Holds Try.prog 93 k93 := holds_of_M' (E := E0) follows_ok g93 eqTy_sound keyTy_sound at93 bd93 (by kernel_rfl) m93 fun G' hlo hF hE => LsOK_kn (by rw [lo93]; exact .nil)
/-- (isobar/kite.flight).minutes -/
noncomputable def c118 : Code := Try.f118.body.getD .skip
theorem at118 : Try.prog.funcs[118]? = some Try.f118 := by kernel_rfl
theorem bd118 : Try.f118.body = some c118 := by kernel_rfl
theorem cl118 : Callable Try.prog 118 := callable_of at118 (by kernel_rfl) (by kernel_rfl)
abbrev T61 : Ty := (.cons T57 T0)
abbrev a118 : Ty := T61
abbrev r118 : Ty := T0
noncomputable def G118 : Ctx := Ctx.of []
theorem g118 : Sound Try.prog (G118) := sound_of (fun _ h => by cases h)
theorem lo118 : loopsOf (c118) = [] := by kernel_rfl
noncomputable def l118 : List Loop := []
def Q118 {α : Type} (l : Option (r118).den → α) (an : α → α → α) (x : (a118).den) : α := bif (decide (x.1.2.2.2.2.2.2.2.2.2.2.2.2.2.2.2.1 ≤ x.2.1)) then l (some ((0 : Int), ())) else bif (decide (((0 : Int) ≤ x.2.1) ∧ (x.2.1 < ((x.1.1.n : Nat) : Int)))) then bif (decide (x.1.2.2.2.2.2.2.2.2.2.2.2.2.2.1 = (0 : Int))) then l none else bif (decide (x.1.2.2.2.2.2.2.2.2.2.2.2.2.2.2.1 = (0 : Int))) then l none else l (some ((W ((W (Int.tdiv (W ((W ((x.1.1.g (Int.toNat x.2.1)).1 + x.1.2.2.2.2.2.2.2.2.2.2.2.2.2.1)) - (1 : Int))) x.1.2.2.2.2.2.2.2.2.2.2.2.2.2.1)) + (W (Int.tdiv (W ((W ((x.1.1.g (Int.toNat x.2.1)).1 + x.1.2.2.2.2.2.2.2.2.2.2.2.2.2.2.1)) - (1 : Int))) x.1.2.2.2.2.2.2.2.2.2.2.2.2.2.2.1)))), ())) else l none
theorem q118 (x : (a118).den) : runFn Try.prog E0 G118 Try.f118 l118 a118 r118 x = Q118 .leaf .any x := by kernel_rfl
def M118 (x : (a118).den) : Option (r118).den := Q118 (fun r => r) (fun _ _ => none) x
theorem m118 (x : (a118).den) : (runFn Try.prog E0 G118 Try.f118 l118 a118 r118 x).sure = M118 x := by rw [q118]; unfold M118 Q118; simp only [sure_cond, Tree.sure, sure_cl, sure_onExit, sure_onRet, sure_onPanL, sure_onNext, sure_onBrk, sure_onRetO, sure_onPan, sure_onOk, sure_onGPan]
def p118 (x : (a118).den) : Bool := (M118 x).isSome
def v118 (x : (a118).den) : (r118).den := (M118 x).getD (r118).dflt
def k118 : Con := ⟨a118, r118, p118, v118⟩
theorem h118 : Holds Try.prog 118 k118 := holds_of_M' (E := E0) follows_ok g118 eqTy_sound keyTy_sound at118 bd118 (by kernel_rfl) m118 fun G' hlo hF hE => LsOK_kn (by rw [lo118]; exact .nil)
/-- (isobar/kite.flight).eastern -/
noncomputable def c116 : Code := Try.f116.body.getD .skip
theorem at116 : Try.prog.funcs[116]? = some Try.f116 := by kernel_rfl
theorem bd116 : Try.f116.body = some c116 := by kernel_rfl
theorem cl116 : Callable Try.prog 116 := callable_of at116 (by kernel_rfl) (by kernel_rfl)
abbrev a116 : Ty := T61
abbrev r116 : Ty := T6
noncomputable def G116 : Ctx := Ctx.of []
theorem g116 : Sound Try.prog (G116) := sound_of (fun _ h => by cases h)
theorem lo116 : loopsOf (c116) = [] := by kernel_rfl
noncomputable def l116 : List Loop := []
def Q116 {α : Type} (l : Option (r116).den → α) (an : α → α → α) (x : (a116).den) : α := bif (decide (((0 : Int) ≤ x.2.1) ∧ (x.2.1 < ((x.1.1.n : Nat) : Int)))) then l (some (((x.1.1.g (Int.toNat x.2.1)).2.1, ((x.1.1.g (Int.toNat x.2.1)).2.2.1, ())), ())) else l none
theorem q116 (x : (a116).den) : runFn Try.prog E0 G116 Try.f116 l116 a116 r116 x = Q116 .leaf .any x := by kernel_rfl
def M116 (x : (a116).den) : Option (r116).den := Q116 (fun r => r) (fun _ _ => none) x
theorem m116 (x : (a116).den) : (runFn Try.prog E0 G116 Try.f116 l116 a116 r116 x).sure = M116 x := by rw [q116]; unfold M116 Q116; simp only [sure_cond, Tree.sure, sure_cl, sure_onExit, sure_onRet, sure_onPanL, sure_onNext, sure_onBrk, sure_onRetO, sure_onPan, sure_onOk, sure_onGPan]
def p116 (x : (a116).den) : Bool := (M116 x).isSome
def v116 (x : (a116).den) : (r116).den := (M116 x).getD (r116).dflt
def k116 : Con := ⟨a116, r116, p116, v116⟩
theorem h116 : Holds Try.prog 116 k116 := holds_of_M' (E := E0) follows_ok g116 eqTy_sound keyTy_sound at116 bd116 (by kernel_rfl) m116 fun G' hlo hF hE => LsOK_kn (by rw [lo116]; exact .nil)
/-- (isobar/kite.flight).northern -/
noncomputable def c117 : Code := Try.f117.body.getD .skip
theorem at117 : Try.prog.funcs[117]? = some Try.f117 := by kernel_rfl
theorem bd117 : Try.f117.body = some c117 := by kernel_rfl
theorem cl117 : Callable Try.prog 117 := callable_of at117 (by kernel_rfl) (by kernel_rfl)
abbrev a117 : Ty := T61
abbrev r117 : Ty := T6
noncomputable def G117 : Ctx := Ctx.of []
theorem g117 : Sound Try.prog (G117) := sound_of (fun _ h => by cases h)
theorem lo117 : loopsOf (c117) = [] := by kernel_rfl
noncomputable def l117 : List Loop := []
def Q117 {α : Type} (l : Option (r117).den → α) (an : α → α → α) (x : (a117).den) : α := bif (decide (((0 : Int) ≤ x.2.1) ∧ (x.2.1 < ((x.1.1.n : Nat) : Int)))) then l (some ((x.1.1.g (Int.toNat x.2.1)).2.2.2, ())) else l none
theorem q117 (x : (a117).den) : runFn Try.prog E0 G117 Try.f117 l117 a117 r117 x = Q117 .leaf .any x := by kernel_rfl
def M117 (x : (a117).den) : Option (r117).den := Q117 (fun r => r) (fun _ _ => none) x
theorem m117 (x : (a117).den) : (runFn Try.prog E0 G117 Try.f117 l117 a117 r117 x).sure = M117 x := by rw [q117]; unfold M117 Q117; simp only [sure_cond, Tree.sure, sure_cl, sure_onExit, sure_onRet, sure_onPanL, sure_onNext, sure_onBrk, sure_onRetO, sure_onPan, sure_onOk, sure_onGPan]
def p117 (x : (a117).den) : Bool := (M117 x).isSome
def v117 (x : (a117).den) : (r117).den := (M117 x).getD (r117).dflt
def k117 : Con := ⟨a117, r117, p117, v117⟩
theorem h117 : Holds Try.prog 117 k117 := holds_of_M' (E := E0) follows_ok g117 eqTy_sound keyTy_sound at117 bd117 (by kernel_rfl) m117 fun G' hlo hF hE => LsOK_kn (by rw [lo117]; exact .nil)
/-- (isobar/kite.flight).winds -/
noncomputable def c94 : Code := Try.f94.body.getD .skip
theorem at94 : Try.prog.funcs[94]? = some Try.f94 := by kernel_rfl
theorem bd94 : Try.f94.body = some c94 := by kernel_rfl
theorem cl94 : Callable Try.prog 94 := callable_of at94 (by kernel_rfl) (by kernel_rfl)
abbrev a94 : Ty := T61
abbrev r94 : Ty := T51
noncomputable def G94 : Ctx := Ctx.of [(116, .pure k116), (117, .pure k117)]
theorem g94 : Sound Try.prog (G94) := sound_of (List.forall_mem_cons.2 ⟨⟨cl116, h116⟩, List.forall_mem_cons.2 ⟨⟨cl117, h117⟩, fun _ h => by cases h⟩⟩)
noncomputable def b94x0 : Code := loopBody ((loopsOf (c94))[0]?)
abbrev T62 : Ty := (.fn T0 T6)
theorem lo94x0 : loopsOf (b94x0) = [] := by kernel_rfl
abbrev cs94x0 : List Pat := [.slot 5 (.pc T62), .slot 19 (.pc tI)]
abbrev vs94x0 : List Pat := [.slot 6 (.own 1000006 23 T1), .slot 20 (.pc tI)]
abbrev ps94x0 : List Pat := [.slot 5 (.pc T62), .slot 19 (.pc tI), .slot 6 (.own 1000006 23 T1), .slot 20 (.pc tI)]
def j94x0 : (patsTy cs94x0).den → (patsTy vs94x0).den → (patsTy ps94x0).den := fun c v => (c.1, (c.2.1, v))
def sp94x0 : (patsTy ps94x0).den → (patsTy cs94x0).den × (patsTy vs94x0).den := fun x => ((x.1, (x.2.1, ())), x.2.2)
abbrev wy94x0 : Ways := ⟨[(0, [.slot 6 (.own 1000006 23 T1)])], [], []⟩
abbrev wv94x0 : Ways := ⟨[(0, [.slot 6 (.own 1000006 23 T1)])], [], []⟩
def je94x0 : (id : Nat) → (patsTy cs94x0).den → (patsTy (wayP wv94x0 id)).den → (patsTy (wayP wy94x0 id)).den := fun id => match id with | 0 => fun c y => y | id => fun _ _ => (patsTy (wayP wy94x0 id)).dflt
def jr94x0 : (patsTy cs94x0).den → (patsTy (wv94x0).ret).den → (patsTy (wy94x0).ret).den := fun c y => y
def jp94x0 : (patsTy cs94x0).den → (patsTy (wv94x0).pan).den → (patsTy (wy94x0).pan).den := fun c y => y
def Z94x0 {α : Type} (l : RQ vs94x0 wv94x0 → α) (an : α → α → α) (c : (patsTy cs94x0).den) (v : (patsTy vs94x0).den) : α := bif (decide (v.2.1 < c.2.1)) then bif (c.1 v.2).1 then bif (decide (((v.1.n + 1) * 16) ≤ 140737488355328)) then l (.next ((catSl v.1 (⟨1, fun i => List.getD [(c.1 v.2).2.1] i (c.1 v.2).2.1⟩ : Sl (Ty.den T1))), ((W (v.2.1 + (1 : Int))), ()))) else l .bad else l .bad else l (.out (.exit 0 (v.1, ())))
theorem z94x0 (c : (patsTy cs94x0).den) (v : (patsTy vs94x0).den) : roundQ Try.prog E0 G94 0 32 [] ps94x0 wy94x0 b94x0 [] (j94x0 c v) = Z94x0 (fun r => .leaf (r.lift j94x0 je94x0 jr94x0 jp94x0 c)) .any c v := by kernel_rfl
def S94x0 (c : (patsTy cs94x0).den) (v : (patsTy vs94x0).den) : RQ vs94x0 wv94x0 := Z94x0 (fun r => r) (fun _ _ => .bad) c v
theorem s94x0 (c : (patsTy cs94x0).den) (v : (patsTy vs94x0).den) : detQ (roundQ Try.prog E0 G94 0 32 [] ps94x0 wy94x0 b94x0 [] (j94x0 c v)) = (S94x0 c v).lift j94x0 je94x0 jr94x0 jp94x0 c := by rw [z94x0]; unfold S94x0 Z94x0; simp only [detQ_cond, lift_cond, lift_bad, detQ, detQ_cl, detQ_onExit, detQ_onRet, detQ_onPanL, detQ_onNext, detQ_onBrk, detQ_onRetO, detQ_onPan, detQ_onOk, detQ_onGPan, lift_cl, lift_onExit, lift_onRet, lift_onPanL, lift_onNext, lift_onBrk, lift_onRetO, lift_onPan, lift_onOk, lift_onGPan]
def L94x0 (c : (patsTy cs94x0).den) (v : (patsTy vs94x0).den) : LQ wv94x0 := iterQ (S94x0 c) big v
theorem lo94 : loopsOf (c94) = [.loop b94x0] := by kernel_rfl
noncomputable def l94 : List Loop := [.known (loopZ 0 [] ps94x0 fun x => spreadV wy94x0 je94x0 jr94x0 jp94x0 [] false (sp94x0 x).1 (L94x0 (sp94x0 x).1 (sp94x0 x).2) wy94x0.exits)]
def Q94 {α : Type} (l : Option (r94).den → α) (an : α → α → α) (x : (a94).den) : α := bif (decide ((x.2.1 < (2 : Int)) ∧ ((0 : Int) ≤ x.2.1))) then bif (decide (((Int.toNat x.2.1) * 1) < 2)) then onExit (L94x0 ((List.getD [(fun y1 => ((p116 (x.1, y1)), (v116 (x.1, y1)))), (fun y1 => ((p117 (x.1, y1)), (v117 (x.1, y1))))] ((Int.toNat x.2.1) * 1) (fun y1 => ((p116 (x.1, y1)), (v116 (x.1, y1))))), (((x.1.1.n : Nat) : Int), ())) ((⟨0, fun i => ((0 : Int), ((0 : Int), ()))⟩ : Sl _), ((0 : Int), ()))) 0 (fun u0 => l (some u0)) (l none) else l none else l none
theorem q94 (x : (a94).den) : runFn Try.prog E0 G94 Try.f94 l94 a94 r94 x = Q94 .leaf .any x := by kernel_rfl
def M94 (x : (a94).den) : Option (r94).den := Q94 (fun r => r) (fun _ _ => none) x
theorem m94 (x : (a94).den) : (runFn Try.prog E0 G94 Try.f94 l94 a94 r94 x).sure = M94 x := by rw [q94]; unfold M94 Q94; simp only [sure_cond, Tree.sure, sure_cl, sure_onExit, sure_onRet, sure_onPanL, sure_onNext, sure_onBrk, sure_onRetO, sure_onPan, sure_onOk, sure_onGPan]
def p94 (x : (a94).den) : Bool := (M94 x).isSome
def v94 (x : (a94).den) : (r94).den := (M94 x).getD (r94).dflt
def k94 : Con := ⟨a94, r94, p94, v94⟩
theorem h94 : Holds Try.prog 94 k94 := holds_of_M' (E := E0) follows_ok g94 eqTy_sound keyTy_sound at94 bd94 (by kernel_rfl) m94 fun G' hlo hF hE => LsOK_kn (by rw [lo94]; exact .cons (loopV_ok hE hF hlo (LsOK_kn (by rw [lo94x0]; exact .nil)) (by kernel_rfl) (by kernel_rfl) sp94x0 (fun _ => rfl) (fun _ _ => rfl) (s94x0) big) (.nil))
/-- (isobar/kite.flight).drift -/
noncomputable def c95 : Code := Try.f95.body.getD .skip
theorem at95 : Try.prog.funcs[95]? = some Try.f95 := by kernel_rfl
theorem bd95 : Try.f95.body = some c95 := by kernel_rfl
theorem cl95 : Callable Try.prog 95 := callable_of at95 (by kernel_rfl) (by kernel_rfl)
abbrev T63 : Ty := (.cons T57 T44)
abbrev a95 : Ty := T63
abbrev r95 : Ty := T0
noncomputable def G95 : Ctx := Ctx.of [(118, .pure k118)]
theorem g95 : Sound Try.prog (G95) := sound_of (List.forall_mem_cons.2 ⟨⟨cl118, h118⟩, fun _ h => by cases h⟩)
noncomputable def b95x0 : Code := loopBody ((loopsOf (c95))[0]?)
theorem lo95x0 : loopsOf (b95x0) = [] := by kernel_rfl
abbrev cs95x0 : List Pat := [.slot 2 (.ptr 2), .slot 8 (.pc (.sl T0)), .slot 9 (.pc tI), .box 2 [.pc (.sl T9), .pc tI, .pc tI, .pc tI, .pc tI, .pc tI, .pc tI, .pc tI, .pc tI, .pc tI, .pc tI, .pc tI, .pc tI, .pc tI, .pc tI, .pc tI]]
abbrev vs95x0 : List Pat := [.slot 5 (.pc tI), .slot 10 (.pc tI)]
abbrev ps95x0 : List Pat := [.slot 2 (.ptr 2), .slot 8 (.pc (.sl T0)), .slot 9 (.pc tI), .box 2 [.pc (.sl T9), .pc tI, .pc tI, .pc tI, .pc tI, .pc tI, .pc tI, .pc tI, .pc tI, .pc tI, .pc tI, .pc tI, .pc tI, .pc tI, .pc tI, .pc tI], .slot 5 (.pc tI), .slot 10 (.pc tI)]
def j95x0 : (patsTy cs95x0).den → (patsTy vs95x0).den → (patsTy ps95x0).den := fun c v => (c.1, (c.2.1, (c.2.2.1, (c.2.2.2.1, v))))
def sp95x0 : (patsTy ps95x0).den → (patsTy cs95x0).den × (patsTy vs95x0).den := fun x => ((x.1, (x.2.1, (x.2.2.1, (x.2.2.2.1, ())))), x.2.2.2.2)
abbrev wy95x0 : Ways := ⟨[(0, [.slot 5 (.pc tI)])], [], []⟩
abbrev wv95x0 : Ways := ⟨[(0, [.slot 5 (.pc tI)])], [], []⟩
def je95x0 : (id : Nat) → (patsTy cs95x0).den → (patsTy (wayP wv95x0 id)).den → (patsTy (wayP wy95x0 id)).den := fun id => match id with | 0 => fun c y => y | id => fun _ _ => (patsTy (wayP wy95x0 id)).dflt
def jr95x0 : (patsTy cs95x0).den → (patsTy (wv95x0).ret).den → (patsTy (wy95x0).ret).den := fun c y => y
def jp95x0 : (patsTy cs95x0).den → (patsTy (wv95x0).pan).den → (patsTy (wy95x0).pan).den := fun c y => y
def Z95x0 {α : Type} (l : RQ vs95x0 wv95x0 → α) (an : α → α → α) (c : (patsTy cs95x0).den) (v : (patsTy vs95x0).den) : α := bif (decide (v.2.1 < c.2.2.1)) then bif (decide (((0 : Int) ≤ v.2.1) ∧ (v.2.1 < ((c.2.1.n : Nat) : Int)))) then cl (r118).dflt (M118 (c.2.2.2.1, v.2)) (fun u0 => l (.next ((W (v.1 + (W ((c.2.1.g (Int.toNat v.2.1)).1 * u0.1)))), ((W (v.2.1 + (1 : Int))), ())))) (l .bad) else l .bad else l (.out (.exit 0 (v.1, ())))
theorem z95x0 (c : (patsTy cs95x0).den) (v : (patsTy vs95x0).den) : roundQ Try.prog E0 G95 0 24 [] ps95x0 wy95x0 b95x0 [] (j95x0 c v) = Z95x0 (fun r => .leaf (r.lift j95x0 je95x0 jr95x0 jp95x0 c)) .any c v := by kernel_rfl
def S95x0 (c : (patsTy cs95x0).den) (v : (patsTy vs95x0).den) : RQ vs95x0 wv95x0 := Z95x0 (fun r => r) (fun _ _ => .bad) c v
theorem s95x0 (c : (patsTy cs95x0).den) (v : (patsTy vs95x0).den) : detQ (roundQ Try.prog E0 G95 0 24 [] ps95x0 wy95x0 b95x0 [] (j95x0 c v)) = (S95x0 c v).lift j95x0 je95x0 jr95x0 jp95x0 c := by rw [z95x0]; unfold S95x0 Z95x0; simp only [detQ_cond, lift_cond, lift_bad, detQ, detQ_cl, detQ_onExit, detQ_onRet, detQ_onPanL, detQ_onNext, detQ_onBrk, detQ_onRetO, detQ_onPan, detQ_onOk, detQ_onGPan, lift_cl, lift_onExit, lift_onRet, lift_onPanL, lift_onNext, lift_onBrk, lift_onRetO, lift_onPan, lift_onOk, lift_onGPan]
def L95x0 (c : (patsTy cs95x0).den) (v : (patsTy vs95x0).den) : LQ wv95x0 := iterQ (S95x0 c) big v
theorem lo95 : loopsOf (c95) = [.loop b95x0] := by kernel_rfl
noncomputable def l95 : List Loop := [.known (loopZ 0 [] ps95x0 fun x => spreadV wy95x0 je95x0 jr95x0 jp95x0 [] false (sp95x0 x).1 (L95x0 (sp95x0 x).1 (sp95x0 x).2) wy95x0.exits)]
def Q95 {α : Type} (l : Option (r95).den → α) (an : α → α → α) (x : (a95).den) : α := onExit (L95x0 ((), (x.2.1, (((x.2.1.n : Nat) : Int), (x.1, ())))) ((0 : Int), ((0 : Int), ()))) 0 (fun u1 => l (some u1)) (l none)
theorem q95 (x : (a95).den) : runFn Try.prog E0 G95 Try.f95 l95 a95 r95 x = Q95 .leaf .any x := by kernel_rfl
def M95 (x : (a95).den) : Option (r95).den := Q95 (fun r => r) (fun _ _ => none) x
theorem m95 (x : (a95).den) : (runFn Try.prog E0 G95 Try.f95 l95 a95 r95 x).sure = M95 x := by rw [q95]; unfold M95 Q95; simp only [sure_cond, Tree.sure, sure_cl, sure_onExit, sure_onRet, sure_onPanL, sure_onNext, sure_onBrk, sure_onRetO, sure_onPan, sure_onOk, sure_onGPan]
def p95 (x : (a95).den) : Bool := (M95 x).isSome
def v95 (x : (a95).den) : (r95).den := (M95 x).getD (r95).dflt
def k95 : Con := ⟨a95, r95, p95, v95⟩
theorem h95 : Holds Try.prog 95 k95 := holds_of_M' (E := E0) follows_ok g95 eqTy_sound keyTy_sound at95 bd95 (by kernel_rfl) m95 fun G' hlo hF hE => LsOK_kn (by rw [lo95]; exact .cons (loopV_ok hE hF hlo (LsOK_kn (by rw [lo95x0]; exact .nil)) (by kernel_rfl) (by kernel_rfl) sp95x0 (fun _ => rfl) (fun _ _ => rfl) (s95x0) big) (.nil))
/-- (isobar/kite.flight).flown -/
noncomputable def c96 : Code := Try.f96.body.getD .skip
theorem at96 : Try.prog.funcs[96]? = some Try.f96 := by kernel_rfl
theorem bd96 : Try.f96.body = some c96 := by kernel_rfl
theorem cl96 : Callable Try.prog 96 := callable_of at96 (by kernel_rfl) (by kernel_rfl)
abbrev a96 : Ty := T58
abbrev r96 : Ty := T0
noncomputable def G96 : Ctx := Ctx.of [(118, .pure k118)]
theorem g96 : Sound Try.prog (G96) := sound_of (List.forall_mem_cons.2 ⟨⟨cl118, h118⟩, fun _ h => by cases h⟩)
noncomputable def b96x0 : Code := loopBody ((loopsOf (c96))[0]?)
theorem lo96x0 : loopsOf (b96x0) = [] := by kernel_rfl
abbrev cs96x0 : List Pat := [.slot 1 (.ptr 1), .slot 8 (.pc tI), .box 1 [.pc (.sl T9), .pc tI, .pc tI, .pc tI, .pc tI, .pc tI, .pc tI, .pc tI, .pc tI, .pc tI, .pc tI, .pc tI, .pc tI, .pc tI, .pc tI, .pc tI]]
abbrev vs96x0 : List Pat := [.slot 3 (.pc tI), .slot 9 (.pc tI)]
abbrev ps96x0 : List Pat := [.slot 1 (.ptr 1), .slot 8 (.pc tI), .box 1 [.pc (.sl T9), .pc tI, .pc tI, .pc tI, .pc tI, .pc tI, .pc tI, .pc tI, .pc tI, .pc tI, .pc tI, .pc tI, .pc tI, .pc tI, .pc tI, .pc tI], .slot 3 (.pc tI), .slot 9 (.pc tI)]
def j96x0 : (patsTy cs96x0).den → (patsTy vs96x0).den → (patsTy ps96x0).den := fun c v => (c.1, (c.2.1, (c.2.2.1, v)))
def sp96x0 : (patsTy ps96x0).den → (patsTy cs96x0).den × (patsTy vs96x0).den := fun x => ((x.1, (x.2.1, (x.2.2.1, ()))), x.2.2.2)
abbrev wy96x0 : Ways := ⟨[(0, [.slot 3 (.pc tI)])], [], []⟩
abbrev wv96x0 : Ways := ⟨[(0, [.slot 3 (.pc tI)])], [], []⟩
def je96x0 : (id : Nat) → (patsTy cs96x0).den → (patsTy (wayP wv96x0 id)).den → (patsTy (wayP wy96x0 id)).den := fun id => match id with | 0 => fun c y => y | id => fun _ _ => (patsTy (wayP wy96x0 id)).dflt
def jr96x0 : (patsTy cs96x0).den → (patsTy (wv96x0).ret).den → (patsTy (wy96x0).ret).den := fun c y => y
def jp96x0 : (patsTy cs96x0).den → (patsTy (wv96x0).pan).den → (patsTy (wy96x0).pan).den := fun c y => y
def Z96x0 {α : Type} (l : RQ vs96x0 wv96x0 → α) (an : α → α → α) (c : (patsTy cs96x0).den) (v : (patsTy vs96x0).den) : α := bif (decide (v.2.1 < c.2.1)) then cl (r118).dflt (M118 (c.2.2.1, v.2)) (fun u0 => l (.next ((W (v.1 + u0.1)), ((W (v.2.1 + (1 : Int))), ())))) (l .bad) else l (.out (.exit 0 (v.1, ())))
theorem z96x0 (c : (patsTy cs96x0).den) (v : (patsTy vs96x0).den) : roundQ Try.prog E0 G96 0 19 [] ps96x0 wy96x0 b96x0 [] (j96x0 c v) = Z96x0 (fun r => .leaf (r.lift j96x0 je96x0 jr96x0 jp96x0 c)) .any c v := by kernel_rfl
def S96x0 (c : (patsTy cs96x0).den) (v : (patsTy vs96x0).den) : RQ vs96x0 wv96x0 := Z96x0 (fun r => r) (fun _ _ => .bad) c v
theorem s96x0 (c : (patsTy cs96x0).den) (v : (patsTy vs96x0).den) : detQ (roundQ Try.prog E0 G96 0 19 [] ps96x0 wy96x0 b96x0 [] (j96x0 c v)) = (S96x0 c v).lift j96x0 je96x0 jr96x0 jp96x0 c := by rw [z96x0]; unfold S96x0 Z96x0; simp only [detQ_cond, lift_cond, lift_bad, detQ, detQ_cl, detQ_onExit, detQ_onRet, detQ_onPanL, detQ_onNext, detQ_onBrk, detQ_onRetO, detQ_onPan, detQ_onOk, detQ_onGPan, lift_cl, lift_onExit, lift_onRet, lift_onPanL, lift_onNext, lift_onBrk, lift_onRetO, lift_onPan, lift_onOk, lift_onGPan]
def L96x0 (c : (patsTy cs96x0).den) (v : (patsTy vs96x0).den) : LQ wv96x0 := iterQ (S96x0 c) big v
theorem lo96 : loopsOf (c96) = [.loop b96x0] := by kernel_rfl
noncomputable def l96 : List Loop := [.known (loopZ 0 [] ps96x0 fun x => spreadV wy96x0 je96x0 jr96x0 jp96x0 [] false (sp96x0 x).1 (L96x0 (sp96x0 x).1 (sp96x0 x).2) wy96x0.exits)]
def Q96 {α : Type} (l : Option (r96).den → α) (an : α → α → α) (x : (a96).den) : α := onExit (L96x0 ((), (((x.1.1.n : Nat) : Int), (x.1, ()))) ((0 : Int), ((0 : Int), ()))) 0 (fun u1 => l (some u1)) (l none)
theorem q96 (x : (a96).den) : runFn Try.prog E0 G96 Try.f96 l96 a96 r96 x = Q96 .leaf .any x := by kernel_rfl
def M96 (x : (a96).den) : Option (r96).den := Q96 (fun r => r) (fun _ _ => none) x
theorem m96 (x : (a96).den) : (runFn Try.prog E0 G96 Try.f96 l96 a96 r96 x).sure = M96 x := by rw [q96]; unfold M96 Q96; simp only [sure_cond, Tree.sure, sure_cl, sure_onExit, sure_onRet, sure_onPanL, sure_onNext, sure_onBrk, sure_onRetO, sure_onPan, sure_onOk, sure_onGPan]
def p96 (x : (a96).den) : Bool := (M96 x).isSome
def v96 (x : (a96).den) : (r96).den := (M96 x).getD (r96).dflt
def k96 : Con := ⟨a96, r96, p96, v96⟩
theorem h96 : Holds Try.prog 96 k96 := holds_of_M' (E := E0) follows_ok g96 eqTy_sound keyTy_sound at96 bd96 (by kernel_rfl) m96 fun G' hlo hF hE => LsOK_kn (by rw [lo96]; exact .cons (loopV_ok hE hF hlo (LsOK_kn (by rw [lo96x0]; exact .nil)) (by kernel_rfl) (by kernel_rfl) sp96x0 (fun _ => rfl) (fun _ _ => rfl) (s96x0) big) (.nil))
/-- isobar/kite.truth$1 -/
noncomputable def c119 : Code := Try.f119.body.getD .skip
theorem at119 : Try.prog.funcs[119]? = some Try.f119 := by kernel_rfl
theorem bd119 : Try.f119.body = some c119 := by kernel_rfl
theorem cl119 : Callable Try.prog 119 := callable_of at119 (by kernel_rfl) (by kernel_rfl)
abbrev a119 : Ty := T7
abbrev r119 : Ty := T3
noncomputable def G119 : Ctx := Ctx.of [(73, .pure k73)]
theorem g119 : Sound Try.prog (G119) := sound_of (List.forall_mem_cons.2 ⟨⟨cl73, h73⟩, fun _ h => by cases h⟩)
theorem lo119 : loopsOf (c119) = [] := by kernel_rfl
noncomputable def l119 : List Loop := []
def Q119 {α : Type} (l : Option (r119).den → α) (an : α → α → α) (x : (a119).den) : α := cl (r73).dflt (M73 (x.1, (x.2.1, ()))) (fun u0 => l (some u0)) (l none)
theorem q119 (x : (a119).den) : runFn Try.prog E0 G119 Try.f119 l119 a119 r119 x = Q119 .leaf .any x := by kernel_rfl
def M119 (x : (a119).den) : Option (r119).den := Q119 (fun r => r) (fun _ _ => none) x
theorem m119 (x : (a119).den) : (runFn Try.prog E0 G119 Try.f119 l119 a119 r119 x).sure = M119 x := by rw [q119]; unfold M119 Q119; simp only [sure_cond, Tree.sure, sure_cl, sure_onExit, sure_onRet, sure_onPanL, sure_onNext, sure_onBrk, sure_onRetO, sure_onPan, sure_onOk, sure_onGPan]
def p119 (x : (a119).den) : Bool := (M119 x).isSome
def v119 (x : (a119).den) : (r119).den := (M119 x).getD (r119).dflt
def k119 : Con := ⟨a119, r119, p119, v119⟩
theorem h119 : Holds Try.prog 119 k119 := holds_of_M' (E := E0) follows_ok g119 eqTy_sound keyTy_sound at119 bd119 (by kernel_rfl) m119 fun G' hlo hF hE => LsOK_kn (by rw [lo119]; exact .nil)
/-- slices.EqualFunc[[]int,[]isobar/api.Span,int,isobar/api.Span] -/
noncomputable def c120 : Code := Try.f120.body.getD .skip
theorem at120 : Try.prog.funcs[120]? = some Try.f120 := by kernel_rfl
theorem bd120 : Try.f120.body = some c120 := by kernel_rfl
theorem cl120 : Callable Try.prog 120 := callable_of at120 (by kernel_rfl) (by kernel_rfl)
abbrev T64 : Ty := (.fn T7 T3)
abbrev T65 : Ty := (.cons T64 .nil)
abbrev T66 : Ty := (.cons (.sl T1) T65)
abbrev T67 : Ty := (.cons (.sl T0) T66)
abbrev a120 : Ty := T67
abbrev r120 : Ty := T3
noncomputable def G120 : Ctx := Ctx.of []
theorem g120 : Sound Try.prog (G120) := sound_of (fun _ h => by cases h)
noncomputable def b120x0 : Code := loopBody ((loopsOf (c120))[0]?)
theorem lo120x0 : loopsOf (b120x0) = [] := by kernel_rfl
abbrev cs120x0 : List Pat := [.slot 1 (.pc (.sl T1)), .slot 2 (.pc T64), .slot 15 (.pc (.sl T0)), .slot 16 (.pc tI)]
abbrev vs120x0 : List Pat := [.slot 17 (.pc tI)]
abbrev ps120x0 : List Pat := [.slot 1 (.pc (.sl T1)), .slot 2 (.pc T64), .slot 15 (.pc (.sl T0)), .slot 16 (.pc tI), .slot 17 (.pc tI)]
def j120x0 : (patsTy cs120x0).den → (patsTy vs120x0).den → (patsTy ps120x0).den := fun c v => (c.1, (c.2.1, (c.2.2.1, (c.2.2.2.1, v))))
def sp120x0 : (patsTy ps120x0).den → (patsTy cs120x0).den × (patsTy vs120x0).den := fun x => ((x.1, (x.2.1, (x.2.2.1, (x.2.2.2.1, ())))), x.2.2.2.2)
abbrev wy120x0 : Ways := ⟨[(0, [])], [.slot 6 (.pc .bool)], []⟩
abbrev wv120x0 : Ways := ⟨[(0, [])], [.slot 6 (.pc .bool)], []⟩
def je120x0 : (id : Nat) → (patsTy cs120x0).den → (patsTy (wayP wv120x0 id)).den → (patsTy (wayP wy120x0 id)).den := fun id => match id with | 0 => fun c y => y | id => fun _ _ => (patsTy (wayP wy120x0 id)).dflt
def jr120x0 : (patsTy cs120x0).den → (patsTy (wv120x0).ret).den → (patsTy (wy120x0).ret).den := fun c y => y
def jp120x0 : (patsTy cs120x0).den → (patsTy (wv120x0).pan).den → (patsTy (wy120x0).pan).den := fun c y => y
def Z120x0 {α : Type} (l : RQ vs120x0 wv120x0 → α) (an : α → α → α) (c : (patsTy cs120x0).den) (v : (patsTy vs120x0).den) : α := bif (decide (v.1 < c.2.2.2.1)) then bif (decide (((0 : Int) ≤ v.1) ∧ (v.1 < ((c.2.2.1.n : Nat) : Int)))) then bif (decide (((0 : Int) ≤ v.1) ∧ (v.1 < ((c.1.n : Nat) : Int)))) then bif (c.2.1 ((c.2.2.1.g (Int.toNat v.1)).1, ((c.1.g (Int.toNat v.1)), ()))).1 then bif (!(c.2.1 ((c.2.2.1.g (Int.toNat v.1)).1, ((c.1.g (Int.toNat v.1)), ()))).2.1) then l (.out (.ret (false, ()))) else l (.next ((W (v.1 + (1 : Int))), ())) else l .bad else l .bad else l .bad else l (.out (.exit 0 ()))
theorem z120x0 (c : (patsTy cs120x0).den) (v : (patsTy vs120x0).den) : roundQ Try.prog E0 G120 0 32 [] ps120x0 wy120x0 b120x0 [] (j120x0 c v) = Z120x0 (fun r => .leaf (r.lift j120x0 je120x0 jr120x0 jp120x0 c)) .any c v := by kernel_rfl
def S120x0 (c : (patsTy cs120x0).den) (v : (patsTy vs120x0).den) : RQ vs120x0 wv120x0 := Z120x0 (fun r => r) (fun _ _ => .bad) c v
theorem s120x0 (c : (patsTy cs120x0).den) (v : (patsTy vs120x0).den) : detQ (roundQ Try.prog E0 G120 0 32 [] ps120x0 wy120x0 b120x0 [] (j120x0 c v)) = (S120x0 c v).lift j120x0 je120x0 jr120x0 jp120x0 c := by rw [z120x0]; unfold S120x0 Z120x0; simp only [detQ_cond, lift_cond, lift_bad, detQ, detQ_cl, detQ_onExit, detQ_onRet, detQ_onPanL, detQ_onNext, detQ_onBrk, detQ_onRetO, detQ_onPan, detQ_onOk, detQ_onGPan, lift_cl, lift_onExit, lift_onRet, lift_onPanL, lift_onNext, lift_onBrk, lift_onRetO, lift_onPan, lift_onOk, lift_onGPan]
def L120x0 (c : (patsTy cs120x0).den) (v : (patsTy vs120x0).den) : LQ wv120x0 := iterQ (S120x0 c) big v
theorem lo120 : loopsOf (c120) = [.loop b120x0] := by kernel_rfl
noncomputable def l120 : List Loop := [.known (loopZ 0 [] ps120x0 fun x => spreadV wy120x0 je120x0 jr120x0 jp120x0 [] true (sp120x0 x).1 (L120x0 (sp120x0 x).1 (sp120x0 x).2) wy120x0.exits)]
def Q120 {α : Type} (l : Option (r120).den → α) (an : α → α → α) (x : (a120).den) : α := bif (!(decide (((x.1.n : Nat) : Int) = ((x.2.1.n : Nat) : Int)))) then l (some (false, ())) else onExit (L120x0 (x.2.1, (x.2.2.1, (x.1, (((x.1.n : Nat) : Int), ())))) ((0 : Int), ())) 0 (fun u0 => l (some (true, ()))) (onRet (L120x0 (x.2.1, (x.2.2.1, (x.1, (((x.1.n : Nat) : Int), ())))) ((0 : Int), ())) (fun u1 => l (some u1)) (l none))
theorem q120 (x : (a120).den) : runFn Try.prog E0 G120 Try.f120 l120 a120 r120 x = Q120 .leaf .any x := by kernel_rfl
def M120 (x : (a120).den) : Option (r120).den := Q120 (fun r => r) (fun _ _ => none) x
theorem m120 (x : (a120).den) : (runFn Try.prog E0 G120 Try.f120 l120 a120 r120 x).sure = M120 x := by rw [q120]; unfold M120 Q120; simp only [sure_cond, Tree.sure, sure_cl, sure_onExit, sure_onRet, sure_onPanL, sure_onNext, sure_onBrk, sure_onRetO, sure_onPan, sure_onOk, sure_onGPan]
def p120 (x : (a120).den) : Bool := (M120 x).isSome
def v120 (x : (a120).den) : (r120).den := (M120 x).getD (r120).dflt
def k120 : Con := ⟨a120, r120, p120, v120⟩
theorem h120 : Holds Try.prog 120 k120 := holds_of_M' (E := E0) follows_ok g120 eqTy_sound keyTy_sound at120 bd120 (by kernel_rfl) m120 fun G' hlo hF hE => LsOK_kn (by rw [lo120]; exact .cons (loopV_ok hE hF hlo (LsOK_kn (by rw [lo120x0]; exact .nil)) (by kernel_rfl) (by kernel_rfl) sp120x0 (fun _ => rfl) (fun _ _ => rfl) (s120x0) big) (.nil))
/-- isobar/kite.truth -/
noncomputable def c103 : Code := Try.f103.body.getD .skip
theorem at103 : Try.prog.funcs[103]? = some Try.f103 := by kernel_rfl
theorem bd103 : Try.f103.body = some c103 := by kernel_rfl
theorem cl103 : Callable Try.prog 103 := callable_of at103 (by kernel_rfl) (by kernel_rfl)
abbrev T68 : Ty := (.cons tI T52)
abbrev T69 : Ty := (.cons tI T68)
abbrev T70 : Ty := (.cons tI T69)
abbrev T71 : Ty := (.agg T70)
abbrev T72 : Ty := (.cons T71 .nil)
abbrev T73 : Ty := (.cons T42 T72)
abbrev T74 : Ty := (.cons T57 T3)
abbrev a103 : Ty := T73
abbrev r103 : Ty := T74
noncomputable def G103 : Ctx := Ctx.of [(73, .pure k73), (92, .pure k92), (94, .pure k94), (119, .pure k119), (120, .pure k120)]
theorem g103 : Sound Try.prog (G103) := sound_of (List.forall_mem_cons.2 ⟨⟨cl73, h73⟩, List.forall_mem_cons.2 ⟨⟨cl92, h92⟩, List.forall_mem_cons.2 ⟨⟨cl94, h94⟩, List.forall_mem_cons.2 ⟨⟨cl119, h119⟩, List.forall_mem_cons.2 ⟨⟨cl120, h120⟩, fun _ h => by cases h⟩⟩⟩⟩⟩)
theorem lo103 : loopsOf (c103) = [] := by kernel_rfl
noncomputable def l103 : List Loop := []
def Q103 {α : Type} (l : Option (r103).den → α) (an : α → α → α) (x : (a103).den) : α := cl (r92).dflt (M92 (x.1, ())) (fun u0 => bif (!u0.1) then l (some ((x.1.1, (x.1.2.1, (x.1.2.2.1, (x.1.2.2.2.1, (x.1.2.2.2.2.1, (x.1.2.2.2.2.2.1, (x.1.2.2.2.2.2.2.1, (x.1.2.2.2.2.2.2.2.1, (x.1.2.2.2.2.2.2.2.2.1, (x.1.2.2.2.2.2.2.2.2.2.1, (x.1.2.2.2.2.2.2.2.2.2.2.1, (x.1.2.2.2.2.2.2.2.2.2.2.2.1, (x.1.2.2.2.2.2.2.2.2.2.2.2.2.1, (x.2.1.1, (x.2.1.2.1, (x.2.1.2.2.1, ())))))))))))))))), (false, ()))) else cl (r73).dflt (M73 (x.2.1.1, ((x.1.2.1, (x.1.2.2.1, ())), ()))) (fun u1 => bif (!u1.1) then l (some ((x.1.1, (x.1.2.1, (x.1.2.2.1, (x.1.2.2.2.1, (x.1.2.2.2.2.1, (x.1.2.2.2.2.2.1, (x.1.2.2.2.2.2.2.1, (x.1.2.2.2.2.2.2.2.1, (x.1.2.2.2.2.2.2.2.2.1, (x.1.2.2.2.2.2.2.2.2.2.1, (x.1.2.2.2.2.2.2.2.2.2.2.1, (x.1.2.2.2.2.2.2.2.2.2.2.2.1, (x.1.2.2.2.2.2.2.2.2.2.2.2.2.1, (x.2.1.1, (x.2.1.2.1, (x.2.1.2.2.1, ())))))))))))))))), (false, ()))) else cl (r73).dflt (M73 (x.2.1.2.1, ((x.1.2.2.2.1, (x.1.2.2.2.2.1, ())), ()))) (fun u2 => bif (!u2.1) then l (some ((x.1.1, (x.1.2.1, (x.1.2.2.1, (x.1.2.2.2.1, (x.1.2.2.2.2.1, (x.1.2.2.2.2.2.1, (x.1.2.2.2.2.2.2.1, (x.1.2.2.2.2.2.2.2.1, (x.1.2.2.2.2.2.2.2.2.1, (x.1.2.2.2.2.2.2.2.2.2.1, (x.1.2.2.2.2.2.2.2.2.2.2.1, (x.1.2.2.2.2.2.2.2.2.2.2.2.1, (x.1.2.2.2.2.2.2.2.2.2.2.2.2.1, (x.2.1.1, (x.2.1.2.1, (x.2.1.2.2.1, ())))))))))))))))), (false, ()))) else cl (r73).dflt (M73 (x.2.1.2.2.1, ((x.1.2.2.2.2.2.1, (x.1.2.2.2.2.2.2.1, ())), ()))) (fun u3 => bif (!u3.1) then l (some ((x.1.1, (x.1.2.1, (x.1.2.2.1, (x.1.2.2.2.1, (x.1.2.2.2.2.1, (x.1.2.2.2.2.2.1, (x.1.2.2.2.2.2.2.1, (x.1.2.2.2.2.2.2.2.1, (x.1.2.2.2.2.2.2.2.2.1, (x.1.2.2.2.2.2.2.2.2.2.1, (x.1.2.2.2.2.2.2.2.2.2.2.1, (x.1.2.2.2.2.2.2.2.2.2.2.2.1, (x.1.2.2.2.2.2.2.2.2.2.2.2.2.1, (x.2.1.1, (x.2.1.2.1, (x.2.1.2.2.1, ())))))))))))))))), (false, ()))) else cl (r94).dflt (M94 ((x.1.1, (x.1.2.1, (x.1.2.2.1, (x.1.2.2.2.1, (x.1.2.2.2.2.1, (x.1.2.2.2.2.2.1, (x.1.2.2.2.2.2.2.1, (x.1.2.2.2.2.2.2.2.1, (x.1.2.2.2.2.2.2.2.2.1, (x.1.2.2.2.2.2.2.2.2.2.1, (x.1.2.2.2.2.2.2.2.2.2.2.1, (x.1.2.2.2.2.2.2.2.2.2.2.2.1, (x.1.2.2.2.2.2.2.2.2.2.2.2.2.1, (x.2.1.1, (x.2.1.2.1, (x.2.1.2.2.1, ())))))))))))))))), ((0 : Int), ()))) (fun u4 => cl (r120).dflt (M120 (x.2.1.2.2.2.1, (u4.1, ((fun y1 => ((p119 y1), (v119 y1))), ())))) (fun u5 => bif u5.1 then cl (r94).dflt (M94 ((x.1.1, (x.1.2.1, (x.1.2.2.1, (x.1.2.2.2.1, (x.1.2.2.2.2.1, (x.1.2.2.2.2.2.1, (x.1.2.2.2.2.2.2.1, (x.1.2.2.2.2.2.2.2.1, (x.1.2.2.2.2.2.2.2.2.1, (x.1.2.2.2.2.2.2.2.2.2.1, (x.1.2.2.2.2.2.2.2.2.2.2.1, (x.1.2.2.2.2.2.2.2.2.2.2.2.1, (x.1.2.2.2.2.2.2.2.2.2.2.2.2.1, (x.2.1.1, (x.2.1.2.1, (x.2.1.2.2.1, ())))))))))))))))), ((1 : Int), ()))) (fun u6 => cl (r120).dflt (M120 (x.2.1.2.2.2.2.1, (u6.1, ((fun y1 => ((p119 y1), (v119 y1))), ())))) (fun u7 => l (some ((x.1.1, (x.1.2.1, (x.1.2.2.1, (x.1.2.2.2.1, (x.1.2.2.2.2.1, (x.1.2.2.2.2.2.1, (x.1.2.2.2.2.2.2.1, (x.1.2.2.2.2.2.2.2.1, (x.1.2.2.2.2.2.2.2.2.1, (x.1.2.2.2.2.2.2.2.2.2.1, (x.1.2.2.2.2.2.2.2.2.2.2.1, (x.1.2.2.2.2.2.2.2.2.2.2.2.1, (x.1.2.2.2.2.2.2.2.2.2.2.2.2.1, (x.2.1.1, (x.2.1.2.1, (x.2.1.2.2.1, ())))))))))))))))), u7))) (l none)) (l none) else l (some ((x.1.1, (x.1.2.1, (x.1.2.2.1, (x.1.2.2.2.1, (x.1.2.2.2.2.1, (x.1.2.2.2.2.2.1, (x.1.2.2.2.2.2.2.1, (x.1.2.2.2.2.2.2.2.1, (x.1.2.2.2.2.2.2.2.2.1, (x.1.2.2.2.2.2.2.2.2.2.1, (x.1.2.2.2.2.2.2.2.2.2.2.1, (x.1.2.2.2.2.2.2.2.2.2.2.2.1, (x.1.2.2.2.2.2.2.2.2.2.2.2.2.1, (x.2.1.1, (x.2.1.2.1, (x.2.1.2.2.1, ())))))))))))))))), (false, ())))) (l none)) (l none)) (l none)) (l none)) (l none)) (l none)
theorem q103 (x : (a103).den) : runFn Try.prog E0 G103 Try.f103 l103 a103 r103 x = Q103 .leaf .any x := by kernel_rfl
def M103 (x : (a103).den) : Option (r103).den := Q103 (fun r => r) (fun _ _ => none) x
theorem m103 (x : (a103).den) : (runFn Try.prog E0 G103 Try.f103 l103 a103 r103 x).sure = M103 x := by rw [q103]; unfold M103 Q103; simp only [sure_cond, Tree.sure, sure_cl, sure_onExit, sure_onRet, sure_onPanL, sure_onNext, sure_onBrk, sure_onRetO, sure_onPan, sure_onOk, sure_onGPan]
def p103 (x : (a103).den) : Bool := (M103 x).isSome
def v103 (x : (a103).den) : (r103).den := (M103 x).getD (r103).dflt
def k103 : Con := ⟨a103, r103, p103, v103⟩
theorem h103 : Holds Try.prog 103 k103 := holds_of_M' (E := E0) follows_ok g103 eqTy_sound keyTy_sound at103 bd103 (by kernel_rfl) m103 fun G' hlo hF hE => LsOK_kn (by rw [lo103]; exact .nil)
/-- isobar/kite.Play -/
noncomputable def c58 : Code := Try.f58.body.getD .skip
theorem at58 : Try.prog.funcs[58]? = some Try.f58 := by kernel_rfl
theorem bd58 : Try.f58.body = some c58 := by kernel_rfl
theorem cl58 : Callable Try.prog 58 := callable_of at58 (by kernel_rfl) (by kernel_rfl)
abbrev a58 : Ty := T73
abbrev r58 : Ty := T8
noncomputable def G58 : Ctx := Ctx.of [(95, .pure k95), (96, .pure k96), (103, .pure k103)]
theorem g58 : Sound Try.prog (G58) := sound_of (List.forall_mem_cons.2 ⟨⟨cl95, h95⟩, List.forall_mem_cons.2 ⟨⟨cl96, h96⟩, List.forall_mem_cons.2 ⟨⟨cl103, h103⟩, fun _ h => by cases h⟩⟩⟩)
theorem lo58 : loopsOf (c58) = [] := by kernel_rfl
noncomputable def l58 : List Loop := []
def Q58 {α : Type} (l : Option (r58).den → α) (an : α → α → α) (x : (a58).den) : α := cl (r103).dflt (M103 (x.1, (x.2.1, ()))) (fun u0 => bif (!u0.2.1) then l (some ((0 : Int), ((0 : Int), ((0 : Int), ((2 : Int), ()))))) else cl (r95).dflt (M95 (u0.1, (x.2.1.2.2.2.1, ()))) (fun u1 => cl (r95).dflt (M95 (u0.1, x.2.1.2.2.2.2)) (fun u2 => cl (r96).dflt (M96 (u0.1, ())) (fun u3 => l (some (u1.1, (u2.1, (u3.1, ((0 : Int), ())))))) (l none)) (l none)) (l none)) (l none)
theorem q58 (x : (a58).den) : runFn Try.prog E0 G58 Try.f58 l58 a58 r58 x = Q58 .leaf .any x := by kernel_rfl
def M58 (x : (a58).den) : Option (r58).den := Q58 (fun r => r) (fun _ _ => none) x
theorem m58 (x : (a58).den) : (runFn Try.prog E0 G58 Try.f58 l58 a58 r58 x).sure = M58 x := by rw [q58]; unfold M58 Q58; simp only [sure_cond, Tree.sure, sure_cl, sure_onExit, sure_onRet, sure_onPanL, sure_onNext, sure_onBrk, sure_onRetO, sure_onPan, sure_onOk, sure_onGPan]
def p58 (x : (a58).den) : Bool := (M58 x).isSome
def v58 (x : (a58).den) : (r58).den := (M58 x).getD (r58).dflt
def k58 : Con := ⟨a58, r58, p58, v58⟩
theorem h58 : Holds Try.prog 58 k58 := holds_of_M' (E := E0) follows_ok g58 eqTy_sound keyTy_sound at58 bd58 (by kernel_rfl) m58 fun G' hlo hF hE => LsOK_kn (by rw [lo58]; exact .nil)
abbrev T75 : Ty := (.cons .bool T0)
/-- isobar/kite.least -/
noncomputable def c97 : Code := Try.f97.body.getD .skip
theorem at97 : Try.prog.funcs[97]? = some Try.f97 := by kernel_rfl
theorem bd97 : Try.f97.body = some c97 := by kernel_rfl
theorem cl97 : Callable Try.prog 97 := callable_of at97 (by kernel_rfl) (by kernel_rfl)
abbrev a97 : Ty := T44
abbrev r97 : Ty := T0
noncomputable def G97 : Ctx := Ctx.of []
theorem g97 : Sound Try.prog (G97) := sound_of (fun _ h => by cases h)
noncomputable def b97x0 : Code := loopBody ((loopsOf (c97))[0]?)
theorem lo97x0 : loopsOf (b97x0) = [] := by kernel_rfl
abbrev cs97x0 : List Pat := [.slot 9 (.pc (.sl T0)), .slot 10 (.pc tI)]
abbrev vs97x0 : List Pat := [.slot 3 (.pc tI), .slot 11 (.pc tI)]
abbrev ps97x0 : List Pat := [.slot 9 (.pc (.sl T0)), .slot 10 (.pc tI), .slot 3 (.pc tI), .slot 11 (.pc tI)]
def j97x0 : (patsTy cs97x0).den → (patsTy vs97x0).den → (patsTy ps97x0).den := fun c v => (c.1, (c.2.1, v))
def sp97x0 : (patsTy ps97x0).den → (patsTy cs97x0).den × (patsTy vs97x0).den := fun x => ((x.1, (x.2.1, ())), x.2.2)
abbrev wy97x0 : Ways := ⟨[(0, [.slot 3 (.pc tI)])], [], []⟩
abbrev wv97x0 : Ways := ⟨[(0, [.slot 3 (.pc tI)])], [], []⟩
def je97x0 : (id : Nat) → (patsTy cs97x0).den → (patsTy (wayP wv97x0 id)).den → (patsTy (wayP wy97x0 id)).den := fun id => match id with | 0 => fun c y => y | id => fun _ _ => (patsTy (wayP wy97x0 id)).dflt
def jr97x0 : (patsTy cs97x0).den → (patsTy (wv97x0).ret).den → (patsTy (wy97x0).ret).den := fun c y => y
def jp97x0 : (patsTy cs97x0).den → (patsTy (wv97x0).pan).den → (patsTy (wy97x0).pan).den := fun c y => y
def Z97x0 {α : Type} (l : RQ vs97x0 wv97x0 → α) (an : α → α → α) (c : (patsTy cs97x0).den) (v : (patsTy vs97x0).den) : α := bif (decide (v.2.1 < c.2.1)) then bif (decide (((0 : Int) ≤ v.2.1) ∧ (v.2.1 < ((c.1.n : Nat) : Int)))) then l (.next ((mn v.1 (c.1.g (Int.toNat v.2.1)).1), ((W (v.2.1 + (1 : Int))), ()))) else l .bad else l (.out (.exit 0 (v.1, ())))
theorem z97x0 (c : (patsTy cs97x0).den) (v : (patsTy vs97x0).den) : roundQ Try.prog E0 G97 0 20 [] ps97x0 wy97x0 b97x0 [] (j97x0 c v) = Z97x0 (fun r => .leaf (r.lift j97x0 je97x0 jr97x0 jp97x0 c)) .any c v := by kernel_rfl
def S97x0 (c : (patsTy cs97x0).den) (v : (patsTy vs97x0).den) : RQ vs97x0 wv97x0 := Z97x0 (fun r => r) (fun _ _ => .bad) c v
theorem s97x0 (c : (patsTy cs97x0).den) (v : (patsTy vs97x0).den) : detQ (roundQ Try.prog E0 G97 0 20 [] ps97x0 wy97x0 b97x0 [] (j97x0 c v)) = (S97x0 c v).lift j97x0 je97x0 jr97x0 jp97x0 c := by rw [z97x0]; unfold S97x0 Z97x0; simp only [detQ_cond, lift_cond, lift_bad, detQ, detQ_cl, detQ_onExit, detQ_onRet, detQ_onPanL, detQ_onNext, detQ_onBrk, detQ_onRetO, detQ_onPan, detQ_onOk, detQ_onGPan, lift_cl, lift_onExit, lift_onRet, lift_onPanL, lift_onNext, lift_onBrk, lift_onRetO, lift_onPan, lift_onOk, lift_onGPan]
def L97x0 (c : (patsTy cs97x0).den) (v : (patsTy vs97x0).den) : LQ wv97x0 := iterQ (S97x0 c) big v
theorem lo97 : loopsOf (c97) = [.loop b97x0] := by kernel_rfl
noncomputable def l97 : List Loop := [.known (loopZ 0 [] ps97x0 fun x => spreadV wy97x0 je97x0 jr97x0 jp97x0 [] false (sp97x0 x).1 (L97x0 (sp97x0 x).1 (sp97x0 x).2) wy97x0.exits)]
def Q97 {α : Type} (l : Option (r97).den → α) (an : α → α → α) (x : (a97).den) : α := bif (decide (((0 : Int) ≤ (0 : Int)) ∧ ((0 : Int) < ((x.1.n : Nat) : Int)))) then onExit (L97x0 (x.1, (((x.1.n : Nat) : Int), ())) ((x.1.g 0).1, ((0 : Int), ()))) 0 (fun u0 => l (some u0)) (l none) else l none
theorem q97 (x : (a97).den) : runFn Try.prog E0 G97 Try.f97 l97 a97 r97 x = Q97 .leaf .any x := by kernel_rfl
def M97 (x : (a97).den) : Option (r97).den := Q97 (fun r => r) (fun _ _ => none) x
theorem m97 (x : (a97).den) : (runFn Try.prog E0 G97 Try.f97 l97 a97 r97 x).sure = M97 x := by rw [q97]; unfold M97 Q97; simp only [sure_cond, Tree.sure, sure_cl, sure_onExit, sure_onRet, sure_onPanL, sure_onNext, sure_onBrk, sure_onRetO, sure_onPan, sure_onOk, sure_onGPan]
def p97 (x : (a97).den) : Bool := (M97 x).isSome
def v97 (x : (a97).den) : (r97).den := (M97 x).getD (r97).dflt
def k97 : Con := ⟨a97, r97, p97, v97⟩
theorem h97 : Holds Try.prog 97 k97 := holds_of_M' (E := E0) follows_ok g97 eqTy_sound keyTy_sound at97 bd97 (by kernel_rfl) m97 fun G' hlo hF hE => LsOK_kn (by rw [lo97]; exact .cons (loopV_ok hE hF hlo (LsOK_kn (by rw [lo97x0]; exact .nil)) (by kernel_rfl) (by kernel_rfl) sp97x0 (fun _ => rfl) (fun _ _ => rfl) (s97x0) big) (.nil))
/-- isobar/kite.greatest -/
noncomputable def c98 : Code := Try.f98.body.getD .skip
theorem at98 : Try.prog.funcs[98]? = some Try.f98 := by kernel_rfl
theorem bd98 : Try.f98.body = some c98 := by kernel_rfl
theorem cl98 : Callable Try.prog 98 := callable_of at98 (by kernel_rfl) (by kernel_rfl)
abbrev a98 : Ty := T44
abbrev r98 : Ty := T0
noncomputable def G98 : Ctx := Ctx.of []
theorem g98 : Sound Try.prog (G98) := sound_of (fun _ h => by cases h)
noncomputable def b98x0 : Code := loopBody ((loopsOf (c98))[0]?)
theorem lo98x0 : loopsOf (b98x0) = [] := by kernel_rfl
abbrev cs98x0 : List Pat := [.slot 9 (.pc (.sl T0)), .slot 10 (.pc tI)]
abbrev vs98x0 : List Pat := [.slot 3 (.pc tI), .slot 11 (.pc tI)]
abbrev ps98x0 : List Pat := [.slot 9 (.pc (.sl T0)), .slot 10 (.pc tI), .slot 3 (.pc tI), .slot 11 (.pc tI)]
def j98x0 : (patsTy cs98x0).den → (patsTy vs98x0).den → (patsTy ps98x0).den := fun c v => (c.1, (c.2.1, v))
def sp98x0 : (patsTy ps98x0).den → (patsTy cs98x0).den × (patsTy vs98x0).den := fun x => ((x.1, (x.2.1, ())), x.2.2)
abbrev wy98x0 : Ways := ⟨[(0, [.slot 3 (.pc tI)])], [], []⟩
abbrev wv98x0 : Ways := ⟨[(0, [.slot 3 (.pc tI)])], [], []⟩
def je98x0 : (id : Nat) → (patsTy cs98x0).den → (patsTy (wayP wv98x0 id)).den → (patsTy (wayP wy98x0 id)).den := fun id => match id with | 0 => fun c y => y | id => fun _ _ => (patsTy (wayP wy98x0 id)).dflt
def jr98x0 : (patsTy cs98x0).den → (patsTy (wv98x0).ret).den → (patsTy (wy98x0).ret).den := fun c y => y
def jp98x0 : (patsTy cs98x0).den → (patsTy (wv98x0).pan).den → (patsTy (wy98x0).pan).den := fun c y => y
def Z98x0 {α : Type} (l : RQ vs98x0 wv98x0 → α) (an : α → α → α) (c : (patsTy cs98x0).den) (v : (patsTy vs98x0).den) : α := bif (decide (v.2.1 < c.2.1)) then bif (decide (((0 : Int) ≤ v.2.1) ∧ (v.2.1 < ((c.1.n : Nat) : Int)))) then l (.next ((mx v.1 (c.1.g (Int.toNat v.2.1)).1), ((W (v.2.1 + (1 : Int))), ()))) else l .bad else l (.out (.exit 0 (v.1, ())))
theorem z98x0 (c : (patsTy cs98x0).den) (v : (patsTy vs98x0).den) : roundQ Try.prog E0 G98 0 20 [] ps98x0 wy98x0 b98x0 [] (j98x0 c v) = Z98x0 (fun r => .leaf (r.lift j98x0 je98x0 jr98x0 jp98x0 c)) .any c v := by kernel_rfl
def S98x0 (c : (patsTy cs98x0).den) (v : (patsTy vs98x0).den) : RQ vs98x0 wv98x0 := Z98x0 (fun r => r) (fun _ _ => .bad) c v
theorem s98x0 (c : (patsTy cs98x0).den) (v : (patsTy vs98x0).den) : detQ (roundQ Try.prog E0 G98 0 20 [] ps98x0 wy98x0 b98x0 [] (j98x0 c v)) = (S98x0 c v).lift j98x0 je98x0 jr98x0 jp98x0 c := by rw [z98x0]; unfold S98x0 Z98x0; simp only [detQ_cond, lift_cond, lift_bad, detQ, detQ_cl, detQ_onExit, detQ_onRet, detQ_onPanL, detQ_onNext, detQ_onBrk, detQ_onRetO, detQ_onPan, detQ_onOk, detQ_onGPan, lift_cl, lift_onExit, lift_onRet, lift_onPanL, lift_onNext, lift_onBrk, lift_onRetO, lift_onPan, lift_onOk, lift_onGPan]
def L98x0 (c : (patsTy cs98x0).den) (v : (patsTy vs98x0).den) : LQ wv98x0 := iterQ (S98x0 c) big v
theorem lo98 : loopsOf (c98) = [.loop b98x0] := by kernel_rfl
noncomputable def l98 : List Loop := [.known (loopZ 0 [] ps98x0 fun x => spreadV wy98x0 je98x0 jr98x0 jp98x0 [] false (sp98x0 x).1 (L98x0 (sp98x0 x).1 (sp98x0 x).2) wy98x0.exits)]
def Q98 {α : Type} (l : Option (r98).den → α) (an : α → α → α) (x : (a98).den) : α := bif (decide (((0 : Int) ≤ (0 : Int)) ∧ ((0 : Int) < ((x.1.n : Nat) : Int)))) then onExit (L98x0 (x.1, (((x.1.n : Nat) : Int), ())) ((x.1.g 0).1, ((0 : Int), ()))) 0 (fun u0 => l (some u0)) (l none) else l none
theorem q98 (x : (a98).den) : runFn Try.prog E0 G98 Try.f98 l98 a98 r98 x = Q98 .leaf .any x := by kernel_rfl
def M98 (x : (a98).den) : Option (r98).den := Q98 (fun r => r) (fun _ _ => none) x
theorem m98 (x : (a98).den) : (runFn Try.prog E0 G98 Try.f98 l98 a98 r98 x).sure = M98 x := by rw [q98]; unfold M98 Q98; simp only [sure_cond, Tree.sure, sure_cl, sure_onExit, sure_onRet, sure_onPanL, sure_onNext, sure_onBrk, sure_onRetO, sure_onPan, sure_onOk, sure_onGPan]
def p98 (x : (a98).den) : Bool := (M98 x).isSome
def v98 (x : (a98).den) : (r98).den := (M98 x).getD (r98).dflt
def k98 : Con := ⟨a98, r98, p98, v98⟩
theorem h98 : Holds Try.prog 98 k98 := holds_of_M' (E := E0) follows_ok g98 eqTy_sound keyTy_sound at98 bd98 (by kernel_rfl) m98 fun G' hlo hF hE => LsOK_kn (by rw [lo98]; exact .cons (loopV_ok hE hF hlo (LsOK_kn (by rw [lo98x0]; exact .nil)) (by kernel_rfl) (by kernel_rfl) sp98x0 (fun _ => rfl) (fun _ _ => rfl) (s98x0) big) (.nil))
/-- (isobar/kite.flight).found -/
noncomputable def c123 : Code := Try.f123.body.getD .skip
theorem at123 : Try.prog.funcs[123]? = some Try.f123 := by kernel_rfl
theorem bd123 : Try.f123.body = some c123 := by kernel_rfl
theorem cl123 : Callable Try.prog 123 := callable_of at123 (by kernel_rfl) (by kernel_rfl)
abbrev a123 : Ty := T61
abbrev r123 : Ty := T6
noncomputable def G123 : Ctx := Ctx.of []
theorem g123 : Sound Try.prog (G123) := sound_of (fun _ h => by cases h)
theorem lo123 : loopsOf (c123) = [] := by kernel_rfl
noncomputable def l123 : List Loop := []
def Q123 {α : Type} (l : Option (r123).den → α) (an : α → α → α) (x : (a123).den) : α := bif (decide ((x.2.1 < (2 : Int)) ∧ ((0 : Int) ≤ x.2.1))) then bif (decide ((((Int.toNat x.2.1) * 2) + 2) ≤ 4)) then l (some (((List.getD [x.1.2.2.2.2.2.2.2.1, x.1.2.2.2.2.2.2.2.2.1, x.1.2.2.2.2.2.2.2.2.2.1, x.1.2.2.2.2.2.2.2.2.2.2.1] ((Int.toNat x.2.1) * 2) x.1.2.2.2.2.2.2.2.1), ((List.getD [x.1.2.2.2.2.2.2.2.2.1, x.1.2.2.2.2.2.2.2.2.2.1, x.1.2.2.2.2.2.2.2.2.2.2.1] ((Int.toNat x.2.1) * 2) x.1.2.2.2.2.2.2.2.1), ())), ())) else l none else l none
theorem q123 (x : (a123).den) : runFn Try.prog E0 G123 Try.f123 l123 a123 r123 x = Q123 .leaf .any x := by kernel_rfl
def M123 (x : (a123).den) : Option (r123).den := Q123 (fun r => r) (fun _ _ => none) x
theorem m123 (x : (a123).den) : (runFn Try.prog E0 G123 Try.f123 l123 a123 r123 x).sure = M123 x := by rw [q123]; unfold M123 Q123; simp only [sure_cond, Tree.sure, sure_cl, sure_onExit, sure_onRet, sure_onPanL, sure_onNext, sure_onBrk, sure_onRetO, sure_onPan, sure_onOk, sure_onGPan]
def p123 (x : (a123).den) : Bool := (M123 x).isSome
def v123 (x : (a123).den) : (r123).den := (M123 x).getD (r123).dflt
def k123 : Con := ⟨a123, r123, p123, v123⟩
theorem h123 : Holds Try.prog 123 k123 := holds_of_M' (E := E0) follows_ok g123 eqTy_sound keyTy_sound at123 bd123 (by kernel_rfl) m123 fun G' hlo hF hE => LsOK_kn (by rw [lo123]; exact .nil)
/-- isobar/kite.Land -/
noncomputable def c48 : Code := Try.f48.body.getD .skip
theorem at48 : Try.prog.funcs[48]? = some Try.f48 := by kernel_rfl
theorem bd48 : Try.f48.body = some c48 := by kernel_rfl
theorem cl48 : Callable Try.prog 48 := callable_of at48 (by kernel_rfl) (by kernel_rfl)
abbrev T76 : Ty := (.cons T11 T0)
abbrev a48 : Ty := T43
abbrev r48 : Ty := T76
noncomputable def G48 : Ctx := Ctx.of [(92, .pure k92), (93, .pure k93), (94, .pure k94), (95, .pure k95), (96, .pure k96), (97, .pure k97), (98, .pure k98)]
theorem g48 : Sound Try.prog (G48) := sound_of (List.forall_mem_cons.2 ⟨⟨cl92, h92⟩, List.forall_mem_cons.2 ⟨⟨cl93, h93⟩, List.forall_mem_cons.2 ⟨⟨cl94, h94⟩, List.forall_mem_cons.2 ⟨⟨cl95, h95⟩, List.forall_mem_cons.2 ⟨⟨cl96, h96⟩, List.forall_mem_cons.2 ⟨⟨cl97, h97⟩, List.forall_mem_cons.2 ⟨⟨cl98, h98⟩, fun _ h => by cases h⟩⟩⟩⟩⟩⟩⟩)
noncomputable def b48x0 : Code := rangeBody ((loopsOf (c48))[0]?)
noncomputable def as48x0 : Code := rangeAs ((loopsOf (c48))[0]?)
abbrev mp48x0 : List Pat := [.slot 2 (.ptr 2), .slot 4 (.ptr 226), .slot 5 (.ptr 227), .box 2 [.pc tI, .pc tI, .pc tI, .pc tI, .pc tI, .pc tI], .box 226 [.own 1227000 3 T0, .own 1227001 3 T0, .own 1227002 3 T0], .box 227 [.own 1228000 3 T0, .own 1228001 3 T0, .own 1228002 3 T0]]
noncomputable def b48x0x0 : Code := loopBody ((loopsOf (b48x0))[0]?)
noncomputable def b48x0x0x0 : Code := loopBody ((loopsOf (b48x0x0))[0]?)
theorem lo48x0x0x0 : loopsOf (b48x0x0x0) = [] := by kernel_rfl
abbrev cs48x0x0x0 : List Pat := [.slot 2 (.ptr 2), .slot 4 (.ptr 226), .slot 5 (.ptr 227), .slot 6 (.ptr 1228009), .slot 8 (.pc tI), .agg 27 T1, .slot 28 (.pc tI), .slot 33 (.pc (.sl T1)), .slot 34 (.pc tI), .box 2 [.pc tI, .pc tI, .pc tI, .pc tI, .pc tI, .pc tI], .box 226 [.own 1227000 3 T0, .own 1227001 3 T0, .own 1227002 3 T0], .box 227 [.own 1228000 3 T0, .own 1228001 3 T0, .own 1228002 3 T0], .box 1228009 [.pc (.sl T9), .pc tI, .pc tI, .pc tI, .pc tI, .pc tI, .pc tI, .pc tI, .pc tI, .pc tI, .pc tI, .pc tI, .pc tI, .pc tI, .pc tI, .pc tI]]
abbrev vs48x0x0x0 : List Pat := [.slot 9 (.own 1000009 3 T0), .slot 10 (.own 1000010 3 T0), .slot 35 (.pc tI)]
abbrev ps48x0x0x0 : List Pat := [.slot 2 (.ptr 2), .slot 4 (.ptr 226), .slot 5 (.ptr 227), .slot 6 (.ptr 1228009), .slot 8 (.pc tI), .agg 27 T1, .slot 28 (.pc tI), .slot 33 (.pc (.sl T1)), .slot 34 (.pc tI), .box 2 [.pc tI, .pc tI, .pc tI, .pc tI, .pc tI, .pc tI], .box 226 [.own 1227000 3 T0, .own 1227001 3 T0, .own 1227002 3 T0], .box 227 [.own 1228000 3 T0, .own 1228001 3 T0, .own 1228002 3 T0], .box 1228009 [.pc (.sl T9), .pc tI, .pc tI, .pc tI, .pc tI, .pc tI, .pc tI, .pc tI, .pc tI, .pc tI, .pc tI, .pc tI, .pc tI, .pc tI, .pc tI, .pc tI], .slot 9 (.own 1000009 3 T0), .slot 10 (.own 1000010 3 T0), .slot 35 (.pc tI)]
def j48x0x0x0 : (patsTy cs48x0x0x0).den → (patsTy vs48x0x0x0).den → (patsTy ps48x0x0x0).den := fun c v => (c.1, (c.2.1, (c.2.2.1, (c.2.2.2.1, (c.2.2.2.2.1, (c.2.2.2.2.2.1, (c.2.2.2.2.2.2.1, (c.2.2.2.2.2.2.2.1, (c.2.2.2.2.2.2.2.2.1, (c.2.2.2.2.2.2.2.2.2.1, (c.2.2.2.2.2.2.2.2.2.2.1, (c.2.2.2.2.2.2.2.2.2.2.2.1, (c.2.2.2.2.2.2.2.2.2.2.2.2.1, v)))))))))))))
def sp48x0x0x0 : (patsTy ps48x0x0x0).den → (patsTy cs48x0x0x0).den × (patsTy vs48x0x0x0).den := fun x => ((x.1, (x.2.1, (x.2.2.1, (x.2.2.2.1, (x.2.2.2.2.1, (x.2.2.2.2.2.1, (x.2.2.2.2.2.2.1, (x.2.2.2.2.2.2.2.1, (x.2.2.2.2.2.2.2.2.1, (x.2.2.2.2.2.2.2.2.2.1, (x.2.2.2.2.2.2.2.2.2.2.1, (x.2.2.2.2.2.2.2.2.2.2.2.1, (x.2.2.2.2.2.2.2.2.2.2.2.2.1, ()))))))))))))), x.2.2.2.2.2.2.2.2.2.2.2.2.2)
abbrev wy48x0x0x0 : Ways := ⟨[(4, [.slot 2 (.ptr 2), .slot 4 (.ptr 226), .slot 5 (.ptr 227), .slot 6 (.ptr 1228009), .slot 8 (.pc tI), .agg 27 T1, .slot 28 (.pc tI), .box 2 [.pc tI, .pc tI, .pc tI, .pc tI, .pc tI, .pc tI], .box 226 [.own 1227000 3 T0, .own 1227001 3 T0, .own 1227002 3 T0], .box 227 [.own 1228000 3 T0, .own 1228001 3 T0, .own 1228002 3 T0], .box 1228009 [.pc (.sl T9), .pc tI, .pc tI, .pc tI, .pc tI, .pc tI, .pc tI, .pc tI, .pc tI, .pc tI, .pc tI, .pc tI, .pc tI, .pc tI, .pc tI, .pc tI], .slot 9 (.pc (.sl T0)), .slot 10 (.pc (.sl T0))])], [], []⟩
abbrev wv48x0x0x0 : Ways := ⟨[(4, [.slot 9 (.pc (.sl T0)), .slot 10 (.pc (.sl T0))])], [], []⟩
def je48x0x0x0 : (id : Nat) → (patsTy cs48x0x0x0).den → (patsTy (wayP wv48x0x0x0 id)).den → (patsTy (wayP wy48x0x0x0 id)).den := fun id => match id with | 4 => fun c y => (c.1, (c.2.1, (c.2.2.1, (c.2.2.2.1, (c.2.2.2.2.1, (c.2.2.2.2.2.1, (c.2.2.2.2.2.2.1, (c.2.2.2.2.2.2.2.2.2.1, (c.2.2.2.2.2.2.2.2.2.2.1, (c.2.2.2.2.2.2.2.2.2.2.2.1, (c.2.2.2.2.2.2.2.2.2.2.2.2.1, y))))))))))) | id => fun _ _ => (patsTy (wayP wy48x0x0x0 id)).dflt
def jr48x0x0x0 : (patsTy cs48x0x0x0).den → (patsTy (wv48x0x0x0).ret).den → (patsTy (wy48x0x0x0).ret).den := fun c y => y
def jp48x0x0x0 : (patsTy cs48x0x0x0).den → (patsTy (wv48x0x0x0).pan).den → (patsTy (wy48x0x0x0).pan).den := fun c y => y
def Z48x0x0x0 {α : Type} (l : RQ vs48x0x0x0 wv48x0x0x0 → α) (an : α → α → α) (c : (patsTy cs48x0x0x0).den) (v : (patsTy vs48x0x0x0).den) : α := bif (decide (v.2.2.1 < c.2.2.2.2.2.2.2.2.1)) then bif (decide (((0 : Int) ≤ v.2.2.1) ∧ (v.2.2.1 < ((c.2.2.2.2.2.2.2.1.n : Nat) : Int)))) then bif (decide (((v.1.n + 1) * 8) ≤ 140737488355328)) then bif (decide (((v.2.1.n + 1) * 8) ≤ 140737488355328)) then l (.next ((catSl v.1 (⟨1, fun i => List.getD [((c.2.2.2.2.2.2.2.1.g (Int.toNat v.2.2.1)).1, ())] i ((c.2.2.2.2.2.2.2.1.g (Int.toNat v.2.2.1)).1, ())⟩ : Sl (Ty.den T0))), ((catSl v.2.1 (⟨1, fun i => List.getD [(c.2.2.2.2.2.2.2.1.g (Int.toNat v.2.2.1)).2] i (c.2.2.2.2.2.2.2.1.g (Int.toNat v.2.2.1)).2⟩ : Sl (Ty.den T0))), ((W (v.2.2.1 + (1 : Int))), ())))) else l .bad else l .bad else l .bad else l (.out (.exit 4 (v.1, (v.2.1, ()))))
theorem z48x0x0x0 (c : (patsTy cs48x0x0x0).den) (v : (patsTy vs48x0x0x0).den) : roundQ Try.prog E0.noDfr G48 500000 111 [] ps48x0x0x0 wy48x0x0x0 b48x0x0x0 [] (j48x0x0x0 c v) = Z48x0x0x0 (fun r => .leaf (r.lift j48x0x0x0 je48x0x0x0 jr48x0x0x0 jp48x0x0x0 c)) .any c v := by kernel_rfl
def S48x0x0x0 (c : (patsTy cs48x0x0x0).den) (v : (patsTy vs48x0x0x0).den) : RQ vs48x0x0x0 wv48x0x0x0 := Z48x0x0x0 (fun r => r) (fun _ _ => .bad) c v
theorem s48x0x0x0 (c : (patsTy cs48x0x0x0).den) (v : (patsTy vs48x0x0x0).den) : detQ (roundQ Try.prog E0.noDfr G48 500000 111 [] ps48x0x0x0 wy48x0x0x0 b48x0x0x0 [] (j48x0x0x0 c v)) = (S48x0x0x0 c v).lift j48x0x0x0 je48x0x0x0 jr48x0x0x0 jp48x0x0x0 c := by rw [z48x0x0x0]; unfold S48x0x0x0 Z48x0x0x0; simp only [detQ_cond, lift_cond, lift_bad, detQ, detQ_cl, detQ_onExit, detQ_onRet, detQ_onPanL, detQ_onNext, detQ_onBrk, detQ_onRetO, detQ_onPan, detQ_onOk, detQ_onGPan, lift_cl, lift_onExit, lift_onRet, lift_onPanL, lift_onNext, lift_onBrk, lift_onRetO, lift_onPan, lift_onOk, lift_onGPan]
def L48x0x0x0 (c : (patsTy cs48x0x0x0).den) (v : (patsTy vs48x0x0x0).den) : LQ wv48x0x0x0 := iterQ (S48x0x0x0 c) big v
theorem lo48x0x0 : loopsOf (b48x0x0) = [.loop b48x0x0x0] := by kernel_rfl
theorem lo48x0 : loopsOf (b48x0) = [.loop b48x0x0] := by kernel_rfl
def Z48x0 {α : Type} (l : RO mp48x0 → α) (an : α → α → α) (x : (patsTy mp48x0).den) (it : Ty.den T58) : α := cl (r94).dflt (M94 (it.1, ((0 : Int), ()))) (fun u0 => onExit (L48x0x0x0 ((), ((), ((), ((), ((0 : Int), (((0 : Int), ((1 : Int), ())), ((0 : Int), (u0.1, (((u0.1.n : Nat) : Int), (x.2.2.2.1, (x.2.2.2.2.1, (x.2.2.2.2.2.1, (it.1, ()))))))))))))) ((⟨0, fun i => ((0 : Int), ())⟩ : Sl _), ((⟨0, fun i => ((0 : Int), ())⟩ : Sl _), ((0 : Int), ())))) 4 (fun u1 => cl (r95).dflt (M95 (it.1, (u1.1, ()))) (fun u2 => cl (r95).dflt (M95 (it.1, u1.2)) (fun u3 => bif (decide (((x.2.2.2.2.1.1.n + 1) * 8) ≤ 140737488355328)) then bif (decide (((x.2.2.2.2.2.1.1.n + 1) * 8) ≤ 140737488355328)) then cl (r94).dflt (M94 (it.1, ((1 : Int), ()))) (fun u4 => onExit (L48x0x0x0 ((), ((), ((), ((), ((1 : Int), (((0 : Int), ((1 : Int), ())), ((1 : Int), (u4.1, (((u4.1.n : Nat) : Int), (x.2.2.2.1, (((catSl x.2.2.2.2.1.1 (⟨1, fun i => List.getD [u2] i u2⟩ : Sl (Ty.den T0))), x.2.2.2.2.1.2), (((catSl x.2.2.2.2.2.1.1 (⟨1, fun i => List.getD [u3] i u3⟩ : Sl (Ty.den T0))), x.2.2.2.2.2.1.2), (it.1, ()))))))))))))) ((⟨0, fun i => ((0 : Int), ())⟩ : Sl _), ((⟨0, fun i => ((0 : Int), ())⟩ : Sl _), ((0 : Int), ())))) 4 (fun u5 => cl (r95).dflt (M95 (it.1, (u5.1, ()))) (fun u6 => cl (r95).dflt (M95 (it.1, u5.2)) (fun u7 => bif (decide (((x.2.2.2.2.1.2.1.n + 1) * 8) ≤ 140737488355328)) then bif (decide (((x.2.2.2.2.2.1.2.1.n + 1) * 8) ≤ 140737488355328)) then cl (r96).dflt (M96 (it.1, ())) (fun u8 => bif (decide (((x.2.2.2.2.1.2.2.1.n + 1) * 8) ≤ 140737488355328)) then bif (decide (((x.2.2.2.2.2.1.2.2.1.n + 1) * 8) ≤ 140737488355328)) then l (.next ((), ((), ((), (x.2.2.2.1, (((catSl x.2.2.2.2.1.1 (⟨1, fun i => List.getD [u2] i u2⟩ : Sl (Ty.den T0))), ((catSl x.2.2.2.2.1.2.1 (⟨1, fun i => List.getD [u6] i u6⟩ : Sl (Ty.den T0))), ((catSl x.2.2.2.2.1.2.2.1 (⟨1, fun i => List.getD [u8] i u8⟩ : Sl (Ty.den T0))), ()))), (((catSl x.2.2.2.2.2.1.1 (⟨1, fun i => List.getD [u3] i u3⟩ : Sl (Ty.den T0))), ((catSl x.2.2.2.2.2.1.2.1 (⟨1, fun i => List.getD [u7] i u7⟩ : Sl (Ty.den T0))), ((catSl x.2.2.2.2.2.1.2.2.1 (⟨1, fun i => List.getD [u8] i u8⟩ : Sl (Ty.den T0))), ()))), ()))))))) else l .bad else l .bad) (l .bad) else l .bad else l .bad) (l .bad)) (l .bad)) (l .bad)) (l .bad) else l .bad else l .bad) (l .bad)) (l .bad)) (l .bad)) (l .bad)
theorem z48x0 (x : (patsTy mp48x0).den) (it : Ty.den T58) : stepR Try.prog E0 G48 0 500000 111 [26] as48x0 b48x0 [] [.unroll 3 [.known (loopZ 500000 [] ps48x0x0x0 fun x => spreadV wy48x0x0x0 je48x0x0x0 jr48x0x0x0 jp48x0x0x0 [] false (sp48x0x0x0 x).1 (L48x0x0x0 (sp48x0x0x0 x).1 (sp48x0x0x0 x).2) wy48x0x0x0.exits)]] T58 mp48x0 x it = Z48x0 .leaf .any x it := by kernel_rfl
def S48x0 (x : (patsTy mp48x0).den) (it : Ty.den T58) : RO mp48x0 := Z48x0 (fun r => r) (fun _ _ => .bad) x it
theorem s48x0 (x : (patsTy mp48x0).den) (it : Ty.den T58) : (stepR Try.prog E0 G48 0 500000 111 [26] as48x0 b48x0 [] [.unroll 3 [.known (loopZ 500000 [] ps48x0x0x0 fun x => spreadV wy48x0x0x0 je48x0x0x0 jr48x0x0x0 jp48x0x0x0 [] false (sp48x0x0x0 x).1 (L48x0x0x0 (sp48x0x0x0 x).1 (sp48x0x0x0 x).2) wy48x0x0x0.exits)]] T58 mp48x0 x it).detB .bad = S48x0 x it := by rw [z48x0]; unfold S48x0 Z48x0; simp only [detB_cond, Tree.detB, detB_cl, detB_onExit, detB_onRet, detB_onPanL, detB_onNext, detB_onBrk, detB_onRetO, detB_onPan, detB_onOk, detB_onGPan]
def L48x0 (x : (patsTy mp48x0).den) (l : List (Ty.den T58)) : RO mp48x0 := runAllD S48x0 x l
noncomputable def b48x1 : Code := loopBody ((loopsOf (c48))[1]?)
theorem lo48x1 : loopsOf (b48x1) = [] := by kernel_rfl
theorem lo48 : loopsOf (c48) = [.rangeFunc (.tmp 25) #[26] as48x0 b48x0, .loop b48x1] := by kernel_rfl
noncomputable def l48 : List Loop := [.known (rangeD 0 [] 25 T58 mp48x0 [] [] (fun x l => L48x0 x l)), .unroll 4 []]
def Q48 {α : Type} (l : Option (r48).den → α) (an : α → α → α) (x : (a48).den) : α := cl (r92).dflt (M92 (x.1, ())) (fun u9 => bif (!u9.1) then l (some (((0 : Int), ((0 : Int), ((0 : Int), ((0 : Int), ((0 : Int), ((0 : Int), ())))))), ((2 : Int), ()))) else cl (r93).dflt (M93 (x.1, ())) (fun u10 => onNext (L48x0 ((), ((), ((), (((0 : Int), ((0 : Int), ((0 : Int), ((0 : Int), ((0 : Int), ((0 : Int), ())))))), (((⟨0, fun i => ((0 : Int), ())⟩ : Sl _), ((⟨0, fun i => ((0 : Int), ())⟩ : Sl _), ((⟨0, fun i => ((0 : Int), ())⟩ : Sl _), ()))), (((⟨0, fun i => ((0 : Int), ())⟩ : Sl _), ((⟨0, fun i => ((0 : Int), ())⟩ : Sl _), ((⟨0, fun i => ((0 : Int), ())⟩ : Sl _), ()))), ())))))) (Sl.list u10.1)) (fun u11 => cl (r97).dflt (M97 (u11.2.2.2.2.1.1, ())) (fun u12 => cl (r98).dflt (M98 (u11.2.2.2.2.2.1.1, ())) (fun u13 => cl (r97).dflt (M97 (u11.2.2.2.2.1.2.1, ())) (fun u14 => cl (r98).dflt (M98 (u11.2.2.2.2.2.1.2.1, ())) (fun u15 => cl (r97).dflt (M97 u11.2.2.2.2.1.2.2) (fun u16 => cl (r98).dflt (M98 u11.2.2.2.2.2.1.2.2) (fun u17 => l (some ((u12.1, (u13.1, (u14.1, (u15.1, (u16.1, (u17.1, ())))))), ((0 : Int), ())))) (l none)) (l none)) (l none)) (l none)) (l none)) (l none)) (onRetO (L48x0 ((), ((), ((), (((0 : Int), ((0 : Int), ((0 : Int), ((0 : Int), ((0 : Int), ((0 : Int), ())))))), (((⟨0, fun i => ((0 : Int), ())⟩ : Sl _), ((⟨0, fun i => ((0 : Int), ())⟩ : Sl _), ((⟨0, fun i => ((0 : Int), ())⟩ : Sl _), ()))), (((⟨0, fun i => ((0 : Int), ())⟩ : Sl _), ((⟨0, fun i => ((0 : Int), ())⟩ : Sl _), ((⟨0, fun i => ((0 : Int), ())⟩ : Sl _), ()))), ())))))) (Sl.list u10.1)) (fun u18 => l none) (l none))) (l none)) (l none)
theorem q48 (x : (a48).den) : runFn Try.prog E0 G48 Try.f48 l48 a48 r48 x = Q48 .leaf .any x := by kernel_rfl
def M48 (x : (a48).den) : Option (r48).den := Q48 (fun r => r) (fun _ _ => none) x
theorem m48 (x : (a48).den) : (runFn Try.prog E0 G48 Try.f48 l48 a48 r48 x).sure = M48 x := by rw [q48]; unfold M48 Q48; simp only [sure_cond, Tree.sure, sure_cl, sure_onExit, sure_onRet, sure_onPanL, sure_onNext, sure_onBrk, sure_onRetO, sure_onPan, sure_onOk, sure_onGPan]
def p48 (x : (a48).den) : Bool := (M48 x).isSome
def v48 (x : (a48).den) : (r48).den := (M48 x).getD (r48).dflt
def k48 : Con := ⟨a48, r48, p48, v48⟩
theorem h48 : Holds Try.prog 48 k48 := holds_of_M' (E := E0) follows_ok g48 eqTy_sound keyTy_sound at48 bd48 (by kernel_rfl) m48 fun G' hlo hF hE => LsOK_kn (by rw [lo48]; exact .cons (rangeD_ok hE hF hlo at48 (by kernel_rfl) (by kernel_rfl) (by kernel_rfl) (by kernel_rfl) (by kernel_rfl) (fun G' hlo hF l hE => LsOK_nil) (fun G' hlo hF l hE => LsOK_kn (by rw [lo48x0]; exact .unr (LsOK_kn (by rw [lo48x0x0]; exact .cons (loopV_ok hE hF hlo (LsOK_kn (by rw [lo48x0x0x0]; exact .nil)) (by kernel_rfl) (by kernel_rfl) sp48x0x0x0 (fun _ => rfl) (fun _ _ => rfl) (s48x0x0x0) big) (.nil))) (.nil))) s48x0) (.unr (LsOK_kn (by rw [lo48x1]; exact .nil)) (.nil)))
/-- (isobar/kite.flight).blow$1 -/
noncomputable def c124 : Code := Try.f124.body.getD .skip
theorem at124 : Try.prog.funcs[124]? = some Try.f124 := by kernel_rfl
theorem bd124 : Try.f124.body = some c124 := by kernel_rfl
theorem cl124 : Callable Try.prog 124 := callable_of at124 (by kernel_rfl) (by kernel_rfl)
abbrev r124 : Ty := T3
abbrev ps124 : List Pat := [.agg 0 tII, .slot 1 (.ptr 5), .slot 2 (.ptr 34), .slot 3 (.ptr 88), .slot 4 (.ptr 3), .slot 5 (.ptr 61), .slot 6 (.ptr 115), .box 5 [.pc (.sl tII)], .box 34 [.pc tI, .pc tI], .box 88 [.mp 97], .box 3 fl16, .box 61 [.row 70], .box 115 [.clo 124 [5, 34, 88, 3, 61, 115]], .row 70 3 (.cons tI .nil), .mp 97 (.agg tII) .bool]
abbrev pans124 : List (Nat × Ty) := []
noncomputable def G124 : ((patsTy ps124).den → GO r124 (objPats ps124)) → Ctx := fun R124 => Ctx.of [(73, .pure k73), (118, .pure k118), (124, .gen (gappD Try.f124.ntmps r124 ps124 pans124 R124))]
theorem g124 (R124 : (patsTy ps124).den → GO r124 (objPats ps124)) (hR : GHolds Try.prog 124 (gappD Try.f124.ntmps r124 ps124 pans124 R124)) : Sound Try.prog (G124 R124) := sound_of (List.forall_mem_cons.2 ⟨⟨cl73, h73⟩, List.forall_mem_cons.2 ⟨⟨cl118, h118⟩, List.forall_mem_cons.2 ⟨⟨cl124, hR⟩, fun _ h => by cases h⟩⟩⟩)
noncomputable def b124x0 : Code := loopBody ((loopsOf (c124))[0]?)
theorem lo124x0 : loopsOf (b124x0) = [] := by kernel_rfl
abbrev cs124x0 : List Pat := [.slot 1 (.ptr 5), .slot 2 (.ptr 34), .slot 3 (.ptr 88), .slot 4 (.ptr 3), .slot 5 (.ptr 61), .slot 6 (.ptr 115), .slot 7 (.ptr 207), .slot 9 (.pc tI), .box 207 [.pc tI, .pc tI]]
abbrev vs124x0 : List Pat := [.slot 10 (.pc tI), .box 5 [.pc (.sl T1)], .box 34 [.pc tI, .pc tI], .box 88 [.mp 97], .box 3 [.pc (.sl T9), .pc tI, .pc tI, .pc tI, .pc tI, .pc tI, .pc tI, .pc tI, .pc tI, .pc tI, .pc tI, .pc tI, .pc tI, .pc tI, .pc tI, .pc tI], .box 61 [.row 70], .box 115 [.clo 124 [5, 34, 88, 3, 61, 115]], .mp 97 T4 .bool, .row 70 3 T0]
abbrev ps124x0 : List Pat := [.slot 1 (.ptr 5), .slot 2 (.ptr 34), .slot 3 (.ptr 88), .slot 4 (.ptr 3), .slot 5 (.ptr 61), .slot 6 (.ptr 115), .slot 7 (.ptr 207), .slot 9 (.pc tI), .box 207 [.pc tI, .pc tI], .slot 10 (.pc tI), .box 5 [.pc (.sl T1)], .box 34 [.pc tI, .pc tI], .box 88 [.mp 97], .box 3 [.pc (.sl T9), .pc tI, .pc tI, .pc tI, .pc tI, .pc tI, .pc tI, .pc tI, .pc tI, .pc tI, .pc tI, .pc tI, .pc tI, .pc tI, .pc tI, .pc tI], .box 61 [.row 70], .box 115 [.clo 124 [5, 34, 88, 3, 61, 115]], .mp 97 T4 .bool, .row 70 3 T0]
def j124x0 : (patsTy cs124x0).den → (patsTy vs124x0).den → (patsTy ps124x0).den := fun c v => (c.1, (c.2.1, (c.2.2.1, (c.2.2.2.1, (c.2.2.2.2.1, (c.2.2.2.2.2.1, (c.2.2.2.2.2.2.1, (c.2.2.2.2.2.2.2.1, (c.2.2.2.2.2.2.2.2.1, v)))))))))
def sp124x0 : (patsTy ps124x0).den → (patsTy cs124x0).den × (patsTy vs124x0).den := fun x => ((x.1, (x.2.1, (x.2.2.1, (x.2.2.2.1, (x.2.2.2.2.1, (x.2.2.2.2.2.1, (x.2.2.2.2.2.2.1, (x.2.2.2.2.2.2.2.1, (x.2.2.2.2.2.2.2.2.1, ()))))))))), x.2.2.2.2.2.2.2.2.2)
abbrev wy124x0 : Ways := ⟨[(0, [.slot 1 (.ptr 5), .slot 2 (.ptr 34), .slot 3 (.ptr 88), .slot 4 (.ptr 3), .slot 5 (.ptr 61), .slot 6 (.ptr 115), .slot 7 (.ptr 207), .box 207 [.pc tI, .pc tI], .box 5 [.pc (.sl T1)], .box 34 [.pc tI, .pc tI], .box 88 [.mp 97], .box 3 [.pc (.sl T9), .pc tI, .pc tI, .pc tI, .pc tI, .pc tI, .pc tI, .pc tI, .pc tI, .pc tI, .pc tI, .pc tI, .pc tI, .pc tI, .pc tI, .pc tI], .box 61 [.row 70], .box 115 [.clo 124 [5, 34, 88, 3, 61, 115]], .mp 97 T4 .bool, .row 70 3 T0])], [.slot 1 (.ptr 5), .slot 2 (.ptr 34), .slot 3 (.ptr 88), .slot 4 (.ptr 3), .slot 5 (.ptr 61), .slot 6 (.ptr 115), .slot 8 (.pc .bool), .box 5 [.pc (.sl T1)], .box 34 [.pc tI, .pc tI], .box 88 [.mp 97], .box 3 [.pc (.sl T9), .pc tI, .pc tI, .pc tI, .pc tI, .pc tI, .pc tI, .pc tI, .pc tI, .pc tI, .pc tI, .pc tI, .pc tI, .pc tI, .pc tI, .pc tI], .box 61 [.row 70], .box 115 [.clo 124 [5, 34, 88, 3, 61, 115]], .mp 97 T4 .bool, .row 70 3 T0], []⟩
abbrev wv124x0 : Ways := ⟨[(0, [.box 5 [.pc (.sl T1)], .box 34 [.pc tI, .pc tI], .box 88 [.mp 97], .box 3 [.pc (.sl T9), .pc tI, .pc tI, .pc tI, .pc tI, .pc tI, .pc tI, .pc tI, .pc tI, .pc tI, .pc tI, .pc tI, .pc tI, .pc tI, .pc tI, .pc tI], .box 61 [.row 70], .box 115 [.clo 124 [5, 34, 88, 3, 61, 115]], .mp 97 T4 .bool, .row 70 3 T0])], [.slot 8 (.pc .bool), .box 5 [.pc (.sl T1)], .box 34 [.pc tI, .pc tI], .box 88 [.mp 97], .box 3 [.pc (.sl T9), .pc tI, .pc tI, .pc tI, .pc tI, .pc tI, .pc tI, .pc tI, .pc tI, .pc tI, .pc tI, .pc tI, .pc tI, .pc tI, .pc tI, .pc tI], .box 61 [.row 70], .box 115 [.clo 124 [5, 34, 88, 3, 61, 115]], .mp 97 T4 .bool, .row 70 3 T0], []⟩
def je124x0 : (id : Nat) → (patsTy cs124x0).den → (patsTy (wayP wv124x0 id)).den → (patsTy (wayP wy124x0 id)).den := fun id => match id with | 0 => fun c y => (c.1, (c.2.1, (c.2.2.1, (c.2.2.2.1, (c.2.2.2.2.1, (c.2.2.2.2.2.1, (c.2.2.2.2.2.2.1, (c.2.2.2.2.2.2.2.2.1, y)))))))) | id => fun _ _ => (patsTy (wayP wy124x0 id)).dflt
def jr124x0 : (patsTy cs124x0).den → (patsTy (wv124x0).ret).den → (patsTy (wy124x0).ret).den := fun c y => (c.1, (c.2.1, (c.2.2.1, (c.2.2.2.1, (c.2.2.2.2.1, (c.2.2.2.2.2.1, y))))))
def jp124x0 : (patsTy cs124x0).den → (patsTy (wv124x0).pan).den → (patsTy (wy124x0).pan).den := fun c y => y
def Z124x0 (R124 : (patsTy ps124).den → GO r124 (objPats ps124)) {α : Type} (l : RQ vs124x0 wv124x0 → α) (an : α → α → α) (c : (patsTy cs124x0).den) (v : (patsTy vs124x0).den) : α := bif (decide (((0 : Int) ≤ c.2.2.2.2.2.2.2.2.1.1) ∧ (c.2.2.2.2.2.2.2.2.1.1 < ((v.2.1.1.n : Nat) : Int)))) then bif (decide (v.1 ≤ (v.2.1.1.g (Int.toNat c.2.2.2.2.2.2.2.2.1.1)).2.1)) then bif (decide (((0 : Int) ≤ c.2.2.2.2.2.2.2.2.1.1) ∧ (c.2.2.2.2.2.2.2.2.1.1 < ((v.2.2.2.2.2.2.2.2.1.n : Nat) : Int)))) then onOk (R124 (((W (c.2.2.2.2.2.2.2.2.1.1 + (1 : Int))), ((W (c.2.2.2.2.2.2.2.2.1.2.1 + (W (v.1 * c.2.2.2.2.2.2.2.1)))), ())), ((), ((), ((), ((), ((), ((), (v.2.1, (v.2.2.1, (((), ()), (v.2.2.2.2.1, (((), ()), (((), ()), ((setSl v.2.2.2.2.2.2.2.2.1 (Int.toNat c.2.2.2.2.2.2.2.2.1.1) (v.1, ())), (v.2.2.2.2.2.2.2.1, ())))))))))))))))) (fun u0 => bif (!u0.1.1) then l (.next ((W (v.1 + (1 : Int))), (u0.2.1, (u0.2.2.1, (((), ()), (u0.2.2.2.2.1, (((), ()), (((), ()), (u0.2.2.2.2.2.2.2.2.1, (u0.2.2.2.2.2.2.2.1, ())))))))))) else bif (decide (((0 : Int) ≤ c.2.2.2.2.2.2.2.2.1.1) ∧ (c.2.2.2.2.2.2.2.2.1.1 < ((u0.2.2.2.2.2.2.2.1.n : Nat) : Int)))) then l (.out (.ret (true, (u0.2.1, (u0.2.2.1, (((), ()), (u0.2.2.2.2.1, (((), ()), (((), ()), (u0.2.2.2.2.2.2.2.2.1, ((setSl u0.2.2.2.2.2.2.2.1 (Int.toNat c.2.2.2.2.2.2.2.2.1.1) (v.1, ())), ()))))))))))) else l .bad) (l .bad) else l .bad else l (.out (.exit 0 (v.2.1, (v.2.2.1, (((), ()), (v.2.2.2.2.1, (((), ()), (((), ()), v.2.2.2.2.2.2.2)))))))) else l .bad
theorem z124x0 (R124 : (patsTy ps124).den → GO r124 (objPats ps124)) (c : (patsTy cs124x0).den) (v : (patsTy vs124x0).den) : roundQ Try.prog E0 (G124 R124) 200 68 [] ps124x0 wy124x0 b124x0 [] (j124x0 c v) = Z124x0 R124 (fun r => .leaf (r.lift j124x0 je124x0 jr124x0 jp124x0 c)) .any c v := by kernel_rfl
def S124x0 (R124 : (patsTy ps124).den → GO r124 (objPats ps124)) (c : (patsTy cs124x0).den) (v : (patsTy vs124x0).den) : RQ vs124x0 wv124x0 := Z124x0 R124 (fun r => r) (fun _ _ => .bad) c v
theorem s124x0 (R124 : (patsTy ps124).den → GO r124 (objPats ps124)) (c : (patsTy cs124x0).den) (v : (patsTy vs124x0).den) : detQ (roundQ Try.prog E0 (G124 R124) 200 68 [] ps124x0 wy124x0 b124x0 [] (j124x0 c v)) = (S124x0 R124 c v).lift j124x0 je124x0 jr124x0 jp124x0 c := by rw [z124x0]; unfold S124x0 Z124x0; simp only [detQ_cond, lift_cond, lift_bad, detQ, detQ_cl, detQ_onExit, detQ_onRet, detQ_onPanL, detQ_onNext, detQ_onBrk, detQ_onRetO, detQ_onPan, detQ_onOk, detQ_onGPan, lift_cl, lift_onExit, lift_onRet, lift_onPanL, lift_onNext, lift_onBrk, lift_onRetO, lift_onPan, lift_onOk, lift_onGPan]
def L124x0 (R124 : (patsTy ps124).den → GO r124 (objPats ps124)) (c : (patsTy cs124x0).den) (v : (patsTy vs124x0).den) : LQ wv124x0 := iterQ (S124x0 R124 c) big v
theorem lo124 : loopsOf (c124) = [.loop b124x0] := by kernel_rfl
noncomputable def l124 : ((patsTy ps124).den → GO r124 (objPats ps124)) → List Loop := fun R124 => [.known (loopZ 200 [] ps124x0 fun x => spreadV wy124x0 je124x0 jr124x0 jp124x0 [] true (sp124x0 x).1 (L124x0 R124 (sp124x0 x).1 (sp124x0 x).2) wy124x0.exits)]
def Q124 (R124 : (patsTy ps124).den → GO r124 (objPats ps124)) {α : Type} (l : GO r124 (objPats ps124) → α) (an : α → α → α) (x : (patsTy ps124).den) : α := bif (decide (x.1.1 = ((x.2.2.2.2.2.2.2.1.1.n : Nat) : Int))) then cl (r73).dflt (M73 (x.1.2.1, (x.2.2.2.2.2.2.2.2.1, ()))) (fun u1 => bif (bif (Nat.beq x.2.2.2.2.2.2.2.2.2.2.2.2.2.1.n x.2.2.2.2.2.2.2.2.2.2.2.2.2.1.n) then true else false) then l (.ok u1 (x.2.2.2.2.2.2.2.1, (x.2.2.2.2.2.2.2.2.1, (((), ()), (x.2.2.2.2.2.2.2.2.2.2.1, (((), ()), (((), ()), x.2.2.2.2.2.2.2.2.2.2.2.2.2))))))) else l .bad) (l .bad) else bif (Option.getD (x.2.2.2.2.2.2.2.2.2.2.2.2.2.2.1 x.1) false) then bif (bif (Nat.beq x.2.2.2.2.2.2.2.2.2.2.2.2.2.1.n x.2.2.2.2.2.2.2.2.2.2.2.2.2.1.n) then true else false) then l (.ok (false, ()) (x.2.2.2.2.2.2.2.1, (x.2.2.2.2.2.2.2.2.1, (((), ()), (x.2.2.2.2.2.2.2.2.2.2.1, (((), ()), (((), ()), x.2.2.2.2.2.2.2.2.2.2.2.2.2))))))) else l .bad else cl (r118).dflt (M118 (x.2.2.2.2.2.2.2.2.2.2.1, (x.1.1, ()))) (fun u2 => bif (decide (((0 : Int) ≤ x.1.1) ∧ (x.1.1 < ((x.2.2.2.2.2.2.2.1.1.n : Nat) : Int)))) then onExit (L124x0 R124 ((), ((), ((), ((), ((), ((), ((), (u2.1, (x.1, ()))))))))) ((x.2.2.2.2.2.2.2.1.1.g (Int.toNat x.1.1)).1, (x.2.2.2.2.2.2.2.1, (x.2.2.2.2.2.2.2.2.1, (((), ()), (x.2.2.2.2.2.2.2.2.2.2.1, (((), ()), (((), ()), (x.2.2.2.2.2.2.2.2.2.2.2.2.2.2.1, (x.2.2.2.2.2.2.2.2.2.2.2.2.2.1, ())))))))))) 0 (fun u3 => bif (bif (Nat.beq x.2.2.2.2.2.2.2.2.2.2.2.2.2.1.n u3.2.2.2.2.2.2.2.1.n) then true else false) then l (.ok (false, ()) (u3.1, (u3.2.1, (((), ()), (u3.2.2.2.1, (((), ()), (((), ()), (u3.2.2.2.2.2.2.2.1, ((setMap (eqD T4) u3.2.2.2.2.2.2.1 x.1 true), ()))))))))) else l .bad) (onRet (L124x0 R124 ((), ((), ((), ((), ((), ((), ((), (u2.1, (x.1, ()))))))))) ((x.2.2.2.2.2.2.2.1.1.g (Int.toNat x.1.1)).1, (x.2.2.2.2.2.2.2.1, (x.2.2.2.2.2.2.2.2.1, (((), ()), (x.2.2.2.2.2.2.2.2.2.2.1, (((), ()), (((), ()), (x.2.2.2.2.2.2.2.2.2.2.2.2.2.2.1, (x.2.2.2.2.2.2.2.2.2.2.2.2.2.1, ())))))))))) (fun u4 => bif (bif (Nat.beq x.2.2.2.2.2.2.2.2.2.2.2.2.2.1.n u4.2.2.2.2.2.2.2.2.1.n) then true else false) then l (.ok (u4.1, ()) (u4.2.1, (u4.2.2.1, (((), ()), (u4.2.2.2.2.1, (((), ()), (((), ()), (u4.2.2.2.2.2.2.2.2.1, (u4.2.2.2.2.2.2.2.1, ()))))))))) else l .bad) (l .bad)) else l .bad) (l .bad)
theorem q124 (R124 : (patsTy ps124).den → GO r124 (objPats ps124)) (x : (patsTy ps124).den) : runG Try.prog E0 (G124 R124) Try.f124 (l124 R124) 200 r124 ps124 x = Q124 R124 .leaf .any x := by kernel_rfl
def U124 (R124 : (patsTy ps124).den → GO r124 (objPats ps124)) (x : (patsTy ps124).den) : GO r124 (objPats ps124) := Q124 R124 (fun r => r) (fun _ _ => .bad) x
theorem m124 (R124 : (patsTy ps124).den → GO r124 (objPats ps124)) (x : (patsTy ps124).den) : (runG Try.prog E0 (G124 R124) Try.f124 (l124 R124) 200 r124 ps124 x).detB .bad = U124 R124 x := by rw [q124]; unfold U124 Q124; simp only [detB_cond, Tree.detB, detB_cl, detB_onExit, detB_onRet, detB_onPanL, detB_onNext, detB_onBrk, detB_onRetO, detB_onPan, detB_onOk, detB_onGPan]
theorem hr124 (R124 : (patsTy ps124).den → GO r124 (objPats ps124)) (hR : GHolds Try.prog 124 (gappD Try.f124.ntmps r124 ps124 pans124 R124)) : GHolds Try.prog 124 (gappD Try.f124.ntmps r124 ps124 pans124 (U124 R124)) := gappD_holds (E := E0) follows_ok (g124 R124 hR) eqTy_sound keyTy_sound at124 bd124 (by kernel_rfl) (fun G' hlo hF hE => LsOK_kn (by rw [lo124]; exact .cons (loopV_ok hE hF hlo (LsOK_kn (by rw [lo124x0]; exact .nil)) (by kernel_rfl) (by kernel_rfl) sp124x0 (fun _ => rfl) (fun _ _ => rfl) (s124x0 R124) big) (.nil))) pans124 (m124 R124)
def F124 : Nat → (patsTy ps124).den → GO r124 (objPats ps124)
  | 0 => fun _ => .bad
  | n + 1 => U124 (F124 n)
theorem h124 : ∀ n, GHolds Try.prog 124 (gappD Try.f124.ntmps r124 ps124 pans124 (F124 n))
  | 0 => gappD_bad
  | n + 1 => hr124 _ (h124 n)
/-- (isobar/kite.flight).blow -/
noncomputable def c122 : Code := Try.f122.body.getD .skip
theorem at122 : Try.prog.funcs[122]? = some Try.f122 := by kernel_rfl
theorem bd122 : Try.f122.body = some c122 := by kernel_rfl
theorem cl122 : Callable Try.prog 122 := callable_of at122 (by kernel_rfl) (by kernel_rfl)
abbrev T77 : Ty := (.cons tI T51)
abbrev T78 : Ty := (.cons T57 T77)
abbrev T79 : Ty := (.cons (.sl T0) T3)
abbrev a122 : Ty := T78
abbrev r122 : Ty := T79
noncomputable def G122 : Ctx := Ctx.of [(123, .pure k123), (124, .gen (gappD Try.f124.ntmps r124 ps124 pans124 (F124 6)))]
theorem g122 : Sound Try.prog (G122) := sound_of (List.forall_mem_cons.2 ⟨⟨cl123, h123⟩, List.forall_mem_cons.2 ⟨⟨cl124, h124 6⟩, fun _ h => by cases h⟩⟩)
theorem lo122 : loopsOf (c122) = [] := by kernel_rfl
noncomputable def l122 : List Loop := []
def Q122 {α : Type} (l : Option (r122).den → α) (an : α → α → α) (x : (a122).den) : α := cl (r123).dflt (M123 (x.1, (x.2.1, ()))) (fun u0 => bif (decide (((0 : Int) ≤ ((x.2.2.1.n : Nat) : Int)) ∧ ((((x.2.2.1.n : Nat) : Int) ≤ (281474976710656 : Int)) ∧ ((((x.2.2.1.n : Nat) : Int) * (8 : Int)) ≤ (281474976710656 : Int))))) then onOk (F124 6 (((0 : Int), ((0 : Int), ())), ((), ((), ((), ((), ((), ((), (x.2.2, (u0.1, (((), ()), (x.1, (((), ()), (((), ()), ((⟨(Int.toNat ((x.2.2.1.n : Nat) : Int)), fun i => ((0 : Int), ())⟩ : Sl _), ((fun y1 => none), ())))))))))))))))) (fun u1 => l (some (u1.2.2.2.2.2.2.2.1, u1.1))) (l none) else l none) (l none)
theorem q122 (x : (a122).den) : runFn Try.prog E0 G122 Try.f122 l122 a122 r122 x = Q122 .leaf .any x := by kernel_rfl
def M122 (x : (a122).den) : Option (r122).den := Q122 (fun r => r) (fun _ _ => none) x
theorem m122 (x : (a122).den) : (runFn Try.prog E0 G122 Try.f122 l122 a122 r122 x).sure = M122 x := by rw [q122]; unfold M122 Q122; simp only [sure_cond, Tree.sure, sure_cl, sure_onExit, sure_onRet, sure_onPanL, sure_onNext, sure_onBrk, sure_onRetO, sure_onPan, sure_onOk, sure_onGPan]
def p122 (x : (a122).den) : Bool := (M122 x).isSome
def v122 (x : (a122).den) : (r122).den := (M122 x).getD (r122).dflt
def k122 : Con := ⟨a122, r122, p122, v122⟩
theorem h122 : Holds Try.prog 122 k122 := holds_of_M' (E := E0) follows_ok g122 eqTy_sound keyTy_sound at122 bd122 (by kernel_rfl) m122 fun G' hlo hF hE => LsOK_kn (by rw [lo122]; exact .nil)
def X94 {α : Type} (l : Option FR → α) (an : α → α → α) (x : (a94).den) : α := bif (decide ((x.2.1 < (2 : Int)) ∧ ((0 : Int) ≤ x.2.1))) then bif (decide (((Int.toNat x.2.1) * 1) < 2)) then onExit (L94x0 ((List.getD [(fun y1 => ((p116 (x.1, y1)), (v116 (x.1, y1)))), (fun y1 => ((p117 (x.1, y1)), (v117 (x.1, y1))))] ((Int.toNat x.2.1) * 1) (fun y1 => ((p116 (x.1, y1)), (v116 (x.1, y1))))), (((x.1.1.n : Nat) : Int), ())) ((⟨0, fun i => ((0 : Int), ((0 : Int), ()))⟩ : Sl _), ((0 : Int), ()))) 0 (fun u0 => l (some ⟨23, T1, u0.1⟩)) (l none) else l none else l none
theorem x94 (x : (a94).den) : runF Try.prog E0 G94 Try.f94 l94 4 a94 x = X94 .leaf .any x := by kernel_rfl
def R94 (x : (a94).den) : Option (Sl (Ty.den T1)) := frOf 23 T1 (X94 (fun r => r) (fun _ _ => none) x)
theorem r94xeq (x : (a94).den) : frOf 23 T1 (runF Try.prog E0 G94 Try.f94 l94 4 a94 x).sure = R94 x := by rw [x94]; unfold R94 X94; simp only [sure_cond, Tree.sure, sure_cl, sure_onExit, sure_onRet, sure_onPanL, sure_onNext, sure_onBrk, sure_onRetO, sure_onPan, sure_onOk, sure_onGPan]
theorem hw94 : GHolds Try.prog 94 (rowD Try.f94.ntmps a94 23 T1 R94) := rowD_holds (E := E0) follows_ok g94 eqTy_sound keyTy_sound at94 bd94 (by kernel_rfl) (fun G' hlo hF hE => LsOK_kn (by rw [lo94]; exact .cons (loopV_ok hE hF hlo (LsOK_kn (by rw [lo94x0]; exact .nil)) (by kernel_rfl) (by kernel_rfl) sp94x0 (fun _ => rfl) (fun _ _ => rfl) (s94x0) big) (.nil))) r94xeq
/-- (isobar/kite.flight).try -/
noncomputable def c109 : Code := Try.f109.body.getD .skip
theorem at109 : Try.prog.funcs[109]? = some Try.f109 := by kernel_rfl
theorem bd109 : Try.f109.body = some c109 := by kernel_rfl
theorem cl109 : Callable Try.prog 109 := callable_of at109 (by kernel_rfl) (by kernel_rfl)
abbrev r109 : Ty := .nil
abbrev ps109 : List Pat := [.agg 0 (.cons (.sl (.cons tI (.cons tI (.cons tI (.cons tI (.cons tI .nil)))))) (.cons tI (.cons tI (.cons tI (.cons tI (.cons tI (.cons tI (.cons tI (.cons tI (.cons tI (.cons tI (.cons tI (.cons tI (.cons tI (.cons tI (.cons tI .nil)))))))))))))))), .agg 1 (.cons tI (.cons tI (.cons tI (.cons tI .nil))))]
abbrev pans109 : List (Nat × Ty) := [(152, .agg (.cons tI (.cons tI (.cons tI (.cons tL (.cons tL .nil))))))]
noncomputable def G109 : Ctx := Ctx.of [(73, .pure k73), (94, .gen (rowD Try.f94.ntmps a94 23 T1 R94)), (96, .pure k96), (122, .pure k122)]
theorem g109 : Sound Try.prog (G109) := sound_of (List.forall_mem_cons.2 ⟨⟨cl73, h73⟩, List.forall_mem_cons.2 ⟨⟨cl94, hw94⟩, List.forall_mem_cons.2 ⟨⟨cl96, h96⟩, List.forall_mem_cons.2 ⟨⟨cl122, h122⟩, fun _ h => by cases h⟩⟩⟩⟩)
noncomputable def b109x0 : Code := loopBody ((loopsOf (c109))[0]?)
theorem lo109x0 : loopsOf (b109x0) = [] := by kernel_rfl
theorem lo109 : loopsOf (c109) = [.loop b109x0] := by kernel_rfl
noncomputable def l109 : List Loop := [.unroll 3 []]
def Q109 {α : Type} (l : GO r109 (objPats ps109) → α) (an : α → α → α) (x : (patsTy ps109).den) : α := cl (r96).dflt (M96 (x.1, ())) (fun u0 => cl (r73).dflt (M73 (u0.1, ((x.1.2.2.2.2.2.2.2.2.2.2.2.1, (x.1.2.2.2.2.2.2.2.2.2.2.2.2.1, ())), ()))) (fun u1 => bif (!u1.1) then l (.ok () ()) else cl (⟨0, fun _ => Ty.dflt T1⟩ : Sl (Ty.den T1)) (R94 (x.1, ((0 : Int), ()))) (fun u2 => bif (Nat.blt 0 u2.n) then bif (decide ((0 : Int) = x.2.1.2.1)) then bif (decide (((0 : Int) ≤ x.2.1.1) ∧ (x.2.1.1 < ((u2.n : Nat) : Int)))) then cl (r122).dflt (M122 (x.1, ((0 : Int), ((setSl u2 (Int.toNat x.2.1.1) x.2.1.2.2), ())))) (fun u3 => bif (!u3.2.1) then l (.ok () ()) else cl (⟨0, fun _ => Ty.dflt T1⟩ : Sl (Ty.den T1)) (R94 (x.1, ((1 : Int), ()))) (fun u4 => bif (Nat.blt 0 u4.n) then bif (decide ((1 : Int) = x.2.1.2.1)) then bif (decide (((0 : Int) ≤ x.2.1.1) ∧ (x.2.1.1 < ((u4.n : Nat) : Int)))) then cl (r122).dflt (M122 (x.1, ((1 : Int), ((setSl u4 (Int.toNat x.2.1.1) x.2.1.2.2), ())))) (fun u5 => bif (!u5.2.1) then l (.ok () ()) else l (.pan 152 T71 (x.1.2.2.2.2.2.2.2.2.2.2.2.2.2.1, (x.1.2.2.2.2.2.2.2.2.2.2.2.2.2.2.1, (x.1.2.2.2.2.2.2.2.2.2.2.2.2.2.2.2.1, (u3.1, (u5.1, ()))))) ())) (l .bad) else l .bad else cl (r122).dflt (M122 (x.1, ((1 : Int), (u4, ())))) (fun u6 => bif (!u6.2.1) then l (.ok () ()) else l (.pan 152 T71 (x.1.2.2.2.2.2.2.2.2.2.2.2.2.2.1, (x.1.2.2.2.2.2.2.2.2.2.2.2.2.2.2.1, (x.1.2.2.2.2.2.2.2.2.2.2.2.2.2.2.2.1, (u3.1, (u6.1, ()))))) ())) (l .bad) else l .bad) (l .bad)) (l .bad) else l .bad else cl (r122).dflt (M122 (x.1, ((0 : Int), (u2, ())))) (fun u7 => bif (!u7.2.1) then l (.ok () ()) else cl (⟨0, fun _ => Ty.dflt T1⟩ : Sl (Ty.den T1)) (R94 (x.1, ((1 : Int), ()))) (fun u8 => bif (Nat.blt 0 u8.n) then bif (decide ((1 : Int) = x.2.1.2.1)) then bif (decide (((0 : Int) ≤ x.2.1.1) ∧ (x.2.1.1 < ((u8.n : Nat) : Int)))) then cl (r122).dflt (M122 (x.1, ((1 : Int), ((setSl u8 (Int.toNat x.2.1.1) x.2.1.2.2), ())))) (fun u9 => bif (!u9.2.1) then l (.ok () ()) else l (.pan 152 T71 (x.1.2.2.2.2.2.2.2.2.2.2.2.2.2.1, (x.1.2.2.2.2.2.2.2.2.2.2.2.2.2.2.1, (x.1.2.2.2.2.2.2.2.2.2.2.2.2.2.2.2.1, (u7.1, (u9.1, ()))))) ())) (l .bad) else l .bad else cl (r122).dflt (M122 (x.1, ((1 : Int), (u8, ())))) (fun u10 => bif (!u10.2.1) then l (.ok () ()) else l (.pan 152 T71 (x.1.2.2.2.2.2.2.2.2.2.2.2.2.2.1, (x.1.2.2.2.2.2.2.2.2.2.2.2.2.2.2.1, (x.1.2.2.2.2.2.2.2.2.2.2.2.2.2.2.2.1, (u7.1, (u10.1, ()))))) ())) (l .bad) else l .bad) (l .bad)) (l .bad) else l .bad) (l .bad)) (l .bad)) (l .bad)
theorem q109 (x : (patsTy ps109).den) : runG Try.prog E0 G109 Try.f109 l109 0 r109 ps109 x = Q109 .leaf .any x := by kernel_rfl
def U109 (x : (patsTy ps109).den) : GO r109 (objPats ps109) := Q109 (fun r => r) (fun _ _ => .bad) x
theorem m109 (x : (patsTy ps109).den) : (runG Try.prog E0 G109 Try.f109 l109 0 r109 ps109 x).detB .bad = U109 x := by rw [q109]; unfold U109 Q109; simp only [detB_cond, Tree.detB, detB_cl, detB_onExit, detB_onRet, detB_onPanL, detB_onNext, detB_onBrk, detB_onRetO, detB_onPan, detB_onOk, detB_onGPan]
theorem h109 : GHolds Try.prog 109 (gappD Try.f109.ntmps r109 ps109 pans109 U109) := gappD_holds (E := E0) follows_ok g109 eqTy_sound keyTy_sound at109 bd109 (by kernel_rfl) (fun G' hlo hF hE => LsOK_kn (by rw [lo109]; exact .unr (LsOK_kn (by rw [lo109x0]; exact .nil)) (.nil))) pans109 m109
/-- isobar/kite.first$1 -/
noncomputable def c108 : Code := Try.f108.body.getD .skip
theorem at108 : Try.prog.funcs[108]? = some Try.f108 := by kernel_rfl
theorem bd108 : Try.f108.body = some c108 := by kernel_rfl
theorem cl108 : Callable Try.prog 108 := callable_of at108 (by kernel_rfl) (by kernel_rfl)
abbrev ps108 : List Pat := [.slot 0 (.ptr 6), .slot 1 (.ptr 7), .box 6 [.pc tI, .pc tI, .pc tI, .pc tL, .pc tL], .box 7 [.pc .bool]]
noncomputable def G108 : Ctx := Ctx.of []
theorem g108 : Sound Try.prog (G108) := sound_of (fun _ h => by cases h)
noncomputable def rest108 : Code := match c108 with | .seq _ r => r | _ => .skip
theorem gbad108 : GHolds Try.prog 108 (fun _ _ _ _ => .leaf .bad) := fun _ _ _ _ _ _ _ _ _ _ _ _ _ _ _ _ hall => absurd rfl (hall .bad rfl)
noncomputable def d108 : DApp := dapp Try.f108.ntmps ps108 (runD Try.prog E0 G108 Try.f108.ntmps rest108 [] 100 ps108 5)
noncomputable def op108 : Oper := match c108 with | .seq (.region _ ops _) _ => ops.toList.headD default | _ => default
noncomputable def rid108 : Nat := match c108 with | .seq (.region r _ _) _ => r | _ => 0
noncomputable def cal108 : Call := match op108.op with | .call c => c | _ => default
theorem dh108 : DHolds Try.prog 108 d108 := dholds_of_run (E := E0) (o := op108) (rid := rid108) (c := cal108) follows_ok g108 eqTy_sound keyTy_sound at108 (rest := rest108) (by kernel_rfl) (by kernel_rfl) (by kernel_rfl) (by kernel_rfl) (by kernel_rfl) (by kernel_rfl) (by kernel_rfl) (by kernel_rfl) (by kernel_rfl) fun G' _ _ _ => LsOK_nil
/-- isobar/kite.first -/
noncomputable def c79 : Code := Try.f79.body.getD .skip
theorem at79 : Try.prog.funcs[79]? = some Try.f79 := by kernel_rfl
theorem bd79 : Try.f79.body = some c79 := by kernel_rfl
theorem cl79 : Callable Try.prog 79 := callable_of at79 (by kernel_rfl) (by kernel_rfl)
abbrev T80 : Ty := (.agg T8)
abbrev T81 : Ty := (.cons T80 T6)
abbrev T82 : Ty := (.cons T42 T81)
abbrev T83 : Ty := (.cons T71 T3)
abbrev a79 : Ty := T82
abbrev r79 : Ty := T83
noncomputable def G79 : Ctx := Ctx.of [(93, .pure k93), (108, .gen (fun _ _ _ _ => .leaf .bad)), (109, .gen (gappD Try.f109.ntmps r109 ps109 pans109 U109))]
theorem g79 : Sound Try.prog (G79) := sound_of (List.forall_mem_cons.2 ⟨⟨cl93, h93⟩, List.forall_mem_cons.2 ⟨⟨cl108, gbad108⟩, List.forall_mem_cons.2 ⟨⟨cl109, h109⟩, fun _ h => by cases h⟩⟩⟩)
noncomputable def b79x0 : Code := rangeBody ((loopsOf (c79))[0]?)
noncomputable def as79x0 : Code := rangeAs ((loopsOf (c79))[0]?)
abbrev mp79x0 : List Pat := [.slot 4 (.ptr 4), .slot 6 (.ptr 6), .slot 7 (.ptr 7), .box 4 [.pc tI, .pc tI, .pc tI, .pc tI], .box 6 [.pc tI, .pc tI, .pc tI, .own 1007003 3 T0, .own 1007004 3 T0], .box 7 [.pc .bool]]
theorem lo79x0 : loopsOf (b79x0) = [] := by kernel_rfl
def Z79x0 {α : Type} (l : RO mp79x0 → α) (an : α → α → α) (x : (patsTy mp79x0).den) (it : Ty.den T58) : α := onGPan (U109 (it.1, (x.2.2.2.1, ()))) 152 T71 (fun u0 => l (.pan 152 T71 u0.1 ((), ((), ((), (x.2.2.2.1, (x.2.2.2.2.1, (x.2.2.2.2.2.1, ())))))))) (onOk (U109 (it.1, (x.2.2.2.1, ()))) (fun u1 => l (.next ((), ((), ((), (x.2.2.2.1, (x.2.2.2.2.1, (x.2.2.2.2.2.1, ())))))))) (l .bad))
theorem z79x0 (x : (patsTy mp79x0).den) (it : Ty.den T58) : stepR Try.prog E0 G79 0 500000 19 [14] as79x0 b79x0 [] [] T58 mp79x0 x it = Z79x0 .leaf .any x it := by kernel_rfl
def S79x0 (x : (patsTy mp79x0).den) (it : Ty.den T58) : RO mp79x0 := Z79x0 (fun r => r) (fun _ _ => .bad) x it
theorem s79x0 (x : (patsTy mp79x0).den) (it : Ty.den T58) : (stepR Try.prog E0 G79 0 500000 19 [14] as79x0 b79x0 [] [] T58 mp79x0 x it).detB .bad = S79x0 x it := by rw [z79x0]; unfold S79x0 Z79x0; simp only [detB_cond, Tree.detB, detB_cl, detB_onExit, detB_onRet, detB_onPanL, detB_onNext, detB_onBrk, detB_onRetO, detB_onPan, detB_onOk, detB_onGPan]
def L79x0 (x : (patsTy mp79x0).den) (l : List (Ty.den T58)) : RO mp79x0 := runAllD S79x0 x l
theorem lo79 : loopsOf (c79) = [.rangeFunc (.tmp 13) #[14] as79x0 b79x0] := by kernel_rfl
noncomputable def l79 : List Loop := [.known (rangeD 0 [.clo 108 [6, 7]] 13 T58 mp79x0 [] [(152, T71)] (fun x l => L79x0 x l))]
noncomputable def D79 : DCtx := DCtx.of [(108, d108)]
theorem ds79 : DSound Try.prog D79 := dsound_of (List.forall_mem_cons.2 ⟨⟨cl108, dh108⟩, fun _ h => by cases h⟩)
def Q79 {α : Type} (l : Option (r79).den → α) (an : α → α → α) (x : (a79).den) : α := cl (r93).dflt (M93 ((x.1.1, (x.1.2.1, (x.1.2.2.1, (x.1.2.2.2.1, (x.1.2.2.2.2.1, (x.2.2.1.1, (x.2.2.1.2.1, x.1.2.2.2.2.2.2.2))))))), ())) (fun u2 => onNext (L79x0 ((), ((), ((), (x.2.1, (((0 : Int), ((0 : Int), ((0 : Int), ((⟨0, fun i => ((0 : Int), ())⟩ : Sl _), ((⟨0, fun i => ((0 : Int), ())⟩ : Sl _), ()))))), ((false, ()), ())))))) (Sl.list u2.1)) (fun u3 => l (some (((0 : Int), ((0 : Int), ((0 : Int), ((⟨0, fun i => ((0 : Int), ())⟩ : Sl _), ((⟨0, fun i => ((0 : Int), ())⟩ : Sl _), ()))))), (false, ())))) (onRetO (L79x0 ((), ((), ((), (x.2.1, (((0 : Int), ((0 : Int), ((0 : Int), ((⟨0, fun i => ((0 : Int), ())⟩ : Sl _), ((⟨0, fun i => ((0 : Int), ())⟩ : Sl _), ()))))), ((false, ()), ())))))) (Sl.list u2.1)) (fun u4 => l (some (u4.2.2.2.2.1, u4.2.2.2.2.2.1))) (onPan (L79x0 ((), ((), ((), (x.2.1, (((0 : Int), ((0 : Int), ((0 : Int), ((⟨0, fun i => ((0 : Int), ())⟩ : Sl _), ((⟨0, fun i => ((0 : Int), ())⟩ : Sl _), ()))))), ((false, ()), ())))))) (Sl.list u2.1)) 152 T71 (fun u5 => l (some (u5.1, (true, ())))) (l none)))) (l none)
theorem q79 (x : (a79).den) : runFnD Try.prog E0 G79 D79 Try.f79 l79 a79 r79 x = Q79 .leaf .any x := by kernel_rfl
def M79 (x : (a79).den) : Option (r79).den := Q79 (fun r => r) (fun _ _ => none) x
theorem m79 (x : (a79).den) : (runFnD Try.prog E0 G79 D79 Try.f79 l79 a79 r79 x).sure = M79 x := by rw [q79]; unfold M79 Q79; simp only [sure_cond, Tree.sure, sure_cl, sure_onExit, sure_onRet, sure_onPanL, sure_onNext, sure_onBrk, sure_onRetO, sure_onPan, sure_onOk, sure_onGPan]
def p79 (x : (a79).den) : Bool := (M79 x).isSome
def v79 (x : (a79).den) : (r79).den := (M79 x).getD (r79).dflt
def k79 : Con := ⟨a79, r79, p79, v79⟩
theorem h79 : Holds Try.prog 79 k79 := holds_of_MD (E := E0) follows_ok g79 ds79 eqTy_sound keyTy_sound at79 bd79 (by kernel_rfl) m79 fun G' hlo hF hE => LsOK_kn (by rw [lo79]; exact .cons (rangeD_ok hE hF hlo at79 (by kernel_rfl) (by kernel_rfl) (by kernel_rfl) (by kernel_rfl) (by kernel_rfl) (fun G' hlo hF l hE => LsOK_nil) (fun G' hlo hF l hE => LsOK_kn (by rw [lo79x0]; exact .nil)) s79x0) (.nil))
/-- isobar/kite.anything -/
noncomputable def c80 : Code := Try.f80.body.getD .skip
theorem at80 : Try.prog.funcs[80]? = some Try.f80 := by kernel_rfl
theorem bd80 : Try.f80.body = some c80 := by kernel_rfl
theorem cl80 : Callable Try.prog 80 := callable_of at80 (by kernel_rfl) (by kernel_rfl)
abbrev T84 : Ty := (.cons T42 T1)
abbrev T85 : Ty := (.cons T80 .nil)
abbrev a80 : Ty := T84
abbrev r80 : Ty := T85
noncomputable def G80 : Ctx := Ctx.of [(94, .gen (rowD Try.f94.ntmps a94 23 T1 R94))]
theorem g80 : Sound Try.prog (G80) := sound_of (List.forall_mem_cons.2 ⟨⟨cl94, hw94⟩, fun _ h => by cases h⟩)
theorem lo80 : loopsOf (c80) = [] := by kernel_rfl
noncomputable def l80 : List Loop := []
def Q80 {α : Type} (l : Option (r80).den → α) (an : α → α → α) (x : (a80).den) : α := cl (⟨0, fun _ => Ty.dflt T1⟩ : Sl (Ty.den T1)) (R94 ((x.1.1, (x.1.2.1, (x.1.2.2.1, (x.1.2.2.2.1, (x.1.2.2.2.2.1, (x.1.2.2.2.2.2.1, (x.1.2.2.2.2.2.2.1, (x.1.2.2.2.2.2.2.2.1, (x.1.2.2.2.2.2.2.2.2.1, (x.1.2.2.2.2.2.2.2.2.2.1, (x.1.2.2.2.2.2.2.2.2.2.2.1, (x.1.2.2.2.2.2.2.2.2.2.2.2.1, (x.1.2.2.2.2.2.2.2.2.2.2.2.2.1, ((0 : Int), ((0 : Int), ((0 : Int), ())))))))))))))))), x.2.2)) (fun u0 => bif (Nat.blt 0 u0.n) then bif (decide (((0 : Int) ≤ x.2.1) ∧ (x.2.1 < ((u0.n : Nat) : Int)))) then l (some ((x.2.1, (x.2.2.1, (u0.g (Int.toNat x.2.1)))), ())) else l none else l none) (l none)
theorem q80 (x : (a80).den) : runFn Try.prog E0 G80 Try.f80 l80 a80 r80 x = Q80 .leaf .any x := by kernel_rfl
def M80 (x : (a80).den) : Option (r80).den := Q80 (fun r => r) (fun _ _ => none) x
theorem m80 (x : (a80).den) : (runFn Try.prog E0 G80 Try.f80 l80 a80 r80 x).sure = M80 x := by rw [q80]; unfold M80 Q80; simp only [sure_cond, Tree.sure, sure_cl, sure_onExit, sure_onRet, sure_onPanL, sure_onNext, sure_onBrk, sure_onRetO, sure_onPan, sure_onOk, sure_onGPan]
def p80 (x : (a80).den) : Bool := (M80 x).isSome
def v80 (x : (a80).den) : (r80).den := (M80 x).getD (r80).dflt
def k80 : Con := ⟨a80, r80, p80, v80⟩
theorem h80 : Holds Try.prog 80 k80 := holds_of_M' (E := E0) follows_ok g80 eqTy_sound keyTy_sound at80 bd80 (by kernel_rfl) m80 fun G' hlo hF hE => LsOK_kn (by rw [lo80]; exact .nil)

end Go.Dm

/-
 Each function of the program as a Lean function, and that its calls come to what that says.
-/
import Derived.Test.YtadkaccpacpklaaFwE
import Derived.Test.YtadkaccpacpklaaProg
set_option linter.unusedVariables false
set_option linter.unusedSimpArgs false
namespace Go.Dm
open Go.RowKit Go.Proofs
noncomputable def E0 : TCtx := { eq := eqTy Try.prog, key := keyTy Try.prog, dfr := true }
abbrev tI : Ty := .int .i64
theorem follows_ok : Try.prog.follows .mixedOrders = true := by kernel_rfl
set_option maxRecDepth 100000
abbrev ZD (p : List Pat) : Type := (patsTy p).den
abbrev ZJ (c v p : List Pat) : Type := ZD c → ZD v → ZD p
abbrev ZS (c v p : List Pat) : Type := ZD p → ZD c × ZD v
abbrev ZE (c : List Pat) (v y : Ways) : Type := (id : Nat) → ZD c → ZD (wayP v id) → ZD (wayP y id)
def ZI {α β : Type} : α → β → β := fun _ y => y
def ZDf {α β : Type} {τ : Ty} : α → β → τ.den := fun _ _ => τ.dflt
def ZA : (c v : List Pat) → ZD c → ZD v → ZD (c ++ v)
 | [], _, _, v => v
 | _ :: cs, vs, c, v => (c.1, ZA cs vs c.2 v)
def ZF : (c v : List Pat) → ZD (c ++ v) → ZD c
 | [], _, _ => ()
 | _ :: cs, vs, x => (x.1, ZF cs vs x.2)
def ZV : (c v : List Pat) → ZD (c ++ v) → ZD v
 | [], _, x => x
 | _ :: cs, vs, x => ZV cs vs x.2
def ZP (c v : List Pat) (x : ZD (c ++ v)) : ZD c × ZD v := (ZF c v x, ZV c v x)
theorem dqs : (type_of% @detQ_cond) ∧ (type_of% @lift_cond) ∧ (type_of% @detQ_cl) ∧ (type_of% @detQ_onExit) ∧ (type_of% @detQ_onRet) ∧ (type_of% @lift_cl) ∧ (type_of% @lift_onExit) ∧ (type_of% @lift_onRet) :=
 ⟨@detQ_cond, @lift_cond, @detQ_cl, @detQ_onExit, @detQ_onRet, @lift_cl, @lift_onExit, @lift_onRet⟩
theorem sus : (type_of% @sure_cond) ∧ (type_of% @sure_cl) ∧ (type_of% @sure_onExit) ∧ (type_of% @sure_onRet) ∧ (type_of% @sure_onPanL) ∧ (type_of% @sure_onNext) ∧ (type_of% @sure_onBrk) ∧ (type_of% @sure_onRetO) ∧ (type_of% @sure_onOk) ∧ (type_of% @sure_onGPan) :=
 ⟨@sure_cond, @sure_cl, @sure_onExit, @sure_onRet, @sure_onPanL, @sure_onNext, @sure_onBrk, @sure_onRetO, @sure_onOk, @sure_onGPan⟩
abbrev tL1 : Ty := .cons tI .nil
abbrev tB6 : Ty := .cons tI (.cons tI (.cons tI (.cons tI (.cons tI (.cons tI .nil)))))
abbrev tMap : Ty := .cons tI (.cons (.sl tB6) .nil)
abbrev tS : Ty := .cons (.sl tMap) (.cons tI (.cons tI (.cons tI (.cons tI .nil))))
abbrev tK : Ty := .cons (.sl tMap) (.cons tI (.cons tI (.cons tI (.cons tI (.cons (.sl (.cons (.sl tL1) .nil)) .nil)))))
abbrev tKo : Ty := .cons (.sl tMap) (.cons tI (.cons tI (.cons tI (.cons tI (.cons .opq .nil)))))
abbrev tKy : Ty := .cons (.agg tK) .nil
noncomputable def c64 : Code := Try.f64.body.getD .skip
theorem at64 : Try.prog.funcs[64]? = some Try.f64 := by kernel_rfl
theorem bd64 : Try.f64.body = some c64 := by kernel_rfl
theorem cl64 : Callable Try.prog 64 := callable_of at64 (by kernel_rfl) (by kernel_rfl)
abbrev T0 : Ty := (.cons tI .nil)
abbrev T1 : Ty := (.cons tI T0)
abbrev T2 : Ty := (.cons tI T1)
abbrev T3 : Ty := (.cons .bool .nil)
abbrev a64 : Ty := T2
abbrev r64 : Ty := T3
noncomputable def G64 : Ctx := Ctx.of []
theorem g64 : Sound Try.prog (G64) := sound_of (fun _ h => by cases h)
theorem lo64 : loopsOf (c64) = [] := by kernel_rfl
noncomputable def l64 : List Loop := []
def Q64 {α : Type} (l : Option (r64).den → α) (an : α → α → α) (x : (a64).den) : α := bif (decide (x.2.1 ≤ x.1)) then l (some ((decide (x.1 ≤ x.2.2.1)), ())) else l (some (false, ()))
theorem q64 (x : (a64).den) : runFn Try.prog E0 G64 Try.f64 l64 a64 r64 x = Q64 .leaf .any x := by kernel_rfl
def M64 (x : (a64).den) : Option (r64).den := Q64 (fun r => r) (fun _ _ => none) x
theorem m64 (x : (a64).den) : (runFn Try.prog E0 G64 Try.f64 l64 a64 r64 x).sure = M64 x := by rw [q64]; unfold M64 Q64; simp only [Tree.sure, sus]
def p64 (x : (a64).den) : Bool := (M64 x).isSome
def v64 (x : (a64).den) : (r64).den := (M64 x).getD (r64).dflt
def k64 : Con := ⟨a64, r64, p64, v64⟩
theorem h64 : Holds Try.prog 64 k64 := holds_of_M' (E := E0) follows_ok g64 eqTy_sound keyTy_sound at64 bd64 (by kernel_rfl) m64 fun G' hlo hF hE => LsOK_kn (by rw [lo64]; exact .nil)
noncomputable def c120 : Code := Try.f120.body.getD .skip
theorem at120 : Try.prog.funcs[120]? = some Try.f120 := by kernel_rfl
theorem bd120 : Try.f120.body = some c120 := by kernel_rfl
theorem cl120 : Callable Try.prog 120 := callable_of at120 (by kernel_rfl) (by kernel_rfl)
abbrev T4 : Ty := (.cons tI T2)
abbrev T5 : Ty := (.cons tI T4)
abbrev T6 : Ty := (.cons tI T5)
abbrev T7 : Ty := (.agg T6)
abbrev T8 : Ty := (.cons T7 .nil)
abbrev T9 : Ty := (.fn T8 T3)
abbrev T10 : Ty := (.cons T9 .nil)
abbrev T11 : Ty := (.cons (.sl T6) T10)
abbrev a120 : Ty := T11
abbrev r120 : Ty := T0
noncomputable def G120 : Ctx := Ctx.of []
theorem g120 : Sound Try.prog (G120) := sound_of (fun _ h => by cases h)
noncomputable def b120x0 : Code := loopBody ((loopsOf (c120))[0]?)
theorem lo120x0 : loopsOf (b120x0) = [] := by kernel_rfl
abbrev cs120x0 : List Pat := [.slot 0 (.pc (.sl T6)), .slot 1 (.pc T9), .slot 7 (.pc tI)]
abbrev vs120x0 : List Pat := [.slot 8 (.pc tI)]
abbrev ps120x0 : List Pat := cs120x0 ++ vs120x0
def j120x0 : ZJ cs120x0 vs120x0 ps120x0 := ZA _ _
def sp120x0 : ZS cs120x0 vs120x0 ps120x0 := ZP _ _
abbrev wy120x0 : Ways := ⟨[(0, [])], [.slot 4 (.pc tI)], []⟩
abbrev wv120x0 : Ways := ⟨[(0, [])], [.slot 4 (.pc tI)], []⟩
def je120x0 : ZE cs120x0 wv120x0 wy120x0 := fun id => match id with | 0 => fun c y => y | _ => ZDf
def Z120x0 {α : Type} (l : RQ vs120x0 wv120x0 → α) (an : α → α → α) (c : ZD cs120x0) (v : ZD vs120x0) : α := bif (decide (v.1 < c.2.2.1)) then bif (decide (((0 : Int) ≤ v.1) ∧ (v.1 < ((c.1.n : Nat) : Int)))) then bif (c.2.1 ((c.1.g (Int.toNat v.1)), ())).1 then bif (c.2.1 ((c.1.g (Int.toNat v.1)), ())).2.1 then l (.out (.ret v)) else l (.next ((W (v.1 + (1 : Int))), ())) else l .bad else l .bad else l (.out (.exit 0 ()))
theorem z120x0 (c : ZD cs120x0) (v : ZD vs120x0) : roundQ Try.prog E0 G120 0 19 [] ps120x0 wy120x0 b120x0 [] (j120x0 c v) = Z120x0 (fun r => .leaf (r.lift j120x0 je120x0 ZI ZI c)) .any c v := by kernel_rfl
def S120x0 (c : ZD cs120x0) (v : ZD vs120x0) : RQ vs120x0 wv120x0 := Z120x0 (fun r => r) (fun _ _ => .bad) c v
theorem s120x0 (c : ZD cs120x0) (v : ZD vs120x0) : detQ (roundQ Try.prog E0 G120 0 19 [] ps120x0 wy120x0 b120x0 [] (j120x0 c v)) = (S120x0 c v).lift j120x0 je120x0 ZI ZI c := by rw [z120x0]; unfold S120x0 Z120x0; simp only [detQ, lift_bad, dqs]
def L120x0 (c : ZD cs120x0) (v : ZD vs120x0) : LQ wv120x0 := iterQ (S120x0 c) big v
theorem lo120 : loopsOf (c120) = [.loop b120x0] := by kernel_rfl
noncomputable def l120 : List Loop := [.known (loopZ 0 [] ps120x0 fun x => spreadV wy120x0 je120x0 ZI ZI [] true (sp120x0 x).1 (L120x0 (sp120x0 x).1 (sp120x0 x).2) wy120x0.exits)]
def Q120 {α : Type} (l : Option (r120).den → α) (an : α → α → α) (x : (a120).den) : α := onExit (L120x0 (x.1, (x.2.1, (((x.1.n : Nat) : Int), ()))) ((0 : Int), ())) 0 (fun u0 => l (some ((-1 : Int), ()))) (onRet (L120x0 (x.1, (x.2.1, (((x.1.n : Nat) : Int), ()))) ((0 : Int), ())) (fun u1 => l (some u1)) (l none))
theorem q120 (x : (a120).den) : runFn Try.prog E0 G120 Try.f120 l120 a120 r120 x = Q120 .leaf .any x := by kernel_rfl
def M120 (x : (a120).den) : Option (r120).den := Q120 (fun r => r) (fun _ _ => none) x
theorem m120 (x : (a120).den) : (runFn Try.prog E0 G120 Try.f120 l120 a120 r120 x).sure = M120 x := by rw [q120]; unfold M120 Q120; simp only [Tree.sure, sus]
def p120 (x : (a120).den) : Bool := (M120 x).isSome
def v120 (x : (a120).den) : (r120).den := (M120 x).getD (r120).dflt
def k120 : Con := ⟨a120, r120, p120, v120⟩
theorem h120 : Holds Try.prog 120 k120 := holds_of_M' (E := E0) follows_ok g120 eqTy_sound keyTy_sound at120 bd120 (by kernel_rfl) m120 fun G' hlo hF hE => LsOK_kn (by rw [lo120]; exact .cons (loopV_ok hE hF hlo (LsOK_kn (by rw [lo120x0]; exact .nil)) (by kernel_rfl) (by kernel_rfl) sp120x0 (fun _ => rfl) (fun _ _ => rfl) (s120x0) big) (.nil))
noncomputable def c102 : Code := Try.f102.body.getD .skip
theorem at102 : Try.prog.funcs[102]? = some Try.f102 := by kernel_rfl
theorem bd102 : Try.f102.body = some c102 := by kernel_rfl
theorem cl102 : Callable Try.prog 102 := callable_of at102 (by kernel_rfl) (by kernel_rfl)
abbrev a102 : Ty := T11
abbrev r102 : Ty := T3
noncomputable def G102 : Ctx := Ctx.of [(120, .pure k120)]
theorem g102 : Sound Try.prog (G102) := sound_of (List.forall_mem_cons.2 ⟨⟨cl120, h120⟩, fun _ h => by cases h⟩)
theorem lo102 : loopsOf (c102) = [] := by kernel_rfl
noncomputable def l102 : List Loop := []
def Q102 {α : Type} (l : Option (r102).den → α) (an : α → α → α) (x : (a102).den) : α := cl (r120).dflt (M120 x) (fun u0 => l (some ((decide ((0 : Int) ≤ u0.1)), ()))) (l none)
theorem q102 (x : (a102).den) : runFn Try.prog E0 G102 Try.f102 l102 a102 r102 x = Q102 .leaf .any x := by kernel_rfl
def M102 (x : (a102).den) : Option (r102).den := Q102 (fun r => r) (fun _ _ => none) x
theorem m102 (x : (a102).den) : (runFn Try.prog E0 G102 Try.f102 l102 a102 r102 x).sure = M102 x := by rw [q102]; unfold M102 Q102; simp only [Tree.sure, sus]
def p102 (x : (a102).den) : Bool := (M102 x).isSome
def v102 (x : (a102).den) : (r102).den := (M102 x).getD (r102).dflt
def k102 : Con := ⟨a102, r102, p102, v102⟩
theorem h102 : Holds Try.prog 102 k102 := holds_of_M' (E := E0) follows_ok g102 eqTy_sound keyTy_sound at102 bd102 (by kernel_rfl) m102 fun G' hlo hF hE => LsOK_kn (by rw [lo102]; exact .nil)
noncomputable def c104 : Code := Try.f104.body.getD .skip
theorem at104 : Try.prog.funcs[104]? = some Try.f104 := by kernel_rfl
theorem bd104 : Try.f104.body = some c104 := by kernel_rfl
theorem cl104 : Callable Try.prog 104 := callable_of at104 (by kernel_rfl) (by kernel_rfl)
abbrev T12 : Ty := (.agg T1)
abbrev T13 : Ty := (.cons T12 T0)
abbrev a104 : Ty := T13
abbrev r104 : Ty := T3
noncomputable def G104 : Ctx := Ctx.of []
theorem g104 : Sound Try.prog (G104) := sound_of (fun _ h => by cases h)
theorem lo104 : loopsOf (c104) = [] := by kernel_rfl
noncomputable def l104 : List Loop := []
def Q104 {α : Type} (l : Option (r104).den → α) (an : α → α → α) (x : (a104).den) : α := bif (decide ((0 : Int) ≤ x.1.1)) then bif (decide (x.1.1 ≤ x.1.2.1)) then l (some ((decide (x.1.2.1 ≤ x.2.1)), ())) else l (some (false, ())) else l (some (false, ()))
theorem q104 (x : (a104).den) : runFn Try.prog E0 G104 Try.f104 l104 a104 r104 x = Q104 .leaf .any x := by kernel_rfl
def M104 (x : (a104).den) : Option (r104).den := Q104 (fun r => r) (fun _ _ => none) x
theorem m104 (x : (a104).den) : (runFn Try.prog E0 G104 Try.f104 l104 a104 r104 x).sure = M104 x := by rw [q104]; unfold M104 Q104; simp only [Tree.sure, sus]
def p104 (x : (a104).den) : Bool := (M104 x).isSome
def v104 (x : (a104).den) : (r104).den := (M104 x).getD (r104).dflt
def k104 : Con := ⟨a104, r104, p104, v104⟩
theorem h104 : Holds Try.prog 104 k104 := holds_of_M' (E := E0) follows_ok g104 eqTy_sound keyTy_sound at104 bd104 (by kernel_rfl) m104 fun G' hlo hF hE => LsOK_kn (by rw [lo104]; exact .nil)
noncomputable def c103 : Code := Try.f103.body.getD .skip
theorem at103 : Try.prog.funcs[103]? = some Try.f103 := by kernel_rfl
theorem bd103 : Try.f103.body = some c103 := by kernel_rfl
theorem cl103 : Callable Try.prog 103 := callable_of at103 (by kernel_rfl) (by kernel_rfl)
abbrev a103 : Ty := T8
abbrev r103 : Ty := T3
noncomputable def G103 : Ctx := Ctx.of [(104, .pure k104)]
theorem g103 : Sound Try.prog (G103) := sound_of (List.forall_mem_cons.2 ⟨⟨cl104, h104⟩, fun _ h => by cases h⟩)
theorem lo103 : loopsOf (c103) = [] := by kernel_rfl
noncomputable def l103 : List Loop := []
def Q103 {α : Type} (l : Option (r103).den → α) (an : α → α → α) (x : (a103).den) : α := cl (r104).dflt (M104 ((x.1.1, (x.1.2.1, ())), ((100 : Int), ()))) (fun u0 => bif (!u0.1) then l (some (true, ())) else cl (r104).dflt (M104 ((x.1.2.2.1, (x.1.2.2.2.1, ())), ((100 : Int), ()))) (fun u1 => bif (!u1.1) then l (some (true, ())) else cl (r104).dflt (M104 (x.1.2.2.2.2, ((99999 : Int), ()))) (fun u2 => l (some ((!u2.1), ()))) (l none)) (l none)) (l none)
theorem q103 (x : (a103).den) : runFn Try.prog E0 G103 Try.f103 l103 a103 r103 x = Q103 .leaf .any x := by kernel_rfl
def M103 (x : (a103).den) : Option (r103).den := Q103 (fun r => r) (fun _ _ => none) x
theorem m103 (x : (a103).den) : (runFn Try.prog E0 G103 Try.f103 l103 a103 r103 x).sure = M103 x := by rw [q103]; unfold M103 Q103; simp only [Tree.sure, sus]
def p103 (x : (a103).den) : Bool := (M103 x).isSome
def v103 (x : (a103).den) : (r103).den := (M103 x).getD (r103).dflt
def k103 : Con := ⟨a103, r103, p103, v103⟩
theorem h103 : Holds Try.prog 103 k103 := holds_of_M' (E := E0) follows_ok g103 eqTy_sound keyTy_sound at103 bd103 (by kernel_rfl) m103 fun G' hlo hF hE => LsOK_kn (by rw [lo103]; exact .nil)
noncomputable def c74 : Code := Try.f74.body.getD .skip
theorem at74 : Try.prog.funcs[74]? = some Try.f74 := by kernel_rfl
theorem bd74 : Try.f74.body = some c74 := by kernel_rfl
theorem cl74 : Callable Try.prog 74 := callable_of at74 (by kernel_rfl) (by kernel_rfl)
abbrev T14 : Ty := (.cons (.sl T6) .nil)
abbrev T15 : Ty := (.cons tI T14)
abbrev T16 : Ty := (.sl T15)
abbrev T17 : Ty := (.cons T16 T4)
abbrev T18 : Ty := (.agg T17)
abbrev T19 : Ty := (.cons T18 .nil)
abbrev a74 : Ty := T19
abbrev r74 : Ty := T3
noncomputable def G74 : Ctx := Ctx.of [(64, .pure k64), (102, .pure k102), (103, .pure k103)]
theorem g74 : Sound Try.prog (G74) := sound_of (List.forall_mem_cons.2 ⟨⟨cl64, h64⟩, List.forall_mem_cons.2 ⟨⟨cl102, h102⟩, List.forall_mem_cons.2 ⟨⟨cl103, h103⟩, fun _ h => by cases h⟩⟩⟩)
noncomputable def b74x0 : Code := loopBody ((loopsOf (c74))[0]?)
theorem lo74x0 : loopsOf (b74x0) = [] := by kernel_rfl
abbrev cs74x0 : List Pat := [.slot 1 (.ptr 1), .slot 7 (.pc T16), .slot 8 (.pc tI), .box 1 [.pc T16, .pc tI, .pc tI, .pc tI, .pc tI]]
abbrev vs74x0 : List Pat := [.slot 3 (.pc tI), .slot 9 (.pc tI)]
abbrev ps74x0 : List Pat := cs74x0 ++ vs74x0
def j74x0 : ZJ cs74x0 vs74x0 ps74x0 := ZA _ _
def sp74x0 : ZS cs74x0 vs74x0 ps74x0 := ZP _ _
abbrev wy74x0 : Ways := ⟨[(0, [.slot 1 (.ptr 1), .box 1 [.pc T16, .pc tI, .pc tI, .pc tI, .pc tI]])], [.slot 2 (.pc .bool)], []⟩
abbrev wv74x0 : Ways := ⟨[(0, [])], [.slot 2 (.pc .bool)], []⟩
def je74x0 : ZE cs74x0 wv74x0 wy74x0 := fun id => match id with | 0 => fun c y => (c.1, (c.2.2.2.1, y)) | _ => ZDf
def Z74x0 {α : Type} (l : RQ vs74x0 wv74x0 → α) (an : α → α → α) (c : ZD cs74x0) (v : ZD vs74x0) : α := bif (decide (v.2.1 < c.2.2.1)) then bif (decide (((0 : Int) ≤ v.2.1) ∧ (v.2.1 < ((c.2.1.n : Nat) : Int)))) then bif (decide ((c.2.1.g (Int.toNat v.2.1)).1 ≤ v.1)) then l (.out (.ret (false, ()))) else bif (decide ((200 : Int) < (c.2.1.g (Int.toNat v.2.1)).1)) then l (.out (.ret (false, ()))) else bif (decide ((3 : Int) < (((c.2.1.g (Int.toNat v.2.1)).2.1.n : Nat) : Int))) then l (.out (.ret (false, ()))) else cl (r102).dflt (M102 ((c.2.1.g (Int.toNat v.2.1)).2.1, ((fun y2 => ((p103 y2), (v103 y2))), ()))) (fun u0 => bif (v102 ((c.2.1.g (Int.toNat v.2.1)).2.1, ((fun y3 => ((p103 y3), (v103 y3))), ()))).1 then l (.out (.ret (false, ()))) else l (.next ((c.2.1.g (Int.toNat v.2.1)).1, ((W (v.2.1 + (1 : Int))), ())))) (l .bad) else l .bad else l (.out (.exit 0 ()))
theorem z74x0 (c : ZD cs74x0) (v : ZD vs74x0) : roundQ Try.prog E0 G74 0 60 [] ps74x0 wy74x0 b74x0 [] (j74x0 c v) = Z74x0 (fun r => .leaf (r.lift j74x0 je74x0 ZI ZI c)) .any c v := by kernel_rfl
def S74x0 (c : ZD cs74x0) (v : ZD vs74x0) : RQ vs74x0 wv74x0 := Z74x0 (fun r => r) (fun _ _ => .bad) c v
theorem s74x0 (c : ZD cs74x0) (v : ZD vs74x0) : detQ (roundQ Try.prog E0 G74 0 60 [] ps74x0 wy74x0 b74x0 [] (j74x0 c v)) = (S74x0 c v).lift j74x0 je74x0 ZI ZI c := by rw [z74x0]; unfold S74x0 Z74x0; simp only [detQ, lift_bad, dqs]
def L74x0 (c : ZD cs74x0) (v : ZD vs74x0) : LQ wv74x0 := iterQ (S74x0 c) big v
theorem lo74 : loopsOf (c74) = [.loop b74x0] := by kernel_rfl
noncomputable def l74 : List Loop := [.known (loopZ 0 [] ps74x0 fun x => spreadV wy74x0 je74x0 ZI ZI [] true (sp74x0 x).1 (L74x0 (sp74x0 x).1 (sp74x0 x).2) wy74x0.exits)]
def Q74 {α : Type} (l : Option (r74).den → α) (an : α → α → α) (x : (a74).den) : α := onExit (L74x0 ((), (x.1.1, (((x.1.1.n : Nat) : Int), (x.1, ())))) ((-1 : Int), ((0 : Int), ()))) 0 (fun u1 => cl (r64).dflt (M64 (((x.1.1.n : Nat) : Int), ((1 : Int), ((4 : Int), ())))) (fun u2 => bif u2.1 then cl (r64).dflt (M64 (x.1.2.1, ((0 : Int), ((50 : Int), ())))) (fun u3 => bif u3.1 then cl (r64).dflt (M64 (x.1.2.2.1, ((0 : Int), ((1000 : Int), ())))) (fun u4 => bif u4.1 then cl (r64).dflt (M64 (x.1.2.2.2.1, ((0 : Int), ((12 : Int), ())))) (fun u5 => bif u5.1 then cl (r64).dflt (M64 (x.1.2.2.2.2.1, ((0 : Int), ((12 : Int), ())))) (fun u6 => l (some u6)) (l none) else l (some (false, ()))) (l none) else l (some (false, ()))) (l none) else l (some (false, ()))) (l none) else l (some (false, ()))) (l none)) (onRet (L74x0 ((), (x.1.1, (((x.1.1.n : Nat) : Int), (x.1, ())))) ((-1 : Int), ((0 : Int), ()))) (fun u7 => l (some u7)) (l none))
theorem q74 (x : (a74).den) : runFn Try.prog E0 G74 Try.f74 l74 a74 r74 x = Q74 .leaf .any x := by kernel_rfl
def M74 (x : (a74).den) : Option (r74).den := Q74 (fun r => r) (fun _ _ => none) x
theorem m74 (x : (a74).den) : (runFn Try.prog E0 G74 Try.f74 l74 a74 r74 x).sure = M74 x := by rw [q74]; unfold M74 Q74; simp only [Tree.sure, sus]
def p74 (x : (a74).den) : Bool := (M74 x).isSome
def v74 (x : (a74).den) : (r74).den := (M74 x).getD (r74).dflt
def k74 : Con := ⟨a74, r74, p74, v74⟩
theorem h74 : Holds Try.prog 74 k74 := holds_of_M' (E := E0) follows_ok g74 eqTy_sound keyTy_sound at74 bd74 (by kernel_rfl) m74 fun G' hlo hF hE => LsOK_kn (by rw [lo74]; exact .cons (loopV_ok hE hF hlo (LsOK_kn (by rw [lo74x0]; exact .nil)) (by kernel_rfl) (by kernel_rfl) sp74x0 (fun _ => rfl) (fun _ _ => rfl) (s74x0) big) (.nil))
noncomputable def c133 : Code := Try.f133.body.getD .skip
theorem at133 : Try.prog.funcs[133]? = some Try.f133 := by kernel_rfl
theorem bd133 : Try.f133.body = some c133 := by kernel_rfl
theorem cl133 : Callable Try.prog 133 := callable_of at133 (by kernel_rfl) (by kernel_rfl)
abbrev T20 : Ty := (.cons T12 .nil)
abbrev a133 : Ty := T8
abbrev r133 : Ty := T20
noncomputable def G133 : Ctx := Ctx.of []
theorem g133 : Sound Try.prog (G133) := sound_of (fun _ h => by cases h)
theorem lo133 : loopsOf (c133) = [] := by kernel_rfl
noncomputable def l133 : List Loop := []
def Q133 {α : Type} (l : Option (r133).den → α) (an : α → α → α) (x : (a133).den) : α := l (some ((x.1.1, (x.1.2.1, ())), ()))
theorem q133 (x : (a133).den) : runFn Try.prog E0 G133 Try.f133 l133 a133 r133 x = Q133 .leaf .any x := by kernel_rfl
def M133 (x : (a133).den) : Option (r133).den := Q133 (fun r => r) (fun _ _ => none) x
theorem m133 (x : (a133).den) : (runFn Try.prog E0 G133 Try.f133 l133 a133 r133 x).sure = M133 x := by rw [q133]; unfold M133 Q133; simp only [Tree.sure, sus]
def p133 (x : (a133).den) : Bool := (M133 x).isSome
def v133 (x : (a133).den) : (r133).den := (M133 x).getD (r133).dflt
def k133 : Con := ⟨a133, r133, p133, v133⟩
theorem h133 : Holds Try.prog 133 k133 := holds_of_M' (E := E0) follows_ok g133 eqTy_sound keyTy_sound at133 bd133 (by kernel_rfl) m133 fun G' hlo hF hE => LsOK_kn (by rw [lo133]; exact .nil)
noncomputable def c134 : Code := Try.f134.body.getD .skip
theorem at134 : Try.prog.funcs[134]? = some Try.f134 := by kernel_rfl
theorem bd134 : Try.f134.body = some c134 := by kernel_rfl
theorem cl134 : Callable Try.prog 134 := callable_of at134 (by kernel_rfl) (by kernel_rfl)
abbrev a134 : Ty := T8
abbrev r134 : Ty := T20
noncomputable def G134 : Ctx := Ctx.of []
theorem g134 : Sound Try.prog (G134) := sound_of (fun _ h => by cases h)
theorem lo134 : loopsOf (c134) = [] := by kernel_rfl
noncomputable def l134 : List Loop := []
def Q134 {α : Type} (l : Option (r134).den → α) (an : α → α → α) (x : (a134).den) : α := l (some ((x.1.2.2.1, (x.1.2.2.2.1, ())), ()))
theorem q134 (x : (a134).den) : runFn Try.prog E0 G134 Try.f134 l134 a134 r134 x = Q134 .leaf .any x := by kernel_rfl
def M134 (x : (a134).den) : Option (r134).den := Q134 (fun r => r) (fun _ _ => none) x
theorem m134 (x : (a134).den) : (runFn Try.prog E0 G134 Try.f134 l134 a134 r134 x).sure = M134 x := by rw [q134]; unfold M134 Q134; simp only [Tree.sure, sus]
def p134 (x : (a134).den) : Bool := (M134 x).isSome
def v134 (x : (a134).den) : (r134).den := (M134 x).getD (r134).dflt
def k134 : Con := ⟨a134, r134, p134, v134⟩
theorem h134 : Holds Try.prog 134 k134 := holds_of_M' (E := E0) follows_ok g134 eqTy_sound keyTy_sound at134 bd134 (by kernel_rfl) m134 fun G' hlo hF hE => LsOK_kn (by rw [lo134]; exact .nil)
noncomputable def c135 : Code := Try.f135.body.getD .skip
theorem at135 : Try.prog.funcs[135]? = some Try.f135 := by kernel_rfl
theorem bd135 : Try.f135.body = some c135 := by kernel_rfl
theorem cl135 : Callable Try.prog 135 := callable_of at135 (by kernel_rfl) (by kernel_rfl)
abbrev a135 : Ty := T8
abbrev r135 : Ty := T20
noncomputable def G135 : Ctx := Ctx.of []
theorem g135 : Sound Try.prog (G135) := sound_of (fun _ h => by cases h)
theorem lo135 : loopsOf (c135) = [] := by kernel_rfl
noncomputable def l135 : List Loop := []
def Q135 {α : Type} (l : Option (r135).den → α) (an : α → α → α) (x : (a135).den) : α := l (some (x.1.2.2.2.2, ()))
theorem q135 (x : (a135).den) : runFn Try.prog E0 G135 Try.f135 l135 a135 r135 x = Q135 .leaf .any x := by kernel_rfl
def M135 (x : (a135).den) : Option (r135).den := Q135 (fun r => r) (fun _ _ => none) x
theorem m135 (x : (a135).den) : (runFn Try.prog E0 G135 Try.f135 l135 a135 r135 x).sure = M135 x := by rw [q135]; unfold M135 Q135; simp only [Tree.sure, sus]
def p135 (x : (a135).den) : Bool := (M135 x).isSome
def v135 (x : (a135).den) : (r135).den := (M135 x).getD (r135).dflt
def k135 : Con := ⟨a135, r135, p135, v135⟩
theorem h135 : Holds Try.prog 135 k135 := holds_of_M' (E := E0) follows_ok g135 eqTy_sound keyTy_sound at135 bd135 (by kernel_rfl) m135 fun G' hlo hF hE => LsOK_kn (by rw [lo135]; exact .nil)
noncomputable def c117 : Code := Try.f117.body.getD .skip
theorem at117 : Try.prog.funcs[117]? = some Try.f117 := by kernel_rfl
theorem bd117 : Try.f117.body = some c117 := by kernel_rfl
theorem cl117 : Callable Try.prog 117 := callable_of at117 (by kernel_rfl) (by kernel_rfl)
abbrev a117 : Ty := T8
abbrev r117 : Ty := T8
noncomputable def G117 : Ctx := Ctx.of [(133, .pure k133), (134, .pure k134), (135, .pure k135)]
theorem g117 : Sound Try.prog (G117) := sound_of (List.forall_mem_cons.2 ⟨⟨cl133, h133⟩, List.forall_mem_cons.2 ⟨⟨cl134, h134⟩, List.forall_mem_cons.2 ⟨⟨cl135, h135⟩, fun _ h => by cases h⟩⟩⟩)
noncomputable def b117x0 : Code := loopBody ((loopsOf (c117))[0]?)
theorem lo117x0 : loopsOf (b117x0) = [] := by kernel_rfl
theorem lo117 : loopsOf (c117) = [.loop b117x0] := by kernel_rfl
noncomputable def l117 : List Loop := [.unroll 4 []]
def Q117 {α : Type} (l : Option (r117).den → α) (an : α → α → α) (x : (a117).den) : α := cl (r133).dflt (M133 (x.1, ())) (fun u0 => cl (r134).dflt (M134 (x.1, ())) (fun u1 => cl (r135).dflt (M135 (x.1, ())) (fun u2 => l (some ((u0.1.1, (u0.1.2.1, (u1.1.1, (u1.1.2.1, (u2.1.1, (u2.1.2.1, ())))))), ()))) (l none)) (l none)) (l none)
theorem q117 (x : (a117).den) : runFn Try.prog E0 G117 Try.f117 l117 a117 r117 x = Q117 .leaf .any x := by kernel_rfl
def M117 (x : (a117).den) : Option (r117).den := Q117 (fun r => r) (fun _ _ => none) x
theorem m117 (x : (a117).den) : (runFn Try.prog E0 G117 Try.f117 l117 a117 r117 x).sure = M117 x := by rw [q117]; unfold M117 Q117; simp only [Tree.sure, sus]
def p117 (x : (a117).den) : Bool := (M117 x).isSome
def v117 (x : (a117).den) : (r117).den := (M117 x).getD (r117).dflt
def k117 : Con := ⟨a117, r117, p117, v117⟩
theorem h117 : Holds Try.prog 117 k117 := holds_of_M' (E := E0) follows_ok g117 eqTy_sound keyTy_sound at117 bd117 (by kernel_rfl) m117 fun G' hlo hF hE => LsOK_kn (by rw [lo117]; exact .unr (LsOK_kn (by rw [lo117x0]; exact .nil)) (.nil))
noncomputable def c94 : Code := Try.f94.body.getD .skip
theorem at94 : Try.prog.funcs[94]? = some Try.f94 := by kernel_rfl
theorem bd94 : Try.f94.body = some c94 := by kernel_rfl
theorem cl94 : Callable Try.prog 94 := callable_of at94 (by kernel_rfl) (by kernel_rfl)
abbrev T21 : Ty := (.cons .opq .nil)
abbrev T22 : Ty := (.cons tI T21)
abbrev T23 : Ty := (.cons tI T22)
abbrev T24 : Ty := (.cons tI T23)
abbrev T25 : Ty := (.cons tI T24)
abbrev T26 : Ty := (.cons T16 T25)
abbrev T27 : Ty := (.agg T26)
abbrev T28 : Ty := (.cons T27 T1)
abbrev a94 : Ty := T28
abbrev r94 : Ty := T8
noncomputable def G94 : Ctx := Ctx.of [(117, .pure k117)]
theorem g94 : Sound Try.prog (G94) := sound_of (List.forall_mem_cons.2 ⟨⟨cl117, h117⟩, fun _ h => by cases h⟩)
theorem lo94 : loopsOf (c94) = [] := by kernel_rfl
noncomputable def l94 : List Loop := []
def Q94 {α : Type} (l : Option (r94).den → α) (an : α → α → α) (x : (a94).den) : α := bif (decide (((0 : Int) ≤ x.2.1) ∧ (x.2.1 < ((x.1.1.n : Nat) : Int)))) then bif (decide (((0 : Int) ≤ x.2.2.1) ∧ (x.2.2.1 < (((x.1.1.g (Int.toNat x.2.1)).2.1.n : Nat) : Int)))) then cl (r117).dflt (M117 (((x.1.1.g (Int.toNat x.2.1)).2.1.g (Int.toNat x.2.2.1)), ())) (fun u0 => l (some (u0.1, ()))) (l none) else l none else l none
theorem q94 (x : (a94).den) : runFn Try.prog E0 G94 Try.f94 l94 a94 r94 x = Q94 .leaf .any x := by kernel_rfl
def M94 (x : (a94).den) : Option (r94).den := Q94 (fun r => r) (fun _ _ => none) x
theorem m94 (x : (a94).den) : (runFn Try.prog E0 G94 Try.f94 l94 a94 r94 x).sure = M94 x := by rw [q94]; unfold M94 Q94; simp only [Tree.sure, sus]
def p94 (x : (a94).den) : Bool := (M94 x).isSome
def v94 (x : (a94).den) : (r94).den := (M94 x).getD (r94).dflt
def k94 : Con := ⟨a94, r94, p94, v94⟩
theorem h94 : Holds Try.prog 94 k94 := holds_of_M' (E := E0) follows_ok g94 eqTy_sound keyTy_sound at94 bd94 (by kernel_rfl) m94 fun G' hlo hF hE => LsOK_kn (by rw [lo94]; exact .nil)
noncomputable def c118 : Code := Try.f118.body.getD .skip
theorem at118 : Try.prog.funcs[118]? = some Try.f118 := by kernel_rfl
theorem bd118 : Try.f118.body = some c118 := by kernel_rfl
theorem cl118 : Callable Try.prog 118 := callable_of at118 (by kernel_rfl) (by kernel_rfl)
abbrev T29 : Ty := (.cons (.sl T0) T0)
abbrev a118 : Ty := T29
abbrev r118 : Ty := T0
noncomputable def G118 : Ctx := Ctx.of []
theorem g118 : Sound Try.prog (G118) := sound_of (fun _ h => by cases h)
noncomputable def b118x0 : Code := loopBody ((loopsOf (c118))[0]?)
theorem lo118x0 : loopsOf (b118x0) = [] := by kernel_rfl
abbrev cs118x0 : List Pat := [.slot 0 (.pc (.sl T0)), .slot 1 (.pc tI), .slot 7 (.pc tI)]
abbrev vs118x0 : List Pat := [.slot 8 (.pc tI)]
abbrev ps118x0 : List Pat := cs118x0 ++ vs118x0
def j118x0 : ZJ cs118x0 vs118x0 ps118x0 := ZA _ _
def sp118x0 : ZS cs118x0 vs118x0 ps118x0 := ZP _ _
abbrev wy118x0 : Ways := ⟨[(0, [])], [.slot 4 (.pc tI)], []⟩
abbrev wv118x0 : Ways := ⟨[(0, [])], [.slot 4 (.pc tI)], []⟩
def je118x0 : ZE cs118x0 wv118x0 wy118x0 := fun id => match id with | 0 => fun c y => y | _ => ZDf
def Z118x0 {α : Type} (l : RQ vs118x0 wv118x0 → α) (an : α → α → α) (c : ZD cs118x0) (v : ZD vs118x0) : α := bif (decide (v.1 < c.2.2.1)) then bif (decide (((0 : Int) ≤ v.1) ∧ (v.1 < ((c.1.n : Nat) : Int)))) then bif (decide (c.2.1 = (c.1.g (Int.toNat v.1)).1)) then l (.out (.ret v)) else l (.next ((W (v.1 + (1 : Int))), ())) else l .bad else l (.out (.exit 0 ()))
theorem z118x0 (c : ZD cs118x0) (v : ZD vs118x0) : roundQ Try.prog E0 G118 0 19 [] ps118x0 wy118x0 b118x0 [] (j118x0 c v) = Z118x0 (fun r => .leaf (r.lift j118x0 je118x0 ZI ZI c)) .any c v := by kernel_rfl
def S118x0 (c : ZD cs118x0) (v : ZD vs118x0) : RQ vs118x0 wv118x0 := Z118x0 (fun r => r) (fun _ _ => .bad) c v
theorem s118x0 (c : ZD cs118x0) (v : ZD vs118x0) : detQ (roundQ Try.prog E0 G118 0 19 [] ps118x0 wy118x0 b118x0 [] (j118x0 c v)) = (S118x0 c v).lift j118x0 je118x0 ZI ZI c := by rw [z118x0]; unfold S118x0 Z118x0; simp only [detQ, lift_bad, dqs]
def L118x0 (c : ZD cs118x0) (v : ZD vs118x0) : LQ wv118x0 := iterQ (S118x0 c) big v
theorem lo118 : loopsOf (c118) = [.loop b118x0] := by kernel_rfl
noncomputable def l118 : List Loop := [.known (loopZ 0 [] ps118x0 fun x => spreadV wy118x0 je118x0 ZI ZI [] true (sp118x0 x).1 (L118x0 (sp118x0 x).1 (sp118x0 x).2) wy118x0.exits)]
def Q118 {α : Type} (l : Option (r118).den → α) (an : α → α → α) (x : (a118).den) : α := onExit (L118x0 (x.1, (x.2.1, (((x.1.n : Nat) : Int), ()))) ((0 : Int), ())) 0 (fun u0 => l (some ((-1 : Int), ()))) (onRet (L118x0 (x.1, (x.2.1, (((x.1.n : Nat) : Int), ()))) ((0 : Int), ())) (fun u1 => l (some u1)) (l none))
theorem q118 (x : (a118).den) : runFn Try.prog E0 G118 Try.f118 l118 a118 r118 x = Q118 .leaf .any x := by kernel_rfl
def M118 (x : (a118).den) : Option (r118).den := Q118 (fun r => r) (fun _ _ => none) x
theorem m118 (x : (a118).den) : (runFn Try.prog E0 G118 Try.f118 l118 a118 r118 x).sure = M118 x := by rw [q118]; unfold M118 Q118; simp only [Tree.sure, sus]
def p118 (x : (a118).den) : Bool := (M118 x).isSome
def v118 (x : (a118).den) : (r118).den := (M118 x).getD (r118).dflt
def k118 : Con := ⟨a118, r118, p118, v118⟩
theorem h118 : Holds Try.prog 118 k118 := holds_of_M' (E := E0) follows_ok g118 eqTy_sound keyTy_sound at118 bd118 (by kernel_rfl) m118 fun G' hlo hF hE => LsOK_kn (by rw [lo118]; exact .cons (loopV_ok hE hF hlo (LsOK_kn (by rw [lo118x0]; exact .nil)) (by kernel_rfl) (by kernel_rfl) sp118x0 (fun _ => rfl) (fun _ _ => rfl) (s118x0) big) (.nil))
noncomputable def c97 : Code := Try.f97.body.getD .skip
theorem at97 : Try.prog.funcs[97]? = some Try.f97 := by kernel_rfl
theorem bd97 : Try.f97.body = some c97 := by kernel_rfl
theorem cl97 : Callable Try.prog 97 := callable_of at97 (by kernel_rfl) (by kernel_rfl)
abbrev a97 : Ty := T29
abbrev r97 : Ty := T3
noncomputable def G97 : Ctx := Ctx.of [(118, .pure k118)]
theorem g97 : Sound Try.prog (G97) := sound_of (List.forall_mem_cons.2 ⟨⟨cl118, h118⟩, fun _ h => by cases h⟩)
theorem lo97 : loopsOf (c97) = [] := by kernel_rfl
noncomputable def l97 : List Loop := []
def Q97 {α : Type} (l : Option (r97).den → α) (an : α → α → α) (x : (a97).den) : α := cl (r118).dflt (M118 x) (fun u0 => l (some ((decide ((0 : Int) ≤ u0.1)), ()))) (l none)
theorem q97 (x : (a97).den) : runFn Try.prog E0 G97 Try.f97 l97 a97 r97 x = Q97 .leaf .any x := by kernel_rfl
def M97 (x : (a97).den) : Option (r97).den := Q97 (fun r => r) (fun _ _ => none) x
theorem m97 (x : (a97).den) : (runFn Try.prog E0 G97 Try.f97 l97 a97 r97 x).sure = M97 x := by rw [q97]; unfold M97 Q97; simp only [Tree.sure, sus]
def p97 (x : (a97).den) : Bool := (M97 x).isSome
def v97 (x : (a97).den) : (r97).den := (M97 x).getD (r97).dflt
def k97 : Con := ⟨a97, r97, p97, v97⟩
theorem h97 : Holds Try.prog 97 k97 := holds_of_M' (E := E0) follows_ok g97 eqTy_sound keyTy_sound at97 bd97 (by kernel_rfl) m97 fun G' hlo hF hE => LsOK_kn (by rw [lo97]; exact .nil)
noncomputable def c110 : Code := Try.f110.body.getD .skip
theorem at110 : Try.prog.funcs[110]? = some Try.f110 := by kernel_rfl
theorem bd110 : Try.f110.body = some c110 := by kernel_rfl
theorem cl110 : Callable Try.prog 110 := callable_of at110 (by kernel_rfl) (by kernel_rfl)
abbrev T30 : Ty := (.cons (.sl T0) .nil)
abbrev a110 : Ty := T30
abbrev r110 : Ty := T30
noncomputable def G110 : Ctx := Ctx.of []
theorem g110 : Sound Try.prog (G110) := sound_of (fun _ h => by cases h)
theorem lo110 : loopsOf (c110) = [] := by kernel_rfl
noncomputable def l110 : List Loop := []
def Q110 {α : Type} (l : Option (r110).den → α) (an : α → α → α) (x : (a110).den) : α := bif (Nat.blt 0 x.1.n) then bif (decide ((x.1.n * 8) ≤ 140737488355328)) then l (some x) else l none else an (l (some ((⟨0, fun i => ((0 : Int), ())⟩ : Sl _), ()))) (bif (decide ((x.1.n * 8) ≤ 140737488355328)) then l (some x) else l none)
theorem q110 (x : (a110).den) : runFn Try.prog E0 G110 Try.f110 l110 a110 r110 x = Q110 .leaf .any x := by kernel_rfl
def M110 (x : (a110).den) : Option (r110).den := Q110 (fun r => r) (fun _ _ => none) x
theorem m110 (x : (a110).den) : (runFn Try.prog E0 G110 Try.f110 l110 a110 r110 x).sure = M110 x := by rw [q110]; unfold M110 Q110; simp only [Tree.sure, sus]
def p110 (x : (a110).den) : Bool := (M110 x).isSome
def v110 (x : (a110).den) : (r110).den := (M110 x).getD (r110).dflt
def k110 : Con := ⟨a110, r110, p110, v110⟩
theorem h110 : Holds Try.prog 110 k110 := holds_of_M' (E := E0) follows_ok g110 eqTy_sound keyTy_sound at110 bd110 (by kernel_rfl) m110 fun G' hlo hF hE => LsOK_kn (by rw [lo110]; exact .nil)
def X110 {α : Type} (l : Option FR → α) (an : α → α → α) (x : (a110).den) : α := bif (Nat.blt 0 x.1.n) then bif (decide ((x.1.n * 8) ≤ 140737488355328)) then l (some ⟨3, T0, x.1⟩) else l none else an (l (some ⟨3, T0, (⟨0, fun i => ((0 : Int), ())⟩ : Sl (Ty.den T0))⟩)) (bif (decide ((x.1.n * 8) ≤ 140737488355328)) then l (some ⟨3, T0, x.1⟩) else l none)
theorem x110 (x : (a110).den) : runC Try.prog E0 G110 Try.f110 l110 2 3 T0 a110 x = X110 .leaf .any x := by kernel_rfl
def R110 (x : (a110).den) : Option (Sl (Ty.den T0)) := X110 (frOf 3 T0) anC x
theorem r110xeq (x : (a110).den) : (runC Try.prog E0 G110 Try.f110 l110 2 3 T0 a110 x).sureC 3 T0 = R110 x := by rw [x110]; unfold R110 X110; simp only [sureC_cond, Tree.sureC]
theorem hw110 : GHolds Try.prog 110 (chainD false Try.f110.ntmps a110 3 T0 R110) := chainD_holds (E := E0) follows_ok g110 eqTy_sound keyTy_sound at110 bd110 (by kernel_rfl) (by kernel_rfl) (fun h => by cases h) (fun G' hlo hF hE => LsOK_kn (by rw [lo110]; exact .nil)) r110xeq
noncomputable def c95 : Code := Try.f95.body.getD .skip
theorem at95 : Try.prog.funcs[95]? = some Try.f95 := by kernel_rfl
theorem bd95 : Try.f95.body = some c95 := by kernel_rfl
theorem cl95 : Callable Try.prog 95 := callable_of at95 (by kernel_rfl) (by kernel_rfl)
abbrev T31 : Ty := (.cons T27 T0)
abbrev T32 : Ty := (.agg T2)
abbrev T33 : Ty := (.cons T32 .nil)
abbrev a95 : Ty := T31
abbrev r95 : Ty := T33
noncomputable def G95 : Ctx := Ctx.of []
theorem g95 : Sound Try.prog (G95) := sound_of (fun _ h => by cases h)
theorem lo95 : loopsOf (c95) = [] := by kernel_rfl
noncomputable def l95 : List Loop := []
def Q95 {α : Type} (l : Option (r95).den → α) (an : α → α → α) (x : (a95).den) : α := l (some (((W (x.1.2.1 * x.2.1)), ((W (x.1.2.1 * x.2.1)), ((W (x.1.2.2.1 * x.2.1)), ()))), ()))
theorem q95 (x : (a95).den) : runFn Try.prog E0 G95 Try.f95 l95 a95 r95 x = Q95 .leaf .any x := by kernel_rfl
def M95 (x : (a95).den) : Option (r95).den := Q95 (fun r => r) (fun _ _ => none) x
theorem m95 (x : (a95).den) : (runFn Try.prog E0 G95 Try.f95 l95 a95 r95 x).sure = M95 x := by rw [q95]; unfold M95 Q95; simp only [Tree.sure, sus]
def p95 (x : (a95).den) : Bool := (M95 x).isSome
def v95 (x : (a95).den) : (r95).den := (M95 x).getD (r95).dflt
def k95 : Con := ⟨a95, r95, p95, v95⟩
theorem h95 : Holds Try.prog 95 k95 := holds_of_M' (E := E0) follows_ok g95 eqTy_sound keyTy_sound at95 bd95 (by kernel_rfl) m95 fun G' hlo hF hE => LsOK_kn (by rw [lo95]; exact .nil)
noncomputable def c88 : Code := Try.f88.body.getD .skip
theorem at88 : Try.prog.funcs[88]? = some Try.f88 := by kernel_rfl
theorem bd88 : Try.f88.body = some c88 := by kernel_rfl
theorem cl88 : Callable Try.prog 88 := callable_of at88 (by kernel_rfl) (by kernel_rfl)
abbrev T34 : Ty := (.cons T7 T0)
abbrev T35 : Ty := (.cons T27 T34)
abbrev a88 : Ty := T35
abbrev r88 : Ty := T8
noncomputable def G88 : Ctx := Ctx.of [(95, .pure k95)]
theorem g88 : Sound Try.prog (G88) := sound_of (List.forall_mem_cons.2 ⟨⟨cl95, h95⟩, fun _ h => by cases h⟩)
noncomputable def b88x0 : Code := loopBody ((loopsOf (c88))[0]?)
theorem lo88x0 : loopsOf (b88x0) = [] := by kernel_rfl
theorem lo88 : loopsOf (c88) = [.loop b88x0] := by kernel_rfl
noncomputable def l88 : List Loop := [.unroll 4 []]
def Q88 {α : Type} (l : Option (r88).den → α) (an : α → α → α) (x : (a88).den) : α := cl (r95).dflt (M95 ((x.1.1, (x.1.2.1, (x.1.2.2.1, (x.1.2.2.2.1, (x.1.2.2.2.2.1, ((), ())))))), x.2.2)) (fun u0 => l (some (((W (x.2.1.1 - u0.1.1)), ((W (x.2.1.2.1 + u0.1.1)), ((W (x.2.1.2.2.1 - u0.1.2.1)), ((W (x.2.1.2.2.2.1 + u0.1.2.1)), ((W (x.2.1.2.2.2.2.1 - u0.1.2.2.1)), ((W (x.2.1.2.2.2.2.2.1 + u0.1.2.2.1)), ())))))), ()))) (l none)
theorem q88 (x : (a88).den) : runFn Try.prog E0 G88 Try.f88 l88 a88 r88 x = Q88 .leaf .any x := by kernel_rfl
def M88 (x : (a88).den) : Option (r88).den := Q88 (fun r => r) (fun _ _ => none) x
theorem m88 (x : (a88).den) : (runFn Try.prog E0 G88 Try.f88 l88 a88 r88 x).sure = M88 x := by rw [q88]; unfold M88 Q88; simp only [Tree.sure, sus]
def p88 (x : (a88).den) : Bool := (M88 x).isSome
def v88 (x : (a88).den) : (r88).den := (M88 x).getD (r88).dflt
def k88 : Con := ⟨a88, r88, p88, v88⟩
theorem h88 : Holds Try.prog 88 k88 := holds_of_M' (E := E0) follows_ok g88 eqTy_sound keyTy_sound at88 bd88 (by kernel_rfl) m88 fun G' hlo hF hE => LsOK_kn (by rw [lo88]; exact .unr (LsOK_kn (by rw [lo88x0]; exact .nil)) (.nil))
noncomputable def c96 : Code := Try.f96.body.getD .skip
theorem at96 : Try.prog.funcs[96]? = some Try.f96 := by kernel_rfl
theorem bd96 : Try.f96.body = some c96 := by kernel_rfl
theorem cl96 : Callable Try.prog 96 := callable_of at96 (by kernel_rfl) (by kernel_rfl)
abbrev a96 : Ty := T31
abbrev r96 : Ty := T0
noncomputable def G96 : Ctx := Ctx.of []
theorem g96 : Sound Try.prog (G96) := sound_of (fun _ h => by cases h)
theorem lo96 : loopsOf (c96) = [] := by kernel_rfl
noncomputable def l96 : List Loop := []
def Q96 {α : Type} (l : Option (r96).den → α) (an : α → α → α) (x : (a96).den) : α := bif (decide (((0 : Int) ≤ x.2.1) ∧ (x.2.1 < ((x.1.1.n : Nat) : Int)))) then bif (decide (((0 : Int) ≤ (W (x.2.1 - (1 : Int)))) ∧ ((W (x.2.1 - (1 : Int))) < ((x.1.1.n : Nat) : Int)))) then l (some ((W ((x.1.1.g (Int.toNat x.2.1)).1 - (x.1.1.g (Int.toNat (W (x.2.1 - (1 : Int))))).1)), ())) else l none else l none
theorem q96 (x : (a96).den) : runFn Try.prog E0 G96 Try.f96 l96 a96 r96 x = Q96 .leaf .any x := by kernel_rfl
def M96 (x : (a96).den) : Option (r96).den := Q96 (fun r => r) (fun _ _ => none) x
theorem m96 (x : (a96).den) : (runFn Try.prog E0 G96 Try.f96 l96 a96 r96 x).sure = M96 x := by rw [q96]; unfold M96 Q96; simp only [Tree.sure, sus]
def p96 (x : (a96).den) : Bool := (M96 x).isSome
def v96 (x : (a96).den) : (r96).den := (M96 x).getD (r96).dflt
def k96 : Con := ⟨a96, r96, p96, v96⟩
theorem h96 : Holds Try.prog 96 k96 := holds_of_M' (E := E0) follows_ok g96 eqTy_sound keyTy_sound at96 bd96 (by kernel_rfl) m96 fun G' hlo hF hE => LsOK_kn (by rw [lo96]; exact .nil)
noncomputable def c105 : Code := Try.f105.body.getD .skip
theorem at105 : Try.prog.funcs[105]? = some Try.f105 := by kernel_rfl
theorem bd105 : Try.f105.body = some c105 := by kernel_rfl
theorem cl105 : Callable Try.prog 105 := callable_of at105 (by kernel_rfl) (by kernel_rfl)
abbrev r105 : Ty := T8
abbrev ps105 : List Pat := [.agg 0 tB6, .slot 1 (.pc (.sl tB6))]
abbrev pans105 : List (Nat × Ty) := [(150, .agg (.cons tI .nil))]
noncomputable def G105 : Ctx := Ctx.of []
theorem g105 : Sound Try.prog (G105) := sound_of (fun _ h => by cases h)
noncomputable def b105x0 : Code := loopBody ((loopsOf (c105))[0]?)
noncomputable def b105x0x0 : Code := loopBody ((loopsOf (b105x0))[0]?)
theorem lo105x0x0 : loopsOf (b105x0x0) = [] := by kernel_rfl
theorem lo105x0 : loopsOf (b105x0) = [.loop b105x0x0] := by kernel_rfl
abbrev cs105x0 : List Pat := [.slot 2 (.ptr 102), .slot 4 (.ptr 104), .slot 8 (.pc (.sl T6)), .slot 9 (.pc tI), .box 104 [.pc tI, .pc tI, .pc tI, .pc tI, .pc tI, .pc tI]]
abbrev vs105x0 : List Pat := [.slot 10 (.pc tI), .box 102 [.pc tI, .pc tI, .pc tI, .pc tI, .pc tI, .pc tI]]
abbrev ps105x0 : List Pat := cs105x0 ++ vs105x0
def j105x0 : ZJ cs105x0 vs105x0 ps105x0 := ZA _ _
def sp105x0 : ZS cs105x0 vs105x0 ps105x0 := ZP _ _
abbrev T36 : Ty := (.agg T0)
abbrev wy105x0 : Ways := ⟨[(0, [.slot 2 (.ptr 102), .slot 4 (.ptr 104), .box 104 [.pc tI, .pc tI, .pc tI, .pc tI, .pc tI, .pc tI], .box 102 [.pc tI, .pc tI, .pc tI, .pc tI, .pc tI, .pc tI]])], [], []⟩
abbrev wv105x0 : Ways := ⟨[(0, [.box 102 [.pc tI, .pc tI, .pc tI, .pc tI, .pc tI, .pc tI]])], [], []⟩
def je105x0 : ZE cs105x0 wv105x0 wy105x0 := fun id => match id with | 0 => fun c y => (c.1, (c.2.1, (c.2.2.2.2.1, y))) | _ => ZDf
def Z105x0 {α : Type} (l : RQ vs105x0 wv105x0 → α) (an : α → α → α) (c : ZD cs105x0) (v : ZD vs105x0) : α := bif (decide (v.1 < c.2.2.2.1)) then bif (decide (((0 : Int) ≤ v.1) ∧ (v.1 < ((c.2.2.1.n : Nat) : Int)))) then bif (decide ((mn v.2.1.2.1 (c.2.2.1.g (Int.toNat v.1)).2.1) < (mx v.2.1.1 (c.2.2.1.g (Int.toNat v.1)).1))) then l (.out (.pan 150 T36 ((0 : Int), ()) ())) else bif (decide ((mn v.2.1.2.2.2.1 (c.2.2.1.g (Int.toNat v.1)).2.2.2.1) < (mx v.2.1.2.2.1 (c.2.2.1.g (Int.toNat v.1)).2.2.1))) then l (.out (.pan 150 T36 ((1 : Int), ()) ())) else bif (decide ((mn v.2.1.2.2.2.2.2.1 (c.2.2.1.g (Int.toNat v.1)).2.2.2.2.2.1) < (mx v.2.1.2.2.2.2.1 (c.2.2.1.g (Int.toNat v.1)).2.2.2.2.1))) then l (.out (.pan 150 T36 ((2 : Int), ()) ())) else l (.next ((W (v.1 + (1 : Int))), (((mx v.2.1.1 (c.2.2.1.g (Int.toNat v.1)).1), ((mn v.2.1.2.1 (c.2.2.1.g (Int.toNat v.1)).2.1), ((mx v.2.1.2.2.1 (c.2.2.1.g (Int.toNat v.1)).2.2.1), ((mn v.2.1.2.2.2.1 (c.2.2.1.g (Int.toNat v.1)).2.2.2.1), ((mx v.2.1.2.2.2.2.1 (c.2.2.1.g (Int.toNat v.1)).2.2.2.2.1), ((mn v.2.1.2.2.2.2.2.1 (c.2.2.1.g (Int.toNat v.1)).2.2.2.2.2.1), ())))))), ()))) else l .bad else l (.out (.exit 0 (v.2.1, ())))
theorem z105x0 (c : ZD cs105x0) (v : ZD vs105x0) : roundQ Try.prog E0 G105 100 53 [] ps105x0 wy105x0 b105x0 [.unroll 4 []] (j105x0 c v) = Z105x0 (fun r => .leaf (r.lift j105x0 je105x0 ZI ZI c)) .any c v := by kernel_rfl
def S105x0 (c : ZD cs105x0) (v : ZD vs105x0) : RQ vs105x0 wv105x0 := Z105x0 (fun r => r) (fun _ _ => .bad) c v
theorem s105x0 (c : ZD cs105x0) (v : ZD vs105x0) : detQ (roundQ Try.prog E0 G105 100 53 [] ps105x0 wy105x0 b105x0 [.unroll 4 []] (j105x0 c v)) = (S105x0 c v).lift j105x0 je105x0 ZI ZI c := by rw [z105x0]; unfold S105x0 Z105x0; simp only [detQ, lift_bad, dqs]
def L105x0 (c : ZD cs105x0) (v : ZD vs105x0) : LQ wv105x0 := iterQ (S105x0 c) big v
theorem lo105 : loopsOf (c105) = [.loop b105x0] := by kernel_rfl
noncomputable def l105 : List Loop := [.known (loopZ 100 [] ps105x0 fun x => spreadV wy105x0 je105x0 ZI ZI [(150, T36)] false (sp105x0 x).1 (L105x0 (sp105x0 x).1 (sp105x0 x).2) wy105x0.exits)]
def Q105 {α : Type} (l : GO r105 (objPats ps105) → α) (an : α → α → α) (x : ZD ps105) : α := onExit (L105x0 ((), ((), (x.2.1, (((x.2.1.n : Nat) : Int), (((0 : Int), ((0 : Int), ((0 : Int), ((0 : Int), ((0 : Int), ((0 : Int), ())))))), ()))))) ((0 : Int), (x.1, ()))) 0 (fun u0 => l (.ok (u0.1, ()) ())) (onPanL (L105x0 ((), ((), (x.2.1, (((x.2.1.n : Nat) : Int), (((0 : Int), ((0 : Int), ((0 : Int), ((0 : Int), ((0 : Int), ((0 : Int), ())))))), ()))))) ((0 : Int), (x.1, ()))) 150 T36 (fun u1 => l (.pan 150 T36 u1.1 ())) (l .bad))
theorem q105 (x : ZD ps105) : runG Try.prog E0 G105 Try.f105 l105 100 r105 ps105 x = Q105 .leaf .any x := by kernel_rfl
def U105 (x : ZD ps105) : GO r105 (objPats ps105) := Q105 (fun r => r) (fun _ _ => .bad) x
theorem m105 (x : ZD ps105) : (runG Try.prog E0 G105 Try.f105 l105 100 r105 ps105 x).detB .bad = U105 x := by rw [q105]; unfold U105 Q105; simp only [detB_cond, Tree.detB, detB_cl, detB_onExit, detB_onPanL]
theorem h105 : GHolds Try.prog 105 (gappD Try.f105.ntmps r105 ps105 pans105 U105) := gappD_holds (E := E0) follows_ok g105 eqTy_sound keyTy_sound at105 bd105 (by kernel_rfl) (fun G' hlo hF hE => LsOK_kn (by rw [lo105]; exact .cons (loopV_ok hE hF hlo (LsOK_kn (by rw [lo105x0]; exact .unr (LsOK_kn (by rw [lo105x0x0]; exact .nil)) (.nil))) (by kernel_rfl) (by kernel_rfl) sp105x0 (fun _ => rfl) (fun _ _ => rfl) (s105x0) big) (.nil))) pans105 m105
noncomputable def c121 : Code := Try.f121.body.getD .skip
theorem at121 : Try.prog.funcs[121]? = some Try.f121 := by kernel_rfl
theorem bd121 : Try.f121.body = some c121 := by kernel_rfl
theorem cl121 : Callable Try.prog 121 := callable_of at121 (by kernel_rfl) (by kernel_rfl)
abbrev ps121 : List Pat := [.slot 0 (.ptr 8), .slot 1 (.ptr 9), .box 8 [.pc tI, .pc tI, .pc tI, .pc tI, .pc tI, .pc tI], .box 9 [.pc .bool]]
noncomputable def G121 : Ctx := Ctx.of []
theorem g121 : Sound Try.prog (G121) := sound_of (fun _ h => by cases h)
noncomputable def rest121 : Code := match c121 with | .seq _ r => r | _ => .skip
theorem gbad121 : GHolds Try.prog 121 (fun _ _ _ _ => .leaf .bad) := fun _ _ _ _ _ _ _ _ _ _ _ _ _ _ _ _ hall => absurd rfl (hall .bad rfl)
noncomputable def d121 : DApp := dapp Try.f121.ntmps ps121 (runD Try.prog E0 G121 Try.f121.ntmps rest121 [] 100 ps121 5)
noncomputable def op121 : Oper := match c121 with | .seq (.region _ ops _) _ => ops.toList.headD default | _ => default
noncomputable def rid121 : Nat := match c121 with | .seq (.region r _ _) _ => r | _ => 0
noncomputable def cal121 : Call := match op121.op with | .call c => c | _ => default
theorem dh121 : DHolds Try.prog 121 d121 := dholds_of_run (E := E0) (o := op121) (rid := rid121) (c := cal121) follows_ok g121 eqTy_sound keyTy_sound at121 (rest := rest121) (by kernel_rfl) (by kernel_rfl) (by kernel_rfl) (by kernel_rfl) (by kernel_rfl) (by kernel_rfl) (by kernel_rfl) (by kernel_rfl) (by kernel_rfl) fun G' _ _ _ => LsOK_nil
noncomputable def c111 : Code := Try.f111.body.getD .skip
theorem at111 : Try.prog.funcs[111]? = some Try.f111 := by kernel_rfl
theorem bd111 : Try.f111.body = some c111 := by kernel_rfl
theorem cl111 : Callable Try.prog 111 := callable_of at111 (by kernel_rfl) (by kernel_rfl)
abbrev T37 : Ty := (.cons tI T8)
abbrev T38 : Ty := (.cons tI T37)
abbrev T39 : Ty := (.cons T27 T38)
abbrev T40 : Ty := (.cons T7 T3)
abbrev a111 : Ty := T39
abbrev r111 : Ty := T40
noncomputable def G111 : Ctx := Ctx.of [(88, .pure k88), (94, .pure k94), (96, .pure k96), (105, .gen (gappD Try.f105.ntmps r105 ps105 pans105 U105)), (121, .gen (fun _ _ _ _ => .leaf .bad))]
theorem g111 : Sound Try.prog (G111) := sound_of (List.forall_mem_cons.2 ⟨⟨cl88, h88⟩, List.forall_mem_cons.2 ⟨⟨cl94, h94⟩, List.forall_mem_cons.2 ⟨⟨cl96, h96⟩, List.forall_mem_cons.2 ⟨⟨cl105, h105⟩, List.forall_mem_cons.2 ⟨⟨cl121, gbad121⟩, fun _ h => by cases h⟩⟩⟩⟩⟩)
theorem lo111 : loopsOf (c111) = [] := by kernel_rfl
noncomputable def l111 : List Loop := []
noncomputable def D111 : DCtx := DCtx.of [(121, d121)]
theorem ds111 : DSound Try.prog D111 := dsound_of (List.forall_mem_cons.2 ⟨⟨cl121, dh121⟩, fun _ h => by cases h⟩)
def Q111 {α : Type} (l : Option (r111).den → α) (an : α → α → α) (x : (a111).den) : α := cl (r94).dflt (M94 ((x.1.1, (x.1.2.1, (x.1.2.2.1, (x.1.2.2.2.1, (x.1.2.2.2.2.1, ((), ())))))), (x.2.1, (x.2.2.1, ())))) (fun u0 => cl (r96).dflt (M96 ((x.1.1, (x.1.2.1, (x.1.2.2.1, (x.1.2.2.2.1, (x.1.2.2.2.2.1, ((), ())))))), (x.2.1, ()))) (fun u1 => cl (r88).dflt (M88 ((x.1.1, (x.1.2.1, (x.1.2.2.1, (x.1.2.2.2.1, (x.1.2.2.2.2.1, ((), ())))))), (x.2.2.2.1, u1))) (fun u2 => onGPan (U105 (u0.1, ((⟨1, fun i => List.getD [u2.1] i u2.1⟩ : Sl _), ()))) 150 T36 (fun u3 => l (some (((0 : Int), ((0 : Int), ((0 : Int), ((0 : Int), ((0 : Int), ((0 : Int), ())))))), (false, ())))) (onOk (U105 (u0.1, ((⟨1, fun i => List.getD [u2.1] i u2.1⟩ : Sl _), ()))) (fun u4 => l (some (u4.1.1, (true, ())))) (l none))) (l none)) (l none)) (l none)
theorem q111 (x : (a111).den) : runFnD Try.prog (E0.rw [] [1105]) G111 D111 Try.f111 l111 a111 r111 x = Q111 .leaf .any x := by kernel_rfl
def M111 (x : (a111).den) : Option (r111).den := Q111 (fun r => r) (fun _ _ => none) x
theorem m111 (x : (a111).den) : (runFnD Try.prog (E0.rw [] [1105]) G111 D111 Try.f111 l111 a111 r111 x).sure = M111 x := by rw [q111]; unfold M111 Q111; simp only [Tree.sure, sus]
def p111 (x : (a111).den) : Bool := (M111 x).isSome
def v111 (x : (a111).den) : (r111).den := (M111 x).getD (r111).dflt
def k111 : Con := ⟨a111, r111, p111, v111⟩
theorem h111 : Holds Try.prog 111 k111 := holds_of_MD (E := (E0.rw [] [1105])) follows_ok g111 ds111 eqTy_sound keyTy_sound at111 bd111 (by kernel_rfl) m111 fun G' hlo hF hE => LsOK_kn (by rw [lo111]; exact .nil)
noncomputable def c109 : Code := Try.f109.body.getD .skip
theorem at109 : Try.prog.funcs[109]? = some Try.f109 := by kernel_rfl
theorem bd109 : Try.f109.body = some c109 := by kernel_rfl
theorem cl109 : Callable Try.prog 109 := callable_of at109 (by kernel_rfl) (by kernel_rfl)
abbrev r109 : Ty := T3
abbrev ps109 : List Pat := [.tr tKy, .slot 0 (.pc tI), .slot 1 (.pc tI), .slot 2 (.pc tI), .slot 3 (.pc tI), .slot 4 (.pc (.ptr tS)), .slot 5 (.ptr 73), .slot 6 (.ptr 2), .slot 7 (.ptr 167), .slot 8 (.ptr 144), .box 73 [.pc (.sl tMap), .pc tI, .pc tI, .pc tI, .pc tI, .rows 83], .box 2 [.yld], .box 167 [.clod 109 tS [73, 2, 167, 144]], .box 144 [.rows 158], .rows 83 3 tL1, .rows 158 105 tB6]
noncomputable def G109 : ((ZD ps109) → Option (Ty.den (.cons (.sl tKy) (patsTy (objPats ps109))))) → Ctx := fun R109 => Ctx.of [(94, .pure k94), (97, .pure k97), (109, .gen (gappY Try.f109.ntmps tKy r109 ps109 fun x => yT (R109 x))), (110, .row false Try.f110.ntmps a110 3 T0 R110), (111, .pure k111)]
theorem g109 (R109 : (ZD ps109) → Option (Ty.den (.cons (.sl tKy) (patsTy (objPats ps109))))) (hR : GHolds Try.prog 109 (gappY Try.f109.ntmps tKy r109 ps109 fun x => yT (R109 x))) : Sound Try.prog (G109 R109) := sound_of (List.forall_mem_cons.2 ⟨⟨cl94, h94⟩, List.forall_mem_cons.2 ⟨⟨cl97, h97⟩, List.forall_mem_cons.2 ⟨⟨cl109, hR⟩, List.forall_mem_cons.2 ⟨⟨cl110, hw110⟩, List.forall_mem_cons.2 ⟨⟨cl111, h111⟩, fun _ h => by cases h⟩⟩⟩⟩⟩)
noncomputable def b109x0 : Code := loopBody ((loopsOf (c109))[0]?)
abbrev T41 : Ty := (.ptr T17)
theorem lo109x0 : loopsOf (b109x0) = [] := by kernel_rfl
abbrev cs109x0 : List Pat := [.tr tKy, .slot 4 (.pc T41), .slot 5 (.ptr 73), .slot 6 (.ptr 2), .slot 7 (.ptr 167), .slot 8 (.ptr 144), .slot 14 (.ptr 1374), .slot 29 (.rows 83), .slot 30 (.pc tI), .box 167 [.clod 109 T17 [73, 2, 167, 144]], .rows 83 3 T0, .rows 158 105 T6]
abbrev vs109x0 : List Pat := [.slot 31 (.pc tI), .box 73 [.pc T16, .pc tI, .pc tI, .pc tI, .pc tI, .rows 83], .box 2 [.yld], .box 144 [.rows 158], .box 1374 [.pc T16, .pc tI, .pc tI, .pc tI, .pc tI, .own 2375005 79 T30]]
abbrev ps109x0 : List Pat := cs109x0 ++ vs109x0
def j109x0 : ZJ cs109x0 vs109x0 ps109x0 := ZA _ _
def sp109x0 : ZS cs109x0 vs109x0 ps109x0 := ZP _ _
abbrev wy109x0 : Ways := ⟨[(0, [.tr tKy, .slot 4 (.pc T41), .slot 5 (.ptr 73), .slot 6 (.ptr 2), .slot 7 (.ptr 167), .slot 8 (.ptr 144), .slot 14 (.ptr 1374), .box 167 [.clod 109 T17 [73, 2, 167, 144]], .rows 83 3 T0, .rows 158 105 T6, .box 73 [.pc T16, .pc tI, .pc tI, .pc tI, .pc tI, .rows 83], .box 2 [.yld], .box 144 [.rows 158], .box 1374 [.pc T16, .pc tI, .pc tI, .pc tI, .pc tI, .own 2375005 79 T30]])], [.tr tKy], [.tr tKy]⟩
abbrev wv109x0 : Ways := ⟨[(0, [.box 73 [.pc T16, .pc tI, .pc tI, .pc tI, .pc tI, .rows 83], .box 2 [.yld], .box 144 [.rows 158], .box 1374 [.pc T16, .pc tI, .pc tI, .pc tI, .pc tI, .own 2375005 79 T30]])], [], []⟩
def je109x0 : ZE cs109x0 wv109x0 wy109x0 := fun id => match id with | 0 => fun c y => (c.1, (c.2.1, (c.2.2.1, (c.2.2.2.1, (c.2.2.2.2.1, (c.2.2.2.2.2.1, (c.2.2.2.2.2.2.1, (c.2.2.2.2.2.2.2.2.2.1, (c.2.2.2.2.2.2.2.2.2.2.1, (c.2.2.2.2.2.2.2.2.2.2.2.1, y)))))))))) | _ => ZDf
def jr109x0 : (ZD cs109x0) → (patsTy (wv109x0).ret).den → (patsTy (wy109x0).ret).den := fun c y => (c.1, y)
def jp109x0 : (ZD cs109x0) → (patsTy (wv109x0).pan).den → (patsTy (wy109x0).pan).den := fun c y => (c.1, y)
def Z109x0 (R109 : (ZD ps109) → Option (Ty.den (.cons (.sl tKy) (patsTy (objPats ps109))))) {α : Type} (l : RQ vs109x0 wv109x0 → α) (an : α → α → α) (c : ZD cs109x0) (v : ZD vs109x0) : α := bif (decide (v.1 < c.2.2.2.2.2.2.2.2.1)) then bif (decide (((0 : Int) ≤ v.1) ∧ (v.1 < ((c.2.2.2.2.2.2.2.2.2.2.1.n : Nat) : Int)))) then cl (⟨0, fun _ => Ty.dflt T0⟩ : Sl (Ty.den T0)) (R110 ((⟨(c.2.2.2.2.2.2.2.2.2.2.1.g (Int.toNat v.1)).n, fun i => ((c.2.2.2.2.2.2.2.2.2.2.1.g (Int.toNat v.1)).g i)⟩ : Sl _), ())) (fun u0 => bif (decide (((v.2.2.2.2.1.2.2.2.2.2.1.n + 1) * 24) ≤ 140737488355328)) then l (.next ((W (v.1 + (1 : Int))), ((v.2.1.1, (v.2.1.2.1, (v.2.1.2.2.1, (v.2.1.2.2.2.1, (v.2.1.2.2.2.2.1, ((), ())))))), (((), ()), (((), ()), ((v.2.2.2.2.1.1, (v.2.2.2.2.1.2.1, (v.2.2.2.2.1.2.2.1, (v.2.2.2.2.1.2.2.2.1, (v.2.2.2.2.1.2.2.2.2.1, ((catSl v.2.2.2.2.1.2.2.2.2.2.1 (⟨1, fun i => List.getD [(u0, ())] i (u0, ())⟩ : Sl (Ty.den T30))), ())))))), ())))))) else l .bad) (l .bad) else l .bad else l (.out (.exit 0 ((v.2.1.1, (v.2.1.2.1, (v.2.1.2.2.1, (v.2.1.2.2.2.1, (v.2.1.2.2.2.2.1, ((), ())))))), (((), ()), (((), ()), (v.2.2.2.2.1, ()))))))
theorem z109x0 (R109 : (ZD ps109) → Option (Ty.den (.cons (.sl tKy) (patsTy (objPats ps109))))) (c : ZD cs109x0) (v : ZD vs109x0) : roundQ Try.prog E0 (G109 R109) 1000 180 [] ps109x0 wy109x0 b109x0 [] (j109x0 c v) = Z109x0 R109 (fun r => .leaf (r.lift j109x0 je109x0 jr109x0 jp109x0 c)) .any c v := by kernel_rfl
def S109x0 (R109 : (ZD ps109) → Option (Ty.den (.cons (.sl tKy) (patsTy (objPats ps109))))) (c : ZD cs109x0) (v : ZD vs109x0) : RQ vs109x0 wv109x0 := Z109x0 R109 (fun r => r) (fun _ _ => .bad) c v
theorem s109x0 (R109 : (ZD ps109) → Option (Ty.den (.cons (.sl tKy) (patsTy (objPats ps109))))) (c : ZD cs109x0) (v : ZD vs109x0) : detQ (roundQ Try.prog E0 (G109 R109) 1000 180 [] ps109x0 wy109x0 b109x0 [] (j109x0 c v)) = (S109x0 R109 c v).lift j109x0 je109x0 jr109x0 jp109x0 c := by rw [z109x0]; unfold S109x0 Z109x0; simp only [detQ, lift_bad, dqs]
def L109x0 (R109 : (ZD ps109) → Option (Ty.den (.cons (.sl tKy) (patsTy (objPats ps109))))) (c : ZD cs109x0) (v : ZD vs109x0) : LQ wv109x0 := iterQ (S109x0 R109 c) big v
noncomputable def b109x1 : Code := loopBody ((loopsOf (c109))[1]?)
theorem lo109x1 : loopsOf (b109x1) = [] := by kernel_rfl
abbrev cs109x1 : List Pat := [.tr tKy, .slot 0 (.pc tI), .slot 2 (.pc tI), .slot 4 (.pc T41), .slot 5 (.ptr 73), .slot 6 (.ptr 2), .slot 7 (.ptr 167), .slot 8 (.ptr 144), .slot 62 (.pc tI), .box 167 [.clod 109 T17 [73, 2, 167, 144]], .rows 83 3 T0, .rows 158 105 T6]
abbrev vs109x1 : List Pat := [.slot 3 (.pc tI), .slot 63 (.pc tI), .box 73 [.pc T16, .pc tI, .pc tI, .pc tI, .pc tI, .rows 83], .box 2 [.yld], .box 144 [.rows 158]]
abbrev ps109x1 : List Pat := cs109x1 ++ vs109x1
def j109x1 : ZJ cs109x1 vs109x1 ps109x1 := ZA _ _
def sp109x1 : ZS cs109x1 vs109x1 ps109x1 := ZP _ _
abbrev wy109x1 : Ways := ⟨[(2, [.tr tKy, .slot 0 (.pc tI), .slot 2 (.pc tI), .slot 4 (.pc T41), .slot 5 (.ptr 73), .slot 6 (.ptr 2), .slot 7 (.ptr 167), .slot 8 (.ptr 144), .box 167 [.clod 109 T17 [73, 2, 167, 144]], .rows 83 3 T0, .rows 158 105 T6, .slot 3 (.pc tI), .box 73 [.pc T16, .pc tI, .pc tI, .pc tI, .pc tI, .rows 83], .box 2 [.yld], .box 144 [.rows 158]])], [.tr tKy], [.tr tKy]⟩
abbrev wv109x1 : Ways := ⟨[(2, [.slot 3 (.pc tI), .box 73 [.pc T16, .pc tI, .pc tI, .pc tI, .pc tI, .rows 83], .box 2 [.yld], .box 144 [.rows 158]])], [], []⟩
def je109x1 : ZE cs109x1 wv109x1 wy109x1 := fun id => match id with | 2 => fun c y => (c.1, (c.2.1, (c.2.2.1, (c.2.2.2.1, (c.2.2.2.2.1, (c.2.2.2.2.2.1, (c.2.2.2.2.2.2.1, (c.2.2.2.2.2.2.2.1, (c.2.2.2.2.2.2.2.2.2.1, (c.2.2.2.2.2.2.2.2.2.2.1, (c.2.2.2.2.2.2.2.2.2.2.2.1, y))))))))))) | _ => ZDf
def jr109x1 : (ZD cs109x1) → (patsTy (wv109x1).ret).den → (patsTy (wy109x1).ret).den := fun c y => (c.1, y)
def jp109x1 : (ZD cs109x1) → (patsTy (wv109x1).pan).den → (patsTy (wy109x1).pan).den := fun c y => (c.1, y)
def Z109x1 (R109 : (ZD ps109) → Option (Ty.den (.cons (.sl tKy) (patsTy (objPats ps109))))) {α : Type} (l : RQ vs109x1 wv109x1 → α) (an : α → α → α) (c : ZD cs109x1) (v : ZD vs109x1) : α := bif (decide (v.2.1 < c.2.2.2.2.2.2.2.2.1)) then bif (decide (((0 : Int) ≤ c.2.1) ∧ (c.2.1 < ((c.2.2.2.2.2.2.2.2.2.2.1.n : Nat) : Int)))) then cl (r97).dflt (M97 ((⟨(c.2.2.2.2.2.2.2.2.2.2.1.g (Int.toNat c.2.1)).n, fun i => ((c.2.2.2.2.2.2.2.2.2.2.1.g (Int.toNat c.2.1)).g i)⟩ : Sl _), (v.2.1, ()))) (fun u1 => bif (!u1.1) then l (.next ((W (v.1 + (1 : Int))), ((W (v.2.1 + (1 : Int))), ((v.2.2.1.1, (v.2.2.1.2.1, (v.2.2.1.2.2.1, (v.2.2.1.2.2.2.1, (v.2.2.1.2.2.2.2.1, ((), ())))))), (((), ()), (((), ()), ())))))) else l (.next (v.1, ((W (v.2.1 + (1 : Int))), ((v.2.2.1.1, (v.2.2.1.2.1, (v.2.2.1.2.2.1, (v.2.2.1.2.2.2.1, (v.2.2.1.2.2.2.2.1, ((), ())))))), (((), ()), (((), ()), ()))))))) (l .bad) else l .bad else l (.out (.exit 2 (v.1, ((v.2.2.1.1, (v.2.2.1.2.1, (v.2.2.1.2.2.1, (v.2.2.1.2.2.2.1, (v.2.2.1.2.2.2.2.1, ((), ())))))), (((), ()), (((), ()), ()))))))
theorem z109x1 (R109 : (ZD ps109) → Option (Ty.den (.cons (.sl tKy) (patsTy (objPats ps109))))) (c : ZD cs109x1) (v : ZD vs109x1) : roundQ Try.prog E0 (G109 R109) 1000 180 [] ps109x1 wy109x1 b109x1 [] (j109x1 c v) = Z109x1 R109 (fun r => .leaf (r.lift j109x1 je109x1 jr109x1 jp109x1 c)) .any c v := by kernel_rfl
def S109x1 (R109 : (ZD ps109) → Option (Ty.den (.cons (.sl tKy) (patsTy (objPats ps109))))) (c : ZD cs109x1) (v : ZD vs109x1) : RQ vs109x1 wv109x1 := Z109x1 R109 (fun r => r) (fun _ _ => .bad) c v
theorem s109x1 (R109 : (ZD ps109) → Option (Ty.den (.cons (.sl tKy) (patsTy (objPats ps109))))) (c : ZD cs109x1) (v : ZD vs109x1) : detQ (roundQ Try.prog E0 (G109 R109) 1000 180 [] ps109x1 wy109x1 b109x1 [] (j109x1 c v)) = (S109x1 R109 c v).lift j109x1 je109x1 jr109x1 jp109x1 c := by rw [z109x1]; unfold S109x1 Z109x1; simp only [detQ, lift_bad, dqs]
def L109x1 (R109 : (ZD ps109) → Option (Ty.den (.cons (.sl tKy) (patsTy (objPats ps109))))) (c : ZD cs109x1) (v : ZD vs109x1) : LQ wv109x1 := iterQ (S109x1 R109 c) big v
noncomputable def b109x2 : Code := loopBody ((loopsOf (c109))[2]?)
abbrev ps109x2 : List Pat := [.tr tKy, .slot 0 (.pc tI), .slot 1 (.pc tI), .slot 2 (.pc tI), .slot 3 (.pc tI), .slot 4 (.pc T41), .slot 5 (.ptr 73), .slot 6 (.ptr 2), .slot 7 (.ptr 167), .slot 8 (.ptr 144), .slot 126 (.pc tI), .slot 127 (.pc tI), .box 73 [.pc T16, .pc tI, .pc tI, .pc tI, .pc tI, .rows 83], .box 2 [.yld], .box 167 [.clod 109 T17 [73, 2, 167, 144]], .box 144 [.rows 158], .rows 83 3 T0, .rows 158 105 T6]
theorem lo109x2 : loopsOf (b109x2) = [] := by kernel_rfl
abbrev rq109x2 : List Pat := [.slot 13 (.pc .bool)]
def sy109x2 : (ZD rq109x2) := (false, ())
abbrev wy109x2 : Ways := ⟨[(4, [.tr tKy, .slot 4 (.pc T41), .slot 5 (.ptr 73), .slot 6 (.ptr 2), .slot 7 (.ptr 167), .slot 8 (.ptr 144), .box 73 [.pc T16, .pc tI, .pc tI, .pc tI, .pc tI, .rows 83], .box 2 [.yld], .box 167 [.clod 109 T17 [73, 2, 167, 144]], .box 144 [.rows 158], .rows 83 3 T0, .rows 158 105 T6])], [.tr tKy, .slot 13 (.pc .bool)], [.tr tKy]⟩
abbrev T42 : Ty := (.sl T30)
abbrev T43 : Ty := (.cons T42 .nil)
abbrev T44 : Ty := (.cons tI T43)
abbrev T45 : Ty := (.cons tI T44)
abbrev T46 : Ty := (.cons tI T45)
abbrev T47 : Ty := (.cons tI T46)
abbrev T48 : Ty := (.cons T16 T47)
abbrev T49 : Ty := (.agg T48)
abbrev T50 : Ty := (.cons T49 .nil)
abbrev T51 : Ty := (.sl T50)
abbrev T52 : Ty := (.cons .nil .nil)
abbrev T53 : Ty := (.cons tI T52)
abbrev T54 : Ty := (.cons tI T53)
abbrev T55 : Ty := (.cons tI T54)
abbrev T56 : Ty := (.cons tI T55)
abbrev T57 : Ty := (.cons T16 T56)
abbrev T58 : Ty := (.cons T17 .nil)
abbrev T59 : Ty := (.sl (.sl T0))
abbrev T60 : Ty := (.sl (.sl T6))
abbrev T61 : Ty := (.cons T60 .nil)
abbrev T62 : Ty := (.cons T59 T61)
abbrev T63 : Ty := (.cons T52 T62)
abbrev T64 : Ty := (.cons T58 T63)
abbrev T65 : Ty := (.cons T52 T64)
abbrev T66 : Ty := (.cons T57 T65)
abbrev T67 : Ty := (.cons T51 T66)
def Z109x2 (R109 : (ZD ps109) → Option (Ty.den (.cons (.sl tKy) (patsTy (objPats ps109))))) {α : Type} (l : YR ps109x2 (wayP wy109x2 4) rq109x2 tKy → α) (an : α → α → α) (x : ZD ps109x2) : α := bif (decide (x.2.2.2.2.2.2.2.2.2.2.2.1 < x.2.2.2.2.2.2.2.2.2.2.1)) then bif (decide (((0 : Int) ≤ x.2.1) ∧ (x.2.1 < ((x.2.2.2.2.2.2.2.2.2.2.2.2.2.2.2.2.1.n : Nat) : Int)))) then bif (decide (((0 : Int) ≤ x.2.2.1) ∧ (x.2.2.1 ≤ (((x.2.2.2.2.2.2.2.2.2.2.2.2.2.2.2.2.1.g (Int.toNat x.2.1)).n : Nat) : Int)))) then cl (r97).dflt (M97 ((⟨(Int.toNat x.2.2.1), fun i => ((x.2.2.2.2.2.2.2.2.2.2.2.2.2.2.2.2.1.g (Int.toNat x.2.1)).g i)⟩ : Sl _), (x.2.2.2.2.2.2.2.2.2.2.2.1, ()))) (fun u2 => bif u2.1 then l (.next (x.1, (x.2.1, (x.2.2.1, (x.2.2.2.1, (x.2.2.2.2.1, (x.2.2.2.2.2.1, ((), ((), ((), ((), (x.2.2.2.2.2.2.2.2.2.2.1, ((W (x.2.2.2.2.2.2.2.2.2.2.2.1 + (1 : Int))), ((x.2.2.2.2.2.2.2.2.2.2.2.2.1.1, (x.2.2.2.2.2.2.2.2.2.2.2.2.1.2.1, (x.2.2.2.2.2.2.2.2.2.2.2.2.1.2.2.1, (x.2.2.2.2.2.2.2.2.2.2.2.2.1.2.2.2.1, (x.2.2.2.2.2.2.2.2.2.2.2.2.1.2.2.2.2.1, ((), ())))))), (((), ()), (x.2.2.2.2.2.2.2.2.2.2.2.2.2.2.1, (((), ()), x.2.2.2.2.2.2.2.2.2.2.2.2.2.2.2.2))))))))))))))))) else bif (decide (((0 : Int) ≤ (W (x.2.1 - (1 : Int)))) ∧ ((W (x.2.1 - (1 : Int))) < ((x.2.2.2.2.2.2.2.2.2.2.2.2.2.2.2.2.2.1.n : Nat) : Int)))) then bif (decide (((0 : Int) ≤ x.2.2.2.2.2.2.2.2.2.2.2.1) ∧ (x.2.2.2.2.2.2.2.2.2.2.2.1 < (((x.2.2.2.2.2.2.2.2.2.2.2.2.2.2.2.2.2.1.g (Int.toNat (W (x.2.1 - (1 : Int))))).n : Nat) : Int)))) then cl (r111).dflt (M111 ((x.2.2.2.2.2.2.2.2.2.2.2.2.1.1, (x.2.2.2.2.2.2.2.2.2.2.2.2.1.2.1, (x.2.2.2.2.2.2.2.2.2.2.2.2.1.2.2.1, (x.2.2.2.2.2.2.2.2.2.2.2.2.1.2.2.2.1, (x.2.2.2.2.2.2.2.2.2.2.2.2.1.2.2.2.2.1, ((), ())))))), (x.2.1, (x.2.2.1, (((x.2.2.2.2.2.2.2.2.2.2.2.2.2.2.2.2.2.1.g (Int.toNat (W (x.2.1 - (1 : Int))))).g (Int.toNat x.2.2.2.2.2.2.2.2.2.2.2.1)), ()))))) (fun u3 => bif (!u3.2.1) then l (.next (x.1, (x.2.1, (x.2.2.1, (x.2.2.2.1, (x.2.2.2.2.1, (x.2.2.2.2.2.1, ((), ((), ((), ((), (x.2.2.2.2.2.2.2.2.2.2.1, ((W (x.2.2.2.2.2.2.2.2.2.2.2.1 + (1 : Int))), ((x.2.2.2.2.2.2.2.2.2.2.2.2.1.1, (x.2.2.2.2.2.2.2.2.2.2.2.2.1.2.1, (x.2.2.2.2.2.2.2.2.2.2.2.2.1.2.2.1, (x.2.2.2.2.2.2.2.2.2.2.2.2.1.2.2.2.1, (x.2.2.2.2.2.2.2.2.2.2.2.2.1.2.2.2.2.1, ((), ())))))), (((), ()), (x.2.2.2.2.2.2.2.2.2.2.2.2.2.2.1, (((), ()), x.2.2.2.2.2.2.2.2.2.2.2.2.2.2.2.2))))))))))))))))) else bif (decide (((0 : Int) ≤ x.2.1) ∧ (x.2.1 < ((x.2.2.2.2.2.2.2.2.2.2.2.2.2.2.2.2.1.n : Nat) : Int)))) then bif (decide (((0 : Int) ≤ x.2.1) ∧ (x.2.1 < ((x.2.2.2.2.2.2.2.2.2.2.2.2.2.2.2.2.2.1.n : Nat) : Int)))) then bif (decide (((0 : Int) ≤ x.2.2.1) ∧ (x.2.2.1 < (((x.2.2.2.2.2.2.2.2.2.2.2.2.2.2.2.2.1.g (Int.toNat x.2.1)).n : Nat) : Int)))) then bif (decide (((0 : Int) ≤ x.2.2.1) ∧ (x.2.2.1 < (((x.2.2.2.2.2.2.2.2.2.2.2.2.2.2.2.2.2.1.g (Int.toNat x.2.1)).n : Nat) : Int)))) then cl (Ty.dflt T67) (R109 (x.1, (x.2.1, ((W (x.2.2.1 + (1 : Int))), (x.2.2.2.1, (x.2.2.2.2.1, (x.2.2.2.2.2.2.2.2.2.2.2.2.2.2.1.1, ((), ((), ((), ((), ((x.2.2.2.2.2.2.2.2.2.2.2.2.1.1, (x.2.2.2.2.2.2.2.2.2.2.2.2.1.2.1, (x.2.2.2.2.2.2.2.2.2.2.2.2.1.2.2.1, (x.2.2.2.2.2.2.2.2.2.2.2.2.1.2.2.2.1, (x.2.2.2.2.2.2.2.2.2.2.2.2.1.2.2.2.2.1, ((), ())))))), (((), ()), (x.2.2.2.2.2.2.2.2.2.2.2.2.2.2.1, (((), ()), ((setSl x.2.2.2.2.2.2.2.2.2.2.2.2.2.2.2.2.1 (Int.toNat x.2.1) (setSl (x.2.2.2.2.2.2.2.2.2.2.2.2.2.2.2.2.1.g (Int.toNat x.2.1)) (Int.toNat x.2.2.1) (x.2.2.2.2.2.2.2.2.2.2.2.1, ()))), ((setSl x.2.2.2.2.2.2.2.2.2.2.2.2.2.2.2.2.2.1 (Int.toNat x.2.1) (setSl (x.2.2.2.2.2.2.2.2.2.2.2.2.2.2.2.2.2.1.g (Int.toNat x.2.1)) (Int.toNat x.2.2.1) u3.1)), ()))))))))))))))))) (fun u4 => an (l (.next (u4.1, (x.2.1, (x.2.2.1, (x.2.2.2.1, (x.2.2.2.2.1, (x.2.2.2.2.2.1, ((), ((), ((), ((), (x.2.2.2.2.2.2.2.2.2.2.1, ((W (x.2.2.2.2.2.2.2.2.2.2.2.1 + (1 : Int))), ((u4.2.1.1, (u4.2.1.2.1, (u4.2.1.2.2.1, (u4.2.1.2.2.2.1, (u4.2.1.2.2.2.2.1, ((), ())))))), (((), ()), (u4.2.2.2.1, (((), ()), u4.2.2.2.2.2)))))))))))))))))) (an (l (.stop u4.1 (false, ()))) (l (.foreign u4.1)))) (l .bad) else l .bad else l .bad else l .bad else l .bad) (l .bad) else l .bad else l .bad) (l .bad) else l .bad else l .bad else l (.exit (x.1, (x.2.2.2.2.2.1, ((), ((), ((), ((), ((x.2.2.2.2.2.2.2.2.2.2.2.2.1.1, (x.2.2.2.2.2.2.2.2.2.2.2.2.1.2.1, (x.2.2.2.2.2.2.2.2.2.2.2.2.1.2.2.1, (x.2.2.2.2.2.2.2.2.2.2.2.2.1.2.2.2.1, (x.2.2.2.2.2.2.2.2.2.2.2.2.1.2.2.2.2.1, ((), ())))))), (((), ()), (x.2.2.2.2.2.2.2.2.2.2.2.2.2.2.1, (((), ()), x.2.2.2.2.2.2.2.2.2.2.2.2.2.2.2.2)))))))))))
theorem z109x2 (R109 : (ZD ps109) → Option (Ty.den (.cons (.sl tKy) (patsTy (objPats ps109))))) (x : ZD ps109x2) : roundT true Try.prog E0 (G109 R109) 1000 180 [] ps109x2 wy109x2 b109x2 [] x = Z109x2 R109 (fun r => .leaf (r.res 4)) .any x := by kernel_rfl
def S109x2 (R109 : (ZD ps109) → Option (Ty.den (.cons (.sl tKy) (patsTy (objPats ps109))))) (x : ZD ps109x2) : RQ ps109x2 wy109x2 := Z109x2 R109 (YR.rq 4) (fun a _ => a) x
def L109x2 (R109 : (ZD ps109) → Option (Ty.den (.cons (.sl tKy) (patsTy (objPats ps109))))) (x : ZD ps109x2) : LQ wy109x2 := iterQ (S109x2 R109) big x
-- y: ls109x2 : .nil
def te109x2 : (ZD (wayP wy109x2 4)) → Sl (Ty.den tKy) := fun y => y.1
def tp109x2 : (ZD ps109x2) → Sl (Ty.den tKy) := fun x => x.1
theorem lo109 : loopsOf (c109) = [.loop b109x0, .loop b109x1, .loop b109x2] := by kernel_rfl
noncomputable def l109 : ((ZD ps109) → Option (Ty.den (.cons (.sl tKy) (patsTy (objPats ps109))))) → List Loop := fun R109 => [.known (loopZ 1000 [] ps109x0 fun x => spreadV wy109x0 je109x0 jr109x0 jp109x0 [] false (sp109x0 x).1 (L109x0 R109 (sp109x0 x).1 (sp109x0 x).2) wy109x0.exits), .known (loopZ 1000 [] ps109x1 fun x => spreadV wy109x1 je109x1 jr109x1 jp109x1 [] false (sp109x1 x).1 (L109x1 R109 (sp109x1 x).1 (sp109x1 x).2) wy109x1.exits), .known (loopF 1000 [] ps109x2 fun x => yF 4 te109x2 rq109x2 sy109x2 (L109x2 R109 x))]
def Q109 (R109 : (ZD ps109) → Option (Ty.den (.cons (.sl tKy) (patsTy (objPats ps109))))) {α : Type} (l : GY tKy r109 (objPats ps109) → α) (an : α → α → α) (x : ZD ps109) : α := bif (decide (x.2.1 = ((x.2.2.2.2.2.1.1.n : Nat) : Int))) then onExit (L109x0 R109 (x.1, (x.2.2.2.2.2.1, ((), ((), ((), ((), ((), ((), (((x.2.2.2.2.2.2.2.2.2.2.2.2.2.2.1.n : Nat) : Int), (x.2.2.2.2.2.2.2.2.2.2.2.2.1, x.2.2.2.2.2.2.2.2.2.2.2.2.2.2)))))))))) ((0 : Int), ((x.2.2.2.2.2.2.2.2.2.2.1.1, (x.2.2.2.2.2.2.2.2.2.2.1.2.1, (x.2.2.2.2.2.2.2.2.2.2.1.2.2.1, (x.2.2.2.2.2.2.2.2.2.2.1.2.2.2.1, (x.2.2.2.2.2.2.2.2.2.2.1.2.2.2.2.1, ((), ())))))), (((), ()), (((), ()), ((x.2.2.2.2.2.2.2.2.2.2.1.1, (x.2.2.2.2.2.2.2.2.2.2.1.2.1, (x.2.2.2.2.2.2.2.2.2.2.1.2.2.1, (x.2.2.2.2.2.2.2.2.2.2.1.2.2.2.1, (x.2.2.2.2.2.2.2.2.2.2.1.2.2.2.2.1, ((⟨0, fun i => ((⟨0, fun i => ((0 : Int), ())⟩ : Sl _), ())⟩ : Sl _), ())))))), ())))))) 0 (fun u5 => an (l (bif (bif (Nat.beq x.2.2.2.2.2.2.2.2.2.2.2.2.2.2.1.n x.2.2.2.2.2.2.2.2.2.2.2.2.2.2.1.n) then (bif (Nat.beq x.2.2.2.2.2.2.2.2.2.2.2.2.2.2.2.1.n x.2.2.2.2.2.2.2.2.2.2.2.2.2.2.2.1.n) then true else false) else false) then (.ok (true, ()) (catSl x.1 (⟨1, fun i => (u5.2.2.2.1, ())⟩ : Sl (Ty.den T50))) ((u5.1.1, (u5.1.2.1, (u5.1.2.2.1, (u5.1.2.2.2.1, (u5.1.2.2.2.2.1, ((), ())))))), (((), ()), (x.2.2.2.2.2.2.2.2.2.2.2.2.1, (((), ()), x.2.2.2.2.2.2.2.2.2.2.2.2.2.2))))) else .bad)) (an (l (.stop (false, ()) (catSl x.1 (⟨1, fun i => (u5.2.2.2.1, ())⟩ : Sl (Ty.den T50))))) (l (.foreign (catSl x.1 (⟨1, fun i => (u5.2.2.2.1, ())⟩ : Sl (Ty.den T50))))))) (l .bad) else bif (decide (((0 : Int) ≤ x.2.1) ∧ (x.2.1 < ((x.2.2.2.2.2.1.1.n : Nat) : Int)))) then bif (decide (x.2.2.1 = (((x.2.2.2.2.2.1.1.g (Int.toNat x.2.1)).2.1.n : Nat) : Int))) then bif (decide (((0 : Int) ≤ (W (x.2.1 - (1 : Int)))) ∧ ((W (x.2.1 - (1 : Int))) < ((x.2.2.2.2.2.1.1.n : Nat) : Int)))) then onExit (L109x1 R109 (x.1, (x.2.1, (x.2.2.2.1, (x.2.2.2.2.2.1, ((), ((), ((), ((), ((((x.2.2.2.2.2.1.1.g (Int.toNat (W (x.2.1 - (1 : Int))))).2.1.n : Nat) : Int), (x.2.2.2.2.2.2.2.2.2.2.2.2.1, x.2.2.2.2.2.2.2.2.2.2.2.2.2.2)))))))))) (x.2.2.2.2.1, ((0 : Int), ((x.2.2.2.2.2.2.2.2.2.2.1.1, (x.2.2.2.2.2.2.2.2.2.2.1.2.1, (x.2.2.2.2.2.2.2.2.2.2.1.2.2.1, (x.2.2.2.2.2.2.2.2.2.2.1.2.2.2.1, (x.2.2.2.2.2.2.2.2.2.2.1.2.2.2.2.1, ((), ())))))), (((), ()), (((), ()), ())))))) 2 (fun u6 => bif (decide (x.2.2.2.2.2.1.2.2.2.2.1 < u6.1)) then l (bif (bif (Nat.beq x.2.2.2.2.2.2.2.2.2.2.2.2.2.2.1.n x.2.2.2.2.2.2.2.2.2.2.2.2.2.2.1.n) then (bif (Nat.beq x.2.2.2.2.2.2.2.2.2.2.2.2.2.2.2.1.n x.2.2.2.2.2.2.2.2.2.2.2.2.2.2.2.1.n) then true else false) else false) then (.ok (true, ()) x.1 ((u6.2.1.1, (u6.2.1.2.1, (u6.2.1.2.2.1, (u6.2.1.2.2.2.1, (u6.2.1.2.2.2.2.1, ((), ())))))), (((), ()), (x.2.2.2.2.2.2.2.2.2.2.2.2.1, (((), ()), x.2.2.2.2.2.2.2.2.2.2.2.2.2.2))))) else .bad) else cl (Ty.dflt T67) (R109 (x.1, ((W (x.2.1 + (1 : Int))), ((0 : Int), (x.2.2.2.1, (u6.1, (x.2.2.2.2.2.2.2.2.2.2.2.2.1.1, ((), ((), ((), ((), ((u6.2.1.1, (u6.2.1.2.1, (u6.2.1.2.2.1, (u6.2.1.2.2.2.1, (u6.2.1.2.2.2.2.1, ((), ())))))), (((), ()), (x.2.2.2.2.2.2.2.2.2.2.2.2.1, (((), ()), x.2.2.2.2.2.2.2.2.2.2.2.2.2.2))))))))))))))) (fun u7 => an (l (bif (bif (Nat.beq x.2.2.2.2.2.2.2.2.2.2.2.2.2.2.1.n u7.2.2.2.2.2.1.n) then (bif (Nat.beq x.2.2.2.2.2.2.2.2.2.2.2.2.2.2.2.1.n u7.2.2.2.2.2.2.1.n) then true else false) else false) then (.ok (true, ()) u7.1 ((u7.2.1.1, (u7.2.1.2.1, (u7.2.1.2.2.1, (u7.2.1.2.2.2.1, (u7.2.1.2.2.2.2.1, ((), ())))))), (((), ()), (u7.2.2.2.1, (((), ()), u7.2.2.2.2.2))))) else .bad)) (an (l (.stop (false, ()) u7.1)) (l (.foreign u7.1)))) (l .bad)) (l .bad) else l .bad else bif (decide (x.2.2.2.1 < x.2.2.2.2.2.1.2.2.2.1)) then bif (decide (((0 : Int) ≤ x.2.1) ∧ (x.2.1 < ((x.2.2.2.2.2.2.2.2.2.2.2.2.2.2.1.n : Nat) : Int)))) then bif (decide (((0 : Int) ≤ x.2.1) ∧ (x.2.1 < ((x.2.2.2.2.2.2.2.2.2.2.2.2.2.2.2.1.n : Nat) : Int)))) then cl (r94).dflt (M94 ((x.2.2.2.2.2.2.2.2.2.2.1.1, (x.2.2.2.2.2.2.2.2.2.2.1.2.1, (x.2.2.2.2.2.2.2.2.2.2.1.2.2.1, (x.2.2.2.2.2.2.2.2.2.2.1.2.2.2.1, (x.2.2.2.2.2.2.2.2.2.2.1.2.2.2.2.1, ((), ())))))), (x.2.1, (x.2.2.1, ())))) (fun u8 => bif (decide (((0 : Int) ≤ x.2.2.1) ∧ (x.2.2.1 < (((x.2.2.2.2.2.2.2.2.2.2.2.2.2.2.1.g (Int.toNat x.2.1)).n : Nat) : Int)))) then bif (decide (((0 : Int) ≤ x.2.2.1) ∧ (x.2.2.1 < (((x.2.2.2.2.2.2.2.2.2.2.2.2.2.2.2.1.g (Int.toNat x.2.1)).n : Nat) : Int)))) then cl (Ty.dflt T67) (R109 (x.1, (x.2.1, ((W (x.2.2.1 + (1 : Int))), ((W (x.2.2.2.1 + (1 : Int))), (x.2.2.2.2.1, (x.2.2.2.2.2.2.2.2.2.2.2.2.1.1, ((), ((), ((), ((), ((x.2.2.2.2.2.2.2.2.2.2.1.1, (x.2.2.2.2.2.2.2.2.2.2.1.2.1, (x.2.2.2.2.2.2.2.2.2.2.1.2.2.1, (x.2.2.2.2.2.2.2.2.2.2.1.2.2.2.1, (x.2.2.2.2.2.2.2.2.2.2.1.2.2.2.2.1, ((), ())))))), (((), ()), (x.2.2.2.2.2.2.2.2.2.2.2.2.1, (((), ()), ((setSl x.2.2.2.2.2.2.2.2.2.2.2.2.2.2.1 (Int.toNat x.2.1) (setSl (x.2.2.2.2.2.2.2.2.2.2.2.2.2.2.1.g (Int.toNat x.2.1)) (Int.toNat x.2.2.1) ((-1 : Int), ()))), ((setSl x.2.2.2.2.2.2.2.2.2.2.2.2.2.2.2.1 (Int.toNat x.2.1) (setSl (x.2.2.2.2.2.2.2.2.2.2.2.2.2.2.2.1.g (Int.toNat x.2.1)) (Int.toNat x.2.2.1) u8.1)), ()))))))))))))))))) (fun u9 => an (bif (decide (((0 : Int) ≤ (W (x.2.1 - (1 : Int)))) ∧ ((W (x.2.1 - (1 : Int))) < ((x.2.2.2.2.2.1.1.n : Nat) : Int)))) then onExit (L109x2 R109 (u9.1, (x.2.1, (x.2.2.1, (x.2.2.2.1, (x.2.2.2.2.1, (x.2.2.2.2.2.1, ((), ((), ((), ((), ((((x.2.2.2.2.2.1.1.g (Int.toNat (W (x.2.1 - (1 : Int))))).2.1.n : Nat) : Int), ((0 : Int), ((u9.2.1.1, (u9.2.1.2.1, (u9.2.1.2.2.1, (u9.2.1.2.2.2.1, (u9.2.1.2.2.2.2.1, ((), ())))))), (((), ()), (u9.2.2.2.1, (((), ()), u9.2.2.2.2.2))))))))))))))))) 4 (fun u10 => an (l (bif (bif (Nat.beq x.2.2.2.2.2.2.2.2.2.2.2.2.2.2.1.n u10.2.2.2.2.2.2.2.2.2.2.1.n) then (bif (Nat.beq x.2.2.2.2.2.2.2.2.2.2.2.2.2.2.2.1.n u10.2.2.2.2.2.2.2.2.2.2.2.1.n) then true else false) else false) then (.ok (true, ()) u10.1 ((u10.2.2.2.2.2.2.1.1, (u10.2.2.2.2.2.2.1.2.1, (u10.2.2.2.2.2.2.1.2.2.1, (u10.2.2.2.2.2.2.1.2.2.2.1, (u10.2.2.2.2.2.2.1.2.2.2.2.1, ((), ())))))), (((), ()), (u10.2.2.2.2.2.2.2.2.1, (((), ()), u10.2.2.2.2.2.2.2.2.2.2))))) else .bad)) (an (l (.stop (false, ()) u10.1)) (l (.foreign u10.1)))) (l .bad) else l .bad) (an (l (.stop (false, ()) u9.1)) (l (.foreign u9.1)))) (l .bad) else l .bad else l .bad) (l .bad) else l .bad else l .bad else bif (decide (((0 : Int) ≤ (W (x.2.1 - (1 : Int)))) ∧ ((W (x.2.1 - (1 : Int))) < ((x.2.2.2.2.2.1.1.n : Nat) : Int)))) then onExit (L109x2 R109 (x.1, (x.2.1, (x.2.2.1, (x.2.2.2.1, (x.2.2.2.2.1, (x.2.2.2.2.2.1, ((), ((), ((), ((), ((((x.2.2.2.2.2.1.1.g (Int.toNat (W (x.2.1 - (1 : Int))))).2.1.n : Nat) : Int), ((0 : Int), ((x.2.2.2.2.2.2.2.2.2.2.1.1, (x.2.2.2.2.2.2.2.2.2.2.1.2.1, (x.2.2.2.2.2.2.2.2.2.2.1.2.2.1, (x.2.2.2.2.2.2.2.2.2.2.1.2.2.2.1, (x.2.2.2.2.2.2.2.2.2.2.1.2.2.2.2.1, ((), ())))))), (((), ()), (x.2.2.2.2.2.2.2.2.2.2.2.2.1, (((), ()), x.2.2.2.2.2.2.2.2.2.2.2.2.2.2))))))))))))))))) 4 (fun u11 => an (l (bif (bif (Nat.beq x.2.2.2.2.2.2.2.2.2.2.2.2.2.2.1.n u11.2.2.2.2.2.2.2.2.2.2.1.n) then (bif (Nat.beq x.2.2.2.2.2.2.2.2.2.2.2.2.2.2.2.1.n u11.2.2.2.2.2.2.2.2.2.2.2.1.n) then true else false) else false) then (.ok (true, ()) u11.1 ((u11.2.2.2.2.2.2.1.1, (u11.2.2.2.2.2.2.1.2.1, (u11.2.2.2.2.2.2.1.2.2.1, (u11.2.2.2.2.2.2.1.2.2.2.1, (u11.2.2.2.2.2.2.1.2.2.2.2.1, ((), ())))))), (((), ()), (u11.2.2.2.2.2.2.2.2.1, (((), ()), u11.2.2.2.2.2.2.2.2.2.2))))) else .bad)) (an (l (.stop (false, ()) u11.1)) (l (.foreign u11.1)))) (l .bad) else l .bad else l .bad
theorem q109 (R109 : (ZD ps109) → Option (Ty.den (.cons (.sl tKy) (patsTy (objPats ps109))))) (x : ZD ps109) : runY Try.prog E0 (G109 R109) Try.f109 (l109 R109) 1000 tKy r109 ps109 x = Q109 R109 .leaf .any x := by kernel_rfl
def U109 (R109 : (ZD ps109) → Option (Ty.den (.cons (.sl tKy) (patsTy (objPats ps109))))) (x : ZD ps109) : Option (Ty.den (.cons (.sl tKy) (patsTy (objPats ps109)))) := Q109 R109 GY.opt (fun a _ => a) x
def F109 : Nat → (ZD ps109) → Option (Ty.den (.cons (.sl tKy) (patsTy (objPats ps109))))
 | 0 => fun _ => none
 | n + 1 => U109 (F109 n)
-- kn109 : .cons (loopV_ok' hE (.inl rfl) hlo (LsOK_kn (by rw [lo109x0]; exact .nil)) (by kernel_rfl) (by kernel_rfl) sp109x0 (fun _ => rfl) (fun _ _ => rfl) (s109x0 R109) big) (.cons (loopV_ok' hE (.inl rfl) hlo (LsOK_kn (by rw [lo109x1]; exact .nil)) (by kernel_rfl) (by kernel_rfl) sp109x1 (fun _ => rfl) (fun _ _ => rfl) (s109x1 R109) big) (.cons (hy109x2 R109 hE hlo) (.nil)))
def gr109 (R109 : (ZD ps109) → Option (Ty.den (.cons (.sl tKy) (patsTy (objPats ps109))))) : Prop := ∀ x u, R109 x = some u → (show Sl (Ty.den tKy) from x.1).list <+: (show Sl (Ty.den tKy) from u.1).list
theorem kr109x2 (R109 : (ZD ps109) → Option (Ty.den (.cons (.sl tKy) (patsTy (objPats ps109))))) (hg : gr109 R109) (x : ZD ps109x2) :
  KR (ex := 4) tp109x2 te109x2 rq109x2 sy109x2 (tp109x2 x) (S109x2 R109 x) (Z109x2 R109 (fun r => .leaf (r.res 4)) .any x) := by
 unfold S109x2 Z109x2
 repeat' first
  | exact KR.bad
  | exact KR.next (list_pre _)
  | exact KR.exit (list_pre _)
  | with_reducible apply KR.bif
  | (refine KR.cl (fun u hu => ?_) ?_)
  | exact KR.any rfl (hg _ _ ‹_›) (KR.next (list_pre _))
theorem hy109x2 (R109 : (ZD ps109) → Option (Ty.den (.cons (.sl tKy) (patsTy (objPats ps109))))) (hg : gr109 R109) {G' : Gh} (hE : Env Try.prog E0 (G109 R109) G' Fence.wide) (hlo : G'.lo = 1000) :
  LoopOK Try.prog 180 G' 109 Fence.wide 0 (.loop b109x2) (loopF 1000 [] ps109x2 fun x => yF 4 te109x2 rq109x2 sy109x2 (L109x2 R109 x)) :=
 loopY_ok hE hlo (LsOK_kn (by rw [lo109x2]; exact .nil)) (by kernel_rfl) (by kernel_rfl) (trP := tp109x2) rfl (fun x hne => by rw [z109x2]; exact (kr109x2 R109 hg x).1 hne) (fun x => (kr109x2 R109 hg x).2) big
theorem gl109x2 (R109 : (ZD ps109) → Option (Ty.den (.cons (.sl tKy) (patsTy (objPats ps109))))) (hg : gr109 R109) (x : ZD ps109x2) (h : (L109x2 R109 x).isExit 4 = true) : (tp109x2 x).list <+: (te109x2 ((L109x2 R109 x).getExit 4)).list :=
 iterQ_grow (ex := 4) (trP := tp109x2) (trE := te109x2) (fun x => (kr109x2 R109 hg x).2) big x h
theorem kg109 (R109 : (ZD ps109) → Option (Ty.den (.cons (.sl tKy) (patsTy (objPats ps109))))) (hg : gr109 R109) (x : ZD ps109) :
  KG (e := tKy) (qs := objPats ps109) x.1 (U109 R109 x) (Q109 R109 .leaf .any x) := by
 unfold U109 Q109
 repeat' first
  | exact KG.bad
  | exact KG.ok (list_pre _)
  | (apply KG.any; · first | exact cat_pre _ _ | (have h1 := hg _ _ hu; exact h1) | (have h1 := gl109x2 R109 hg _ hu; exact h1))
  | with_reducible apply KG.bif
  | (refine KG.cl (fun u hu => ?_) ?_)
  | (refine KG.onExit (fun hu => ?_) ?_)
theorem hr109 (R109 : (ZD ps109) → Option (Ty.den (.cons (.sl tKy) (patsTy (objPats ps109))))) (hg : gr109 R109) (hR : GHolds Try.prog 109 (gappY Try.f109.ntmps tKy r109 ps109 fun x => yT (R109 x))) :
    GHolds Try.prog 109 (gappY Try.f109.ntmps tKy r109 ps109 fun x => yT (U109 R109 x)) :=
  gappY_holds (E := E0) follows_ok (g109 R109 hR) eqTy_sound keyTy_sound at109 bd109 (lo := 1000) (ls := l109 R109) (by kernel_rfl) (fun G' hlo hE => LsOK_kn (by rw [lo109]; exact (.cons (loopV_ok' hE (.inl rfl) hlo (LsOK_kn (by rw [lo109x0]; exact .nil)) (by kernel_rfl) (by kernel_rfl) sp109x0 (fun _ => rfl) (fun _ _ => rfl) (s109x0 R109) big) (.cons (loopV_ok' hE (.inl rfl) hlo (LsOK_kn (by rw [lo109x1]; exact .nil)) (by kernel_rfl) (by kernel_rfl) sp109x1 (fun _ => rfl) (fun _ _ => rfl) (s109x1 R109) big) (.cons (hy109x2 R109 hg hE hlo) .nil)))))
    (fun x hfine => by
      rw [q109]
      obtain ⟨z, y, h⟩ := yT_some hfine
      exact (kg109 R109 hg x z y h).2)
theorem gf109 : ∀ n, gr109 (F109 n)
 | 0 => fun _ _ h => by cases h
 | n + 1 => fun x u h => (kg109 (F109 n) (gf109 n) x u.1 u.2 h).1
theorem h109 : ∀ n, GHolds Try.prog 109 (gappY Try.f109.ntmps tKy r109 ps109 fun x => yT (F109 n x))
 | 0 => gappY_bad
 | n + 1 => hr109 (F109 n) (gf109 n) (h109 n)
noncomputable def c108 : Code := Try.f108.body.getD .skip
theorem at108 : Try.prog.funcs[108]? = some Try.f108 := by kernel_rfl
theorem bd108 : Try.f108.body = some c108 := by kernel_rfl
theorem cl108 : Callable Try.prog 108 := callable_of at108 (by kernel_rfl) (by kernel_rfl)
abbrev fst108 : Ty := .nil
abbrev T68 : Ty := (.cons T41 .nil)
abbrev cap108 : Ty := T68
abbrev e108 : Ty := T50
noncomputable def G108 : Ctx := Ctx.of [(94, .pure k94), (109, .gen (gappY Try.f109.ntmps tKy r109 ps109 fun x => yT (F109 20 x)))]
theorem g108 : Sound Try.prog (G108) := sound_of (List.forall_mem_cons.2 ⟨⟨cl94, h94⟩, List.forall_mem_cons.2 ⟨⟨cl109, (h109 20)⟩, fun _ h => by cases h⟩⟩)
def j108 : ICon := ⟨fst108, cap108, e108, fun _ _ => true, fun _ _ => ⟨0, fun _ => Ty.dflt e108⟩⟩
noncomputable def b108x0 : Code := loopBody ((loopsOf (c108))[0]?)
theorem lo108x0 : loopsOf (b108x0) = [] := by kernel_rfl
abbrev cs108x0 : List Pat := [.tr T50, .slot 1 (.pc T41), .slot 2 (.ptr 2), .slot 3 (.ptr 73), .slot 4 (.ptr 144), .slot 20 (.pc T16), .slot 21 (.pc tI)]
abbrev vs108x0 : List Pat := [.slot 22 (.pc tI), .box 2 [.yld], .box 73 [.pc T16, .pc tI, .pc tI, .pc tI, .pc tI, .rows 83], .box 144 [.rows 158], .rows 83 3 T0, .rows 158 105 T6]
abbrev ps108x0 : List Pat := cs108x0 ++ vs108x0
def j108x0 : ZJ cs108x0 vs108x0 ps108x0 := ZA _ _
def sp108x0 : ZS cs108x0 vs108x0 ps108x0 := ZP _ _
abbrev wy108x0 : Ways := ⟨[(0, [.tr T50, .slot 1 (.pc T41), .slot 2 (.ptr 2), .slot 3 (.ptr 73), .slot 4 (.ptr 144), .box 2 [.yld], .box 73 [.pc T16, .pc tI, .pc tI, .pc tI, .pc tI, .rows 83], .box 144 [.rows 158], .rows 83 3 T0, .rows 158 105 T6])], [.tr T50], [.tr T50]⟩
abbrev wv108x0 : Ways := ⟨[(0, [.box 2 [.yld], .box 73 [.pc T16, .pc tI, .pc tI, .pc tI, .pc tI, .rows 83], .box 144 [.rows 158], .rows 83 3 T0, .rows 158 105 T6])], [], []⟩
def je108x0 : ZE cs108x0 wv108x0 wy108x0 := fun id => match id with | 0 => fun c y => (c.1, (c.2.1, (c.2.2.1, (c.2.2.2.1, (c.2.2.2.2.1, y))))) | _ => ZDf
def jr108x0 : (ZD cs108x0) → (patsTy (wv108x0).ret).den → (patsTy (wy108x0).ret).den := fun c y => (c.1, y)
def jp108x0 : (ZD cs108x0) → (patsTy (wv108x0).pan).den → (patsTy (wy108x0).pan).den := fun c y => (c.1, y)
def Z108x0 {α : Type} (l : RQ vs108x0 wv108x0 → α) (an : α → α → α) (c : ZD cs108x0) (v : ZD vs108x0) : α := bif (decide (v.1 < c.2.2.2.2.2.2.1)) then bif (decide (((0 : Int) ≤ v.1) ∧ (v.1 < ((c.2.2.2.2.2.1.n : Nat) : Int)))) then bif (decide (((0 : Int) ≤ (((c.2.2.2.2.2.1.g (Int.toNat v.1)).2.1.n : Nat) : Int)) ∧ (((((c.2.2.2.2.2.1.g (Int.toNat v.1)).2.1.n : Nat) : Int) ≤ (281474976710656 : Int)) ∧ (((((c.2.2.2.2.2.1.g (Int.toNat v.1)).2.1.n : Nat) : Int) * (8 : Int)) ≤ (281474976710656 : Int))))) then bif (decide (((0 : Int) ≤ (((c.2.2.2.2.2.1.g (Int.toNat v.1)).2.1.n : Nat) : Int)) ∧ (((((c.2.2.2.2.2.1.g (Int.toNat v.1)).2.1.n : Nat) : Int) ≤ (281474976710656 : Int)) ∧ (((((c.2.2.2.2.2.1.g (Int.toNat v.1)).2.1.n : Nat) : Int) * (48 : Int)) ≤ (281474976710656 : Int))))) then bif (decide (((0 : Int) ≤ v.1) ∧ (v.1 < ((v.2.2.2.2.1.n : Nat) : Int)))) then bif (decide (((0 : Int) ≤ v.1) ∧ (v.1 < ((v.2.2.2.2.2.1.n : Nat) : Int)))) then l (.next ((W (v.1 + (1 : Int))), (((), ()), ((v.2.2.1.1, (v.2.2.1.2.1, (v.2.2.1.2.2.1, (v.2.2.1.2.2.2.1, (v.2.2.1.2.2.2.2.1, ((), ())))))), (((), ()), ((setSl v.2.2.2.2.1 (Int.toNat v.1) (⟨(Int.toNat (((c.2.2.2.2.2.1.g (Int.toNat v.1)).2.1.n : Nat) : Int)), fun i => ((0 : Int), ())⟩ : Sl (Ty.den T0))), ((setSl v.2.2.2.2.2.1 (Int.toNat v.1) (⟨(Int.toNat (((c.2.2.2.2.2.1.g (Int.toNat v.1)).2.1.n : Nat) : Int)), fun i => ((0 : Int), ((0 : Int), ((0 : Int), ((0 : Int), ((0 : Int), ((0 : Int), ()))))))⟩ : Sl (Ty.den T6))), ()))))))) else l .bad else l .bad else l .bad else l .bad else l .bad else l (.out (.exit 0 (((), ()), ((v.2.2.1.1, (v.2.2.1.2.1, (v.2.2.1.2.2.1, (v.2.2.1.2.2.2.1, (v.2.2.1.2.2.2.2.1, ((), ())))))), (((), ()), v.2.2.2.2)))))
theorem z108x0 (c : ZD cs108x0) (v : ZD vs108x0) : roundQ Try.prog E0 G108 0 70 [] ps108x0 wy108x0 b108x0 [] (j108x0 c v) = Z108x0 (fun r => .leaf (r.lift j108x0 je108x0 jr108x0 jp108x0 c)) .any c v := by kernel_rfl
def S108x0 (c : ZD cs108x0) (v : ZD vs108x0) : RQ vs108x0 wv108x0 := Z108x0 (fun r => r) (fun _ _ => .bad) c v
theorem s108x0 (c : ZD cs108x0) (v : ZD vs108x0) : detQ (roundQ Try.prog E0 G108 0 70 [] ps108x0 wy108x0 b108x0 [] (j108x0 c v)) = (S108x0 c v).lift j108x0 je108x0 jr108x0 jp108x0 c := by rw [z108x0]; unfold S108x0 Z108x0; simp only [detQ, lift_bad, dqs]
def L108x0 (c : ZD cs108x0) (v : ZD vs108x0) : LQ wv108x0 := iterQ (S108x0 c) big v
noncomputable def b108x1 : Code := loopBody ((loopsOf (c108))[1]?)
theorem lo108x1 : loopsOf (b108x1) = [] := by kernel_rfl
abbrev cs108x1 : List Pat := [.tr T50, .slot 1 (.pc T41), .slot 2 (.ptr 2), .slot 3 (.ptr 73), .slot 4 (.ptr 144), .slot 48 (.pc tI)]
abbrev vs108x1 : List Pat := [.slot 49 (.pc tI), .box 2 [.yld], .box 73 [.pc T16, .pc tI, .pc tI, .pc tI, .pc tI, .rows 83], .box 144 [.rows 158], .rows 83 3 T0, .rows 158 105 T6]
abbrev ps108x1 : List Pat := cs108x1 ++ vs108x1
def j108x1 : ZJ cs108x1 vs108x1 ps108x1 := ZA _ _
def sp108x1 : ZS cs108x1 vs108x1 ps108x1 := ZP _ _
abbrev wy108x1 : Ways := ⟨[(2, [.tr T50, .slot 1 (.pc T41), .slot 2 (.ptr 2), .slot 3 (.ptr 73), .slot 4 (.ptr 144), .box 2 [.yld], .box 73 [.pc T16, .pc tI, .pc tI, .pc tI, .pc tI, .rows 83], .box 144 [.rows 158], .rows 83 3 T0, .rows 158 105 T6])], [.tr T50], [.tr T50]⟩
abbrev wv108x1 : Ways := ⟨[(2, [.box 2 [.yld], .box 73 [.pc T16, .pc tI, .pc tI, .pc tI, .pc tI, .rows 83], .box 144 [.rows 158], .rows 83 3 T0, .rows 158 105 T6])], [], []⟩
def je108x1 : ZE cs108x1 wv108x1 wy108x1 := fun id => match id with | 2 => fun c y => (c.1, (c.2.1, (c.2.2.1, (c.2.2.2.1, (c.2.2.2.2.1, y))))) | _ => ZDf
def jr108x1 : (ZD cs108x1) → (patsTy (wv108x1).ret).den → (patsTy (wy108x1).ret).den := fun c y => (c.1, y)
def jp108x1 : (ZD cs108x1) → (patsTy (wv108x1).pan).den → (patsTy (wy108x1).pan).den := fun c y => (c.1, y)
def Z108x1 {α : Type} (l : RQ vs108x1 wv108x1 → α) (an : α → α → α) (c : ZD cs108x1) (v : ZD vs108x1) : α := bif (decide (v.1 < c.2.2.2.2.2.1)) then bif (decide (((0 : Int) ≤ (0 : Int)) ∧ ((0 : Int) < ((v.2.2.2.2.1.n : Nat) : Int)))) then bif (decide (((0 : Int) ≤ (0 : Int)) ∧ ((0 : Int) < ((v.2.2.2.2.2.1.n : Nat) : Int)))) then cl (r94).dflt (M94 ((v.2.2.1.1, (v.2.2.1.2.1, (v.2.2.1.2.2.1, (v.2.2.1.2.2.2.1, (v.2.2.1.2.2.2.2.1, ((), ())))))), ((0 : Int), (v.1, ())))) (fun u0 => bif (decide (((0 : Int) ≤ v.1) ∧ (v.1 < (((v.2.2.2.2.1.g 0).n : Nat) : Int)))) then bif (decide (((0 : Int) ≤ v.1) ∧ (v.1 < (((v.2.2.2.2.2.1.g 0).n : Nat) : Int)))) then l (.next ((W (v.1 + (1 : Int))), (((), ()), ((v.2.2.1.1, (v.2.2.1.2.1, (v.2.2.1.2.2.1, (v.2.2.1.2.2.2.1, (v.2.2.1.2.2.2.2.1, ((), ())))))), (((), ()), ((setSl v.2.2.2.2.1 0 (setSl (v.2.2.2.2.1.g 0) (Int.toNat v.1) ((-1 : Int), ()))), ((setSl v.2.2.2.2.2.1 0 (setSl (v.2.2.2.2.2.1.g 0) (Int.toNat v.1) u0.1)), ()))))))) else l .bad else l .bad) (l .bad) else l .bad else l .bad else l (.out (.exit 2 (((), ()), ((v.2.2.1.1, (v.2.2.1.2.1, (v.2.2.1.2.2.1, (v.2.2.1.2.2.2.1, (v.2.2.1.2.2.2.2.1, ((), ())))))), (((), ()), v.2.2.2.2)))))
theorem z108x1 (c : ZD cs108x1) (v : ZD vs108x1) : roundQ Try.prog E0 G108 0 70 [] ps108x1 wy108x1 b108x1 [] (j108x1 c v) = Z108x1 (fun r => .leaf (r.lift j108x1 je108x1 jr108x1 jp108x1 c)) .any c v := by kernel_rfl
def S108x1 (c : ZD cs108x1) (v : ZD vs108x1) : RQ vs108x1 wv108x1 := Z108x1 (fun r => r) (fun _ _ => .bad) c v
theorem s108x1 (c : ZD cs108x1) (v : ZD vs108x1) : detQ (roundQ Try.prog E0 G108 0 70 [] ps108x1 wy108x1 b108x1 [] (j108x1 c v)) = (S108x1 c v).lift j108x1 je108x1 jr108x1 jp108x1 c := by rw [z108x1]; unfold S108x1 Z108x1; simp only [detQ, lift_bad, dqs]
def L108x1 (c : ZD cs108x1) (v : ZD vs108x1) : LQ wv108x1 := iterQ (S108x1 c) big v
theorem lo108 : loopsOf (c108) = [.loop b108x0, .loop b108x1] := by kernel_rfl
noncomputable def l108 : List Loop := [.known (loopZ 0 [] ps108x0 fun x => spreadV wy108x0 je108x0 jr108x0 jp108x0 [] false (sp108x0 x).1 (L108x0 (sp108x0 x).1 (sp108x0 x).2) wy108x0.exits), .known (loopZ 0 [] ps108x1 fun x => spreadV wy108x1 je108x1 jr108x1 jp108x1 [] false (sp108x1 x).1 (L108x1 (sp108x1 x).1 (sp108x1 x).2) wy108x1.exits)]
def Q108 {α : Type} (l : ItO → α) (an : α → α → α) (x : (fst108).den) (y : (cap108).den) : α := bif (decide (((0 : Int) < ((y.1.1.n : Nat) : Int)) ∧ ((((y.1.1.n : Nat) : Int) ≤ (281474976710656 : Int)) ∧ ((((y.1.1.n : Nat) : Int) * (24 : Int)) ≤ (281474976710656 : Int))))) then bif (decide (((0 : Int) < ((y.1.1.n : Nat) : Int)) ∧ ((((y.1.1.n : Nat) : Int) ≤ (281474976710656 : Int)) ∧ ((((y.1.1.n : Nat) : Int) * (24 : Int)) ≤ (281474976710656 : Int))))) then onExit (L108x0 ((⟨0, fun i => (((⟨0, fun i => ((0 : Int), ((⟨0, fun i => ((0 : Int), ((0 : Int), ((0 : Int), ((0 : Int), ((0 : Int), ((0 : Int), ()))))))⟩ : Sl _), ()))⟩ : Sl _), ((0 : Int), ((0 : Int), ((0 : Int), ((0 : Int), ((⟨0, fun i => ((⟨0, fun i => ((0 : Int), ())⟩ : Sl _), ())⟩ : Sl _), ())))))), ())⟩ : Sl _), (y.1, ((), ((), ((), (y.1.1, (((y.1.1.n : Nat) : Int), ()))))))) ((0 : Int), (((), ()), ((y.1.1, (y.1.2.1, (y.1.2.2.1, (y.1.2.2.2.1, (y.1.2.2.2.2.1, ((), ())))))), (((), ()), ((⟨(Int.toNat ((y.1.1.n : Nat) : Int)), fun i => (⟨0, fun i => ((0 : Int), ())⟩ : Sl _)⟩ : Sl _), ((⟨(Int.toNat ((y.1.1.n : Nat) : Int)), fun i => (⟨0, fun i => ((0 : Int), ((0 : Int), ((0 : Int), ((0 : Int), ((0 : Int), ((0 : Int), ()))))))⟩ : Sl _)⟩ : Sl _), ()))))))) 0 (fun u1 => bif (decide (((0 : Int) ≤ (0 : Int)) ∧ ((0 : Int) < ((y.1.1.n : Nat) : Int)))) then onExit (L108x1 ((⟨0, fun i => (((⟨0, fun i => ((0 : Int), ((⟨0, fun i => ((0 : Int), ((0 : Int), ((0 : Int), ((0 : Int), ((0 : Int), ((0 : Int), ()))))))⟩ : Sl _), ()))⟩ : Sl _), ((0 : Int), ((0 : Int), ((0 : Int), ((0 : Int), ((⟨0, fun i => ((⟨0, fun i => ((0 : Int), ())⟩ : Sl _), ())⟩ : Sl _), ())))))), ())⟩ : Sl _), (y.1, ((), ((), ((), ((((y.1.1.g 0).2.1.n : Nat) : Int), ())))))) ((0 : Int), (((), ()), ((u1.2.1.1, (u1.2.1.2.1, (u1.2.1.2.2.1, (u1.2.1.2.2.2.1, (u1.2.1.2.2.2.2.1, ((), ())))))), (((), ()), u1.2.2.2))))) 2 (fun u2 => cl (Ty.dflt T67) (F109 20 ((⟨0, fun i => (((⟨0, fun i => ((0 : Int), ((⟨0, fun i => ((0 : Int), ((0 : Int), ((0 : Int), ((0 : Int), ((0 : Int), ((0 : Int), ()))))))⟩ : Sl _), ()))⟩ : Sl _), ((0 : Int), ((0 : Int), ((0 : Int), ((0 : Int), ((⟨0, fun i => ((⟨0, fun i => ((0 : Int), ())⟩ : Sl _), ())⟩ : Sl _), ())))))), ())⟩ : Sl _), ((1 : Int), ((0 : Int), ((0 : Int), ((0 : Int), (y.1, ((), ((), ((), ((), ((u2.2.1.1, (u2.2.1.2.1, (u2.2.1.2.2.1, (u2.2.1.2.2.2.1, (u2.2.1.2.2.2.2.1, ((), ())))))), (((), ()), (y, (((), ()), u2.2.2.2))))))))))))))) (fun u3 => an (l (.full ⟨T50, true, u3.1⟩)) (an (l (.stop ⟨T50, false, u3.1⟩)) (l (.foreign ⟨T50, false, u3.1⟩)))) (l .bad)) (l .bad) else l .bad) (l .bad) else l .bad else l .bad
theorem q108 (x : (fst108).den) (y : (cap108).den) : runI Try.prog E0 G108 Try.f108 l108 j108 x y = Q108 .leaf .any x y := by kernel_rfl
-- kn108 : .cons (loopV_ok' hE (.inl rfl) hlo (LsOK_kn (by rw [lo108x0]; exact .nil)) (by kernel_rfl) (by kernel_rfl) sp108x0 (fun _ => rfl) (fun _ _ => rfl) (s108x0) big) (.cons (loopV_ok' hE (.inl rfl) hlo (LsOK_kn (by rw [lo108x1]; exact .nil)) (by kernel_rfl) (by kernel_rfl) sp108x1 (fun _ => rfl) (fun _ _ => rfl) (s108x1) big) (.nil))
def u108 (x : (fst108).den) (y : (cap108).den) : Option (Sl (e108).den) := Q108 (ItO.opt e108) (fun a _ => a) x y
theorem ki108 (x : (fst108).den) (y : (cap108).den) : KI (u108 x y) (Q108 .leaf .any x y) := by
 unfold u108 Q108
 repeat' first
  | exact KI.bad
  | exact KI.any
  | with_reducible apply KI.bif
  | (refine KI.cl (fun u hu => ?_) ?_)
  | (refine KI.onExit ?_ ?_)
def ip108 (x : (fst108).den) (y : (cap108).den) : Bool := (u108 x y).isSome
def ii108 (x : (fst108).den) (y : (cap108).den) : Sl (e108).den := (u108 x y).getD ⟨0, fun _ => Ty.dflt e108⟩
def i108 : ICon := ⟨fst108, cap108, e108, ip108, ii108⟩
theorem h108 : IHolds Try.prog 108 i108 := by
 refine iholds_of_run follows_ok g108 eqTy_sound keyTy_sound (E := E0) at108 bd108 (ls := l108) i108 rfl rfl (Nat.le_of_ble_eq_true (by kernel_rfl)) (by kernel_rfl) (fun G' hlo hok _ => ?_) fun x y hp => ?_
 ·have hE : Env Try.prog E0 G108 G' Fence.wide := ⟨follows_ok, g108, eqTy_sound, keyTy_sound, hok, .wide, fun _ => rfl⟩
  exact LsOK_kn (by rw [lo108]; exact (.cons (loopV_ok' hE (.inl rfl) hlo (LsOK_kn (by rw [lo108x0]; exact .nil)) (by kernel_rfl) (by kernel_rfl) sp108x0 (fun _ => rfl) (fun _ _ => rfl) (s108x0) big) (.cons (loopV_ok' hE (.inl rfl) hlo (LsOK_kn (by rw [lo108x1]; exact .nil)) (by kernel_rfl) (by kernel_rfl) sp108x1 (fun _ => rfl) (fun _ _ => rfl) (s108x1) big) (.nil))))
 ·have hp : (u108 x y).isSome = true := hp
  obtain ⟨z, hz⟩ := Option.isSome_iff_exists.1 hp
  have h := ki108 x y z hz
  have h : Tree.All (ItO.Ok e108 z) (runI Try.prog E0 G108 Try.f108 l108 j108 x y) := (q108 x y).symm ▸ h
  show Tree.All (ItO.Ok e108 ((u108 x y).getD ⟨0, fun _ => Ty.dflt e108⟩)) _
  rw [hz]
  exact h
noncomputable def c81 : Code := Try.f81.body.getD .skip
theorem at81 : Try.prog.funcs[81]? = some Try.f81 := by kernel_rfl
theorem bd81 : Try.f81.body = some c81 := by kernel_rfl
theorem cl81 : Callable Try.prog 81 := callable_of at81 (by kernel_rfl) (by kernel_rfl)
abbrev T69 : Ty := (.seq T50)
abbrev T70 : Ty := (.cons T69 .nil)
abbrev a81 : Ty := T19
abbrev r81 : Ty := T70
noncomputable def G81 : Ctx := Ctx.of [(108, .iter i108)]
theorem g81 : Sound Try.prog (G81) := sound_of (List.forall_mem_cons.2 ⟨⟨cl108, h108⟩, fun _ h => by cases h⟩)
theorem lo81 : loopsOf (c81) = [] := by kernel_rfl
noncomputable def l81 : List Loop := []
def Q81 {α : Type} (l : Option (r81).den → α) (an : α → α → α) (x : (a81).den) : α := bif (ip108 () (x.1, ())) then l (some ((ii108 () (x.1, ())), ())) else l none
theorem q81 (x : (a81).den) : runFn Try.prog E0 G81 Try.f81 l81 a81 r81 x = Q81 .leaf .any x := by kernel_rfl
def M81 (x : (a81).den) : Option (r81).den := Q81 (fun r => r) (fun _ _ => none) x
theorem m81 (x : (a81).den) : (runFn Try.prog E0 G81 Try.f81 l81 a81 r81 x).sure = M81 x := by rw [q81]; unfold M81 Q81; simp only [Tree.sure, sus]
def p81 (x : (a81).den) : Bool := (M81 x).isSome
def v81 (x : (a81).den) : (r81).den := (M81 x).getD (r81).dflt
def k81 : Con := ⟨a81, r81, p81, v81⟩
theorem h81 : Holds Try.prog 81 k81 := holds_of_M' (E := E0) follows_ok g81 eqTy_sound keyTy_sound at81 bd81 (by kernel_rfl) m81 fun G' hlo hF hE => LsOK_kn (by rw [lo81]; exact .nil)
noncomputable def c77 : Code := Try.f77.body.getD .skip
theorem at77 : Try.prog.funcs[77]? = some Try.f77 := by kernel_rfl
theorem bd77 : Try.f77.body = some c77 := by kernel_rfl
theorem cl77 : Callable Try.prog 77 := callable_of at77 (by kernel_rfl) (by kernel_rfl)
abbrev a77 : Ty := T19
abbrev r77 : Ty := T3
noncomputable def G77 : Ctx := Ctx.of [(81, .pure k81)]
theorem g77 : Sound Try.prog (G77) := sound_of (List.forall_mem_cons.2 ⟨⟨cl81, h81⟩, fun _ h => by cases h⟩)
noncomputable def b77x0 : Code := rangeBody ((loopsOf (c77))[0]?)
noncomputable def as77x0 : Code := rangeAs ((loopsOf (c77))[0]?)
abbrev mp77x0 : List Pat := [.slot 2 (.ptr 2), .box 2 [.pc .bool]]
theorem lo77x0 : loopsOf (b77x0) = [] := by kernel_rfl
def Z77x0 {α : Type} (l : RO mp77x0 → α) (an : α → α → α) (x : ZD mp77x0) (it : Ty.den T50) : α := l (.ret ((), ((true, ()), ())))
theorem z77x0 (x : ZD mp77x0) (it : Ty.den T50) : stepR Try.prog E0 G77 0 500000 6 [5] as77x0 b77x0 [] [] T50 mp77x0 x it = Z77x0 .leaf .any x it := by kernel_rfl
def S77x0 (x : ZD mp77x0) (it : Ty.den T50) : RO mp77x0 := Z77x0 (fun r => r) (fun _ _ => .bad) x it
theorem s77x0 (x : ZD mp77x0) (it : Ty.den T50) : (stepR Try.prog E0 G77 0 500000 6 [5] as77x0 b77x0 [] [] T50 mp77x0 x it).detB .bad = S77x0 x it := by rw [z77x0]; unfold S77x0 Z77x0; simp only [detB_cond, Tree.detB, detB_cl, detB_onExit, detB_onPanL]
def L77x0 (x : ZD mp77x0) (l : List (Ty.den T50)) : RO mp77x0 := runAllD S77x0 x l
theorem lo77 : loopsOf (c77) = [.rangeFunc (.tmp 4) #[5] as77x0 b77x0] := by kernel_rfl
noncomputable def l77 : List Loop := [.known (rangeD 0 [] 4 T50 mp77x0 [] [] (fun x l => L77x0 x l))]
def Q77 {α : Type} (l : Option (r77).den → α) (an : α → α → α) (x : (a77).den) : α := cl (r81).dflt (M81 (x.1, ())) (fun u0 => onNext (L77x0 ((), ((false, ()), ())) (Sl.list u0.1)) (fun u1 => l (some (false, ()))) (onRetO (L77x0 ((), ((false, ()), ())) (Sl.list u0.1)) (fun u2 => l (some u2.2.1)) (l none))) (l none)
theorem q77 (x : (a77).den) : runFn Try.prog E0 G77 Try.f77 l77 a77 r77 x = Q77 .leaf .any x := by kernel_rfl
def M77 (x : (a77).den) : Option (r77).den := Q77 (fun r => r) (fun _ _ => none) x
theorem m77 (x : (a77).den) : (runFn Try.prog E0 G77 Try.f77 l77 a77 r77 x).sure = M77 x := by rw [q77]; unfold M77 Q77; simp only [Tree.sure, sus]
def p77 (x : (a77).den) : Bool := (M77 x).isSome
def v77 (x : (a77).den) : (r77).den := (M77 x).getD (r77).dflt
def k77 : Con := ⟨a77, r77, p77, v77⟩
theorem h77 : Holds Try.prog 77 k77 := holds_of_M' (E := E0) follows_ok g77 eqTy_sound keyTy_sound at77 bd77 (by kernel_rfl) m77 fun G' hlo hF hE => LsOK_kn (by rw [lo77]; exact .cons (rangeD_ok hE hF hlo at77 (by kernel_rfl) (by kernel_rfl) (by kernel_rfl) (by kernel_rfl) (by kernel_rfl) (fun G' hlo hF l hE => LsOK_nil) (fun G' hlo hF l hE => LsOK_kn (by rw [lo77x0]; exact .nil)) s77x0) (.nil))
noncomputable def c63 : Code := Try.f63.body.getD .skip
theorem at63 : Try.prog.funcs[63]? = some Try.f63 := by kernel_rfl
theorem bd63 : Try.f63.body = some c63 := by kernel_rfl
theorem cl63 : Callable Try.prog 63 := callable_of at63 (by kernel_rfl) (by kernel_rfl)
abbrev T71 : Ty := (.cons T18 T3)
abbrev a63 : Ty := T71
abbrev r63 : Ty := T0
noncomputable def G63 : Ctx := Ctx.of [(74, .pure k74), (77, .pure k77)]
theorem g63 : Sound Try.prog (G63) := sound_of (List.forall_mem_cons.2 ⟨⟨cl74, h74⟩, List.forall_mem_cons.2 ⟨⟨cl77, h77⟩, fun _ h => by cases h⟩⟩)
theorem lo63 : loopsOf (c63) = [] := by kernel_rfl
noncomputable def l63 : List Loop := []
def Q63 {α : Type} (l : Option (r63).den → α) (an : α → α → α) (x : (a63).den) : α := cl (r74).dflt (M74 (x.1, ())) (fun u0 => bif (!u0.1) then l (some ((2 : Int), ())) else bif (!x.2.1) then l (some ((2 : Int), ())) else cl (r77).dflt (M77 (x.1, ())) (fun u1 => bif (!u1.1) then l (some ((7 : Int), ())) else l (some ((0 : Int), ()))) (l none)) (l none)
theorem q63 (x : (a63).den) : runFn Try.prog E0 G63 Try.f63 l63 a63 r63 x = Q63 .leaf .any x := by kernel_rfl
def M63 (x : (a63).den) : Option (r63).den := Q63 (fun r => r) (fun _ _ => none) x
theorem m63 (x : (a63).den) : (runFn Try.prog E0 G63 Try.f63 l63 a63 r63 x).sure = M63 x := by rw [q63]; unfold M63 Q63; simp only [Tree.sure, sus]
def p63 (x : (a63).den) : Bool := (M63 x).isSome
def v63 (x : (a63).den) : (r63).den := (M63 x).getD (r63).dflt
def k63 : Con := ⟨a63, r63, p63, v63⟩
theorem h63 : Holds Try.prog 63 k63 := holds_of_M' (E := E0) follows_ok g63 eqTy_sound keyTy_sound at63 bd63 (by kernel_rfl) m63 fun G' hlo hF hE => LsOK_kn (by rw [lo63]; exact .nil)
noncomputable def c100 : Code := Try.f100.body.getD .skip
theorem at100 : Try.prog.funcs[100]? = some Try.f100 := by kernel_rfl
theorem bd100 : Try.f100.body = some c100 := by kernel_rfl
theorem cl100 : Callable Try.prog 100 := callable_of at100 (by kernel_rfl) (by kernel_rfl)
abbrev T72 : Ty := (.cons T49 T1)
abbrev a100 : Ty := T72
abbrev r100 : Ty := T0
noncomputable def G100 : Ctx := Ctx.of [(118, .pure k118)]
theorem g100 : Sound Try.prog (G100) := sound_of (List.forall_mem_cons.2 ⟨⟨cl118, h118⟩, fun _ h => by cases h⟩)
theorem lo100 : loopsOf (c100) = [] := by kernel_rfl
noncomputable def l100 : List Loop := []
def Q100 {α : Type} (l : Option (r100).den → α) (an : α → α → α) (x : (a100).den) : α := bif (decide ((W (x.2.1 + (1 : Int))) = ((x.1.1.n : Nat) : Int))) then l (some ((-1 : Int), ())) else bif (decide (((0 : Int) ≤ (W (x.2.1 + (1 : Int)))) ∧ ((W (x.2.1 + (1 : Int))) < ((x.1.2.2.2.2.2.1.n : Nat) : Int)))) then cl (r118).dflt (M118 ((x.1.2.2.2.2.2.1.g (Int.toNat (W (x.2.1 + (1 : Int))))).1, x.2.2)) (fun u0 => l (some u0)) (l none) else l none
theorem q100 (x : (a100).den) : runFn Try.prog E0 G100 Try.f100 l100 a100 r100 x = Q100 .leaf .any x := by kernel_rfl
def M100 (x : (a100).den) : Option (r100).den := Q100 (fun r => r) (fun _ _ => none) x
theorem m100 (x : (a100).den) : (runFn Try.prog E0 G100 Try.f100 l100 a100 r100 x).sure = M100 x := by rw [q100]; unfold M100 Q100; simp only [Tree.sure, sus]
def p100 (x : (a100).den) : Bool := (M100 x).isSome
def v100 (x : (a100).den) : (r100).den := (M100 x).getD (r100).dflt
def k100 : Con := ⟨a100, r100, p100, v100⟩
theorem h100 : Holds Try.prog 100 k100 := holds_of_M' (E := E0) follows_ok g100 eqTy_sound keyTy_sound at100 bd100 (by kernel_rfl) m100 fun G' hlo hF hE => LsOK_kn (by rw [lo100]; exact .nil)
noncomputable def c65 : Code := Try.f65.body.getD .skip
theorem at65 : Try.prog.funcs[65]? = some Try.f65 := by kernel_rfl
theorem bd65 : Try.f65.body = some c65 := by kernel_rfl
theorem cl65 : Callable Try.prog 65 := callable_of at65 (by kernel_rfl) (by kernel_rfl)
abbrev T73 : Ty := (.agg T4)
abbrev T74 : Ty := (.map T73 tI)
abbrev T75 : Ty := (.cons T74 T0)
abbrev a65 : Ty := T19
abbrev r65 : Ty := T75
noncomputable def G65 : Ctx := Ctx.of [(81, .pure k81), (100, .pure k100)]
theorem g65 : Sound Try.prog (G65) := sound_of (List.forall_mem_cons.2 ⟨⟨cl81, h81⟩, List.forall_mem_cons.2 ⟨⟨cl100, h100⟩, fun _ h => by cases h⟩⟩)
noncomputable def b65x0 : Code := rangeBody ((loopsOf (c65))[0]?)
noncomputable def as65x0 : Code := rangeAs ((loopsOf (c65))[0]?)
abbrev mp65x0 : List Pat := [.slot 1 (.ptr 1), .slot 4 (.ptr 85), .slot 5 (.ptr 86), .box 1 [.pc T16, .pc tI, .pc tI, .pc tI, .pc tI], .box 85 [.mp 91], .box 86 [.pc tI], .mp 91 T73 tI]
noncomputable def b65x0x0 : Code := loopBody ((loopsOf (b65x0))[0]?)
noncomputable def b65x0x0x0 : Code := loopBody ((loopsOf (b65x0x0))[0]?)
theorem lo65x0x0x0 : loopsOf (b65x0x0x0) = [] := by kernel_rfl
abbrev cs65x0x0x0 : List Pat := [.slot 1 (.ptr 1), .slot 4 (.ptr 85), .slot 5 (.ptr 86), .slot 6 (.ptr 500006), .slot 7 (.pc tI), .slot 18 (.pc tI), .slot 19 (.pc tI), .slot 26 (.pc (.sl T0)), .slot 27 (.pc tI), .box 1 [.pc T16, .pc tI, .pc tI, .pc tI, .pc tI], .box 86 [.pc tI], .box 500006 [.pc T16, .pc tI, .pc tI, .pc tI, .pc tI, .pc T42]]
abbrev vs65x0x0x0 : List Pat := [.slot 28 (.pc tI), .box 85 [.mp 91], .mp 91 T73 tI]
abbrev ps65x0x0x0 : List Pat := cs65x0x0x0 ++ vs65x0x0x0
def j65x0x0x0 : ZJ cs65x0x0x0 vs65x0x0x0 ps65x0x0x0 := ZA _ _
def sp65x0x0x0 : ZS cs65x0x0x0 vs65x0x0x0 ps65x0x0x0 := ZP _ _
abbrev wy65x0x0x0 : Ways := ⟨[(4, [.slot 1 (.ptr 1), .slot 4 (.ptr 85), .slot 5 (.ptr 86), .slot 6 (.ptr 500006), .slot 18 (.pc tI), .slot 19 (.pc tI), .box 1 [.pc T16, .pc tI, .pc tI, .pc tI, .pc tI], .box 86 [.pc tI], .box 500006 [.pc T16, .pc tI, .pc tI, .pc tI, .pc tI, .pc T42], .box 85 [.mp 91], .mp 91 T73 tI])], [], []⟩
abbrev wv65x0x0x0 : Ways := ⟨[(4, [.box 85 [.mp 91], .mp 91 T73 tI])], [], []⟩
def je65x0x0x0 : ZE cs65x0x0x0 wv65x0x0x0 wy65x0x0x0 := fun id => match id with | 4 => fun c y => (c.1, (c.2.1, (c.2.2.1, (c.2.2.2.1, (c.2.2.2.2.2.1, (c.2.2.2.2.2.2.1, (c.2.2.2.2.2.2.2.2.2.1, (c.2.2.2.2.2.2.2.2.2.2.1, (c.2.2.2.2.2.2.2.2.2.2.2.1, y))))))))) | _ => ZDf
def Z65x0x0x0 {α : Type} (l : RQ vs65x0x0x0 wv65x0x0x0 → α) (an : α → α → α) (c : ZD cs65x0x0x0) (v : ZD vs65x0x0x0) : α := bif (decide (v.1 < c.2.2.2.2.2.2.2.2.1)) then bif (decide (((0 : Int) ≤ v.1) ∧ (v.1 < ((c.2.2.2.2.2.2.2.1.n : Nat) : Int)))) then bif (decide (c.2.2.2.2.1 = (0 : Int))) then bif (decide ((W (c.2.2.2.2.1 + (1 : Int))) < ((c.2.2.2.2.2.2.2.2.2.1.1.n : Nat) : Int))) then cl (r100).dflt (M100 (c.2.2.2.2.2.2.2.2.2.2.2.1, (c.2.2.2.2.1, (v.1, ())))) (fun u0 => bif (decide (u0.1 < (0 : Int))) then l (.next ((W (v.1 + (1 : Int))), (((), ()), ((setMap (eqD T73) v.2.2.1 ((2 : Int), (c.2.2.2.2.1, (v.1, ((0 : Int), ())))) (W ((Option.getD (v.2.2.1 ((2 : Int), (c.2.2.2.2.1, (v.1, ((0 : Int), ()))))) (0 : Int)) + (1 : Int)))), ())))) else l (.next ((W (v.1 + (1 : Int))), (((), ()), v.2.2)))) (l .bad) else l (.next ((W (v.1 + (1 : Int))), (((), ()), v.2.2))) else bif (decide ((c.2.2.2.2.2.2.2.1.g (Int.toNat v.1)).1 < (0 : Int))) then bif (decide ((W (c.2.2.2.2.1 + (1 : Int))) < ((c.2.2.2.2.2.2.2.2.2.1.1.n : Nat) : Int))) then cl (r100).dflt (M100 (c.2.2.2.2.2.2.2.2.2.2.2.1, (c.2.2.2.2.1, (v.1, ())))) (fun u1 => bif (decide (u1.1 < (0 : Int))) then l (.next ((W (v.1 + (1 : Int))), (((), ()), ((setMap (eqD T73) (setMap (eqD T73) v.2.2.1 ((1 : Int), (c.2.2.2.2.1, (v.1, ((0 : Int), ())))) (W ((Option.getD (v.2.2.1 ((1 : Int), (c.2.2.2.2.1, (v.1, ((0 : Int), ()))))) (0 : Int)) + (1 : Int)))) ((2 : Int), (c.2.2.2.2.1, (v.1, ((0 : Int), ())))) (W ((Option.getD (setMap (eqD T73) v.2.2.1 ((1 : Int), (c.2.2.2.2.1, (v.1, ((0 : Int), ())))) (W ((Option.getD (v.2.2.1 ((1 : Int), (c.2.2.2.2.1, (v.1, ((0 : Int), ()))))) (0 : Int)) + (1 : Int))) ((2 : Int), (c.2.2.2.2.1, (v.1, ((0 : Int), ()))))) (0 : Int)) + (1 : Int)))), ())))) else l (.next ((W (v.1 + (1 : Int))), (((), ()), ((setMap (eqD T73) v.2.2.1 ((1 : Int), (c.2.2.2.2.1, (v.1, ((0 : Int), ())))) (W ((Option.getD (v.2.2.1 ((1 : Int), (c.2.2.2.2.1, (v.1, ((0 : Int), ()))))) (0 : Int)) + (1 : Int)))), ()))))) (l .bad) else l (.next ((W (v.1 + (1 : Int))), (((), ()), ((setMap (eqD T73) v.2.2.1 ((1 : Int), (c.2.2.2.2.1, (v.1, ((0 : Int), ())))) (W ((Option.getD (v.2.2.1 ((1 : Int), (c.2.2.2.2.1, (v.1, ((0 : Int), ()))))) (0 : Int)) + (1 : Int)))), ())))) else bif (decide ((W (c.2.2.2.2.1 + (1 : Int))) < ((c.2.2.2.2.2.2.2.2.2.1.1.n : Nat) : Int))) then cl (r100).dflt (M100 (c.2.2.2.2.2.2.2.2.2.2.2.1, (c.2.2.2.2.1, (v.1, ())))) (fun u2 => bif (decide (u2.1 < (0 : Int))) then l (.next ((W (v.1 + (1 : Int))), (((), ()), ((setMap (eqD T73) (setMap (eqD T73) v.2.2.1 ((0 : Int), (c.2.2.2.2.1, (v.1, (c.2.2.2.2.2.2.2.1.g (Int.toNat v.1))))) (W ((Option.getD (v.2.2.1 ((0 : Int), (c.2.2.2.2.1, (v.1, (c.2.2.2.2.2.2.2.1.g (Int.toNat v.1)))))) (0 : Int)) + (1 : Int)))) ((2 : Int), (c.2.2.2.2.1, (v.1, ((0 : Int), ())))) (W ((Option.getD (setMap (eqD T73) v.2.2.1 ((0 : Int), (c.2.2.2.2.1, (v.1, (c.2.2.2.2.2.2.2.1.g (Int.toNat v.1))))) (W ((Option.getD (v.2.2.1 ((0 : Int), (c.2.2.2.2.1, (v.1, (c.2.2.2.2.2.2.2.1.g (Int.toNat v.1)))))) (0 : Int)) + (1 : Int))) ((2 : Int), (c.2.2.2.2.1, (v.1, ((0 : Int), ()))))) (0 : Int)) + (1 : Int)))), ())))) else l (.next ((W (v.1 + (1 : Int))), (((), ()), ((setMap (eqD T73) v.2.2.1 ((0 : Int), (c.2.2.2.2.1, (v.1, (c.2.2.2.2.2.2.2.1.g (Int.toNat v.1))))) (W ((Option.getD (v.2.2.1 ((0 : Int), (c.2.2.2.2.1, (v.1, (c.2.2.2.2.2.2.2.1.g (Int.toNat v.1)))))) (0 : Int)) + (1 : Int)))), ()))))) (l .bad) else l (.next ((W (v.1 + (1 : Int))), (((), ()), ((setMap (eqD T73) v.2.2.1 ((0 : Int), (c.2.2.2.2.1, (v.1, (c.2.2.2.2.2.2.2.1.g (Int.toNat v.1))))) (W ((Option.getD (v.2.2.1 ((0 : Int), (c.2.2.2.2.1, (v.1, (c.2.2.2.2.2.2.2.1.g (Int.toNat v.1)))))) (0 : Int)) + (1 : Int)))), ())))) else l .bad else l (.out (.exit 4 (((), ()), v.2.2)))
theorem z65x0x0x0 (c : ZD cs65x0x0x0) (v : ZD vs65x0x0x0) : roundQ Try.prog (E0.rw [] [2000]).noDfr G65 500000 81 [] ps65x0x0x0 wy65x0x0x0 b65x0x0x0 [] (j65x0x0x0 c v) = Z65x0x0x0 (fun r => .leaf (r.lift j65x0x0x0 je65x0x0x0 ZI ZI c)) .any c v := by kernel_rfl
def S65x0x0x0 (c : ZD cs65x0x0x0) (v : ZD vs65x0x0x0) : RQ vs65x0x0x0 wv65x0x0x0 := Z65x0x0x0 (fun r => r) (fun _ _ => .bad) c v
theorem s65x0x0x0 (c : ZD cs65x0x0x0) (v : ZD vs65x0x0x0) : detQ (roundQ Try.prog (E0.rw [] [2000]).noDfr G65 500000 81 [] ps65x0x0x0 wy65x0x0x0 b65x0x0x0 [] (j65x0x0x0 c v)) = (S65x0x0x0 c v).lift j65x0x0x0 je65x0x0x0 ZI ZI c := by rw [z65x0x0x0]; unfold S65x0x0x0 Z65x0x0x0; simp only [detQ, lift_bad, dqs]
def L65x0x0x0 (c : ZD cs65x0x0x0) (v : ZD vs65x0x0x0) : LQ wv65x0x0x0 := iterQ (S65x0x0x0 c) big v
theorem lo65x0x0 : loopsOf (b65x0x0) = [.loop b65x0x0x0] := by kernel_rfl
abbrev cs65x0x0 : List Pat := [.slot 1 (.ptr 1), .slot 4 (.ptr 85), .slot 5 (.ptr 86), .slot 6 (.ptr 500006), .slot 18 (.pc tI), .box 1 [.pc T16, .pc tI, .pc tI, .pc tI, .pc tI], .box 86 [.pc tI], .box 500006 [.pc T16, .pc tI, .pc tI, .pc tI, .pc tI, .pc T42]]
abbrev vs65x0x0 : List Pat := [.slot 19 (.pc tI), .box 85 [.mp 91], .mp 91 T73 tI]
abbrev ps65x0x0 : List Pat := cs65x0x0 ++ vs65x0x0
def j65x0x0 : ZJ cs65x0x0 vs65x0x0 ps65x0x0 := ZA _ _
def sp65x0x0 : ZS cs65x0x0 vs65x0x0 ps65x0x0 := ZP _ _
abbrev wy65x0x0 : Ways := ⟨[(2, [.slot 1 (.ptr 1), .slot 4 (.ptr 85), .slot 5 (.ptr 86), .box 1 [.pc T16, .pc tI, .pc tI, .pc tI, .pc tI], .box 86 [.pc tI], .box 85 [.mp 91], .mp 91 T73 tI])], [], []⟩
abbrev wv65x0x0 : Ways := ⟨[(2, [.box 85 [.mp 91], .mp 91 T73 tI])], [], []⟩
def je65x0x0 : ZE cs65x0x0 wv65x0x0 wy65x0x0 := fun id => match id with | 2 => fun c y => (c.1, (c.2.1, (c.2.2.1, (c.2.2.2.2.2.1, (c.2.2.2.2.2.2.1, y))))) | _ => ZDf
def Z65x0x0 {α : Type} (l : RQ vs65x0x0 wv65x0x0 → α) (an : α → α → α) (c : ZD cs65x0x0) (v : ZD vs65x0x0) : α := bif (decide (v.1 < c.2.2.2.2.1)) then bif (decide (((0 : Int) ≤ v.1) ∧ (v.1 < ((c.2.2.2.2.2.2.2.1.2.2.2.2.2.1.n : Nat) : Int)))) then onExit (L65x0x0x0 ((), ((), ((), ((), (v.1, (c.2.2.2.2.1, (v.1, ((c.2.2.2.2.2.2.2.1.2.2.2.2.2.1.g (Int.toNat v.1)).1, ((((c.2.2.2.2.2.2.2.1.2.2.2.2.2.1.g (Int.toNat v.1)).1.n : Nat) : Int), (c.2.2.2.2.2.1, (c.2.2.2.2.2.2.1, (c.2.2.2.2.2.2.2.1, ())))))))))))) ((0 : Int), (((), ()), v.2.2))) 4 (fun u3 => l (.next ((W (v.1 + (1 : Int))), (((), ()), u3.2)))) (l .bad) else l .bad else l (.out (.exit 2 (((), ()), v.2.2)))
theorem z65x0x0 (c : ZD cs65x0x0) (v : ZD vs65x0x0) : roundQ Try.prog (E0.rw [] [2000]).noDfr G65 500000 81 [] ps65x0x0 wy65x0x0 b65x0x0 [.known (loopZ 500000 [] ps65x0x0x0 fun x => spreadV wy65x0x0x0 je65x0x0x0 ZI ZI [] false (sp65x0x0x0 x).1 (L65x0x0x0 (sp65x0x0x0 x).1 (sp65x0x0x0 x).2) wy65x0x0x0.exits)] (j65x0x0 c v) = Z65x0x0 (fun r => .leaf (r.lift j65x0x0 je65x0x0 ZI ZI c)) .any c v := by kernel_rfl
def S65x0x0 (c : ZD cs65x0x0) (v : ZD vs65x0x0) : RQ vs65x0x0 wv65x0x0 := Z65x0x0 (fun r => r) (fun _ _ => .bad) c v
theorem s65x0x0 (c : ZD cs65x0x0) (v : ZD vs65x0x0) : detQ (roundQ Try.prog (E0.rw [] [2000]).noDfr G65 500000 81 [] ps65x0x0 wy65x0x0 b65x0x0 [.known (loopZ 500000 [] ps65x0x0x0 fun x => spreadV wy65x0x0x0 je65x0x0x0 ZI ZI [] false (sp65x0x0x0 x).1 (L65x0x0x0 (sp65x0x0x0 x).1 (sp65x0x0x0 x).2) wy65x0x0x0.exits)] (j65x0x0 c v)) = (S65x0x0 c v).lift j65x0x0 je65x0x0 ZI ZI c := by rw [z65x0x0]; unfold S65x0x0 Z65x0x0; simp only [detQ, lift_bad, dqs]
def L65x0x0 (c : ZD cs65x0x0) (v : ZD vs65x0x0) : LQ wv65x0x0 := iterQ (S65x0x0 c) big v
theorem lo65x0 : loopsOf (b65x0) = [.loop b65x0x0] := by kernel_rfl
def Z65x0 {α : Type} (l : RO mp65x0 → α) (an : α → α → α) (x : ZD mp65x0) (it : Ty.den T50) : α := onExit (L65x0x0 ((), ((), ((), ((), (((x.2.2.2.1.1.n : Nat) : Int), (x.2.2.2.1, (((W (x.2.2.2.2.2.1.1 + (1 : Int))), ()), (it.1, ())))))))) ((0 : Int), (((), ()), x.2.2.2.2.2.2))) 2 (fun u4 => l (.next ((), ((), ((), (x.2.2.2.1, (((), ()), (((W (x.2.2.2.2.2.1.1 + (1 : Int))), ()), u4.2)))))))) (l .bad)
theorem z65x0 (x : ZD mp65x0) (it : Ty.den T50) : stepR Try.prog (E0.rw [] [2000]) G65 0 500000 81 [13] as65x0 b65x0 [] [.known (loopZ 500000 [] ps65x0x0 fun x => spreadV wy65x0x0 je65x0x0 ZI ZI [] false (sp65x0x0 x).1 (L65x0x0 (sp65x0x0 x).1 (sp65x0x0 x).2) wy65x0x0.exits)] T50 mp65x0 x it = Z65x0 .leaf .any x it := by kernel_rfl
def S65x0 (x : ZD mp65x0) (it : Ty.den T50) : RO mp65x0 := Z65x0 (fun r => r) (fun _ _ => .bad) x it
theorem s65x0 (x : ZD mp65x0) (it : Ty.den T50) : (stepR Try.prog (E0.rw [] [2000]) G65 0 500000 81 [13] as65x0 b65x0 [] [.known (loopZ 500000 [] ps65x0x0 fun x => spreadV wy65x0x0 je65x0x0 ZI ZI [] false (sp65x0x0 x).1 (L65x0x0 (sp65x0x0 x).1 (sp65x0x0 x).2) wy65x0x0.exits)] T50 mp65x0 x it).detB .bad = S65x0 x it := by rw [z65x0]; unfold S65x0 Z65x0; simp only [detB_cond, Tree.detB, detB_cl, detB_onExit, detB_onPanL]
def L65x0 (x : ZD mp65x0) (l : List (Ty.den T50)) : RO mp65x0 := runAllD S65x0 x l
theorem lo65 : loopsOf (c65) = [.rangeFunc (.tmp 12) #[13] as65x0 b65x0] := by kernel_rfl
noncomputable def l65 : List Loop := [.known (rangeD 0 [] 12 T50 mp65x0 [] [] (fun x l => L65x0 x l))]
def Q65 {α : Type} (l : Option (r65).den → α) (an : α → α → α) (x : (a65).den) : α := cl (r81).dflt (M81 (x.1, ())) (fun u5 => onNext (L65x0 ((), ((), ((), (x.1, (((), ()), (((0 : Int), ()), ((fun y1 => none), ()))))))) (Sl.list u5.1)) (fun u6 => l (some (u6.2.2.2.2.2.2.1, u6.2.2.2.2.2.1))) (onRetO (L65x0 ((), ((), ((), (x.1, (((), ()), (((0 : Int), ()), ((fun y1 => none), ()))))))) (Sl.list u5.1)) (fun u7 => l none) (l none))) (l none)
theorem q65 (x : (a65).den) : runFn Try.prog (E0.rw [] [2000]) G65 Try.f65 l65 a65 r65 x = Q65 .leaf .any x := by kernel_rfl
def M65 (x : (a65).den) : Option (r65).den := Q65 (fun r => r) (fun _ _ => none) x
theorem m65 (x : (a65).den) : (runFn Try.prog (E0.rw [] [2000]) G65 Try.f65 l65 a65 r65 x).sure = M65 x := by rw [q65]; unfold M65 Q65; simp only [Tree.sure, sus]
def p65 (x : (a65).den) : Bool := (M65 x).isSome
def v65 (x : (a65).den) : (r65).den := (M65 x).getD (r65).dflt
def k65 : Con := ⟨a65, r65, p65, v65⟩
theorem h65 : Holds Try.prog 65 k65 := holds_of_M' (E := (E0.rw [] [2000])) follows_ok g65 eqTy_sound keyTy_sound at65 bd65 (by kernel_rfl) m65 fun G' hlo hF hE => LsOK_kn (by rw [lo65]; exact .cons (rangeD_ok hE hF hlo at65 (by kernel_rfl) (by kernel_rfl) (by kernel_rfl) (by kernel_rfl) (by kernel_rfl) (fun G' hlo hF l hE => LsOK_nil) (fun G' hlo hF l hE => LsOK_kn (by rw [lo65x0]; exact .cons (loopV_ok hE hF hlo (LsOK_kn (by rw [lo65x0x0]; exact .cons (loopV_ok hE hF hlo (LsOK_kn (by rw [lo65x0x0x0]; exact .nil)) (by kernel_rfl) (by kernel_rfl) sp65x0x0x0 (fun _ => rfl) (fun _ _ => rfl) (s65x0x0x0) big) (.nil))) (by kernel_rfl) (by kernel_rfl) sp65x0x0 (fun _ => rfl) (fun _ _ => rfl) (s65x0x0) big) (.nil))) s65x0) (.nil))
noncomputable def c66 : Code := Try.f66.body.getD .skip
theorem at66 : Try.prog.funcs[66]? = some Try.f66 := by kernel_rfl
theorem bd66 : Try.f66.body = some c66 := by kernel_rfl
theorem cl66 : Callable Try.prog 66 := callable_of at66 (by kernel_rfl) (by kernel_rfl)
abbrev a66 : Ty := T1
abbrev r66 : Ty := T0
noncomputable def G66 : Ctx := Ctx.of []
theorem g66 : Sound Try.prog (G66) := sound_of (fun _ h => by cases h)
theorem lo66 : loopsOf (c66) = [] := by kernel_rfl
noncomputable def l66 : List Loop := []
def Q66 {α : Type} (l : Option (r66).den → α) (an : α → α → α) (x : (a66).den) : α := bif (decide (x.1 = (0 : Int))) then l (some ((1 : Int), ())) else bif (decide (x.1 = x.2.1)) then l (some ((3 : Int), ())) else l (some ((2 : Int), ()))
theorem q66 (x : (a66).den) : runFn Try.prog E0 G66 Try.f66 l66 a66 r66 x = Q66 .leaf .any x := by kernel_rfl
def M66 (x : (a66).den) : Option (r66).den := Q66 (fun r => r) (fun _ _ => none) x
theorem m66 (x : (a66).den) : (runFn Try.prog E0 G66 Try.f66 l66 a66 r66 x).sure = M66 x := by rw [q66]; unfold M66 Q66; simp only [Tree.sure, sus]
def p66 (x : (a66).den) : Bool := (M66 x).isSome
def v66 (x : (a66).den) : (r66).den := (M66 x).getD (r66).dflt
def k66 : Con := ⟨a66, r66, p66, v66⟩
theorem h66 : Holds Try.prog 66 k66 := holds_of_M' (E := E0) follows_ok g66 eqTy_sound keyTy_sound at66 bd66 (by kernel_rfl) m66 fun G' hlo hF hE => LsOK_kn (by rw [lo66]; exact .nil)
noncomputable def c18 : Code := Try.f18.body.getD .skip
theorem at18 : Try.prog.funcs[18]? = some Try.f18 := by kernel_rfl
theorem bd18 : Try.f18.body = some c18 := by kernel_rfl
theorem cl18 : Callable Try.prog 18 := callable_of at18 (by kernel_rfl) (by kernel_rfl)
abbrev T76 : Ty := (.cons T18 T0)
abbrev T77 : Ty := (.cons T42 T0)
abbrev a18 : Ty := T76
abbrev r18 : Ty := T77
noncomputable def G18 : Ctx := Ctx.of [(63, .pure k63), (64, .pure k64), (65, .pure k65), (66, .pure k66)]
theorem g18 : Sound Try.prog (G18) := sound_of (List.forall_mem_cons.2 ⟨⟨cl63, h63⟩, List.forall_mem_cons.2 ⟨⟨cl64, h64⟩, List.forall_mem_cons.2 ⟨⟨cl65, h65⟩, List.forall_mem_cons.2 ⟨⟨cl66, h66⟩, fun _ h => by cases h⟩⟩⟩⟩)
noncomputable def b18x0 : Code := loopBody ((loopsOf (c18))[0]?)
noncomputable def b18x0x0 : Code := loopBody ((loopsOf (b18x0))[0]?)
theorem lo18x0x0 : loopsOf (b18x0x0) = [] := by kernel_rfl
abbrev cs18x0x0 : List Pat := [.slot 1 (.pc tI), .slot 2 (.ptr 2), .slot 7 (.pc T74), .slot 8 (.pc tI), .slot 9 (.own 1000009 46 T30), .slot 10 (.pc tI), .slot 35 (.pc tI), .slot 36 (.pc tI), .slot 46 (.pc tI), .box 2 [.pc T16, .pc tI, .pc tI, .pc tI, .pc tI]]
abbrev vs18x0x0 : List Pat := [.slot 11 (.own 1000011 47 T0), .slot 47 (.pc tI)]
abbrev ps18x0x0 : List Pat := cs18x0x0 ++ vs18x0x0
def j18x0x0 : ZJ cs18x0x0 vs18x0x0 ps18x0x0 := ZA _ _
def sp18x0x0 : ZS cs18x0x0 vs18x0x0 ps18x0x0 := ZP _ _
abbrev wy18x0x0 : Ways := ⟨[(2, [.slot 1 (.pc tI), .slot 2 (.ptr 2), .slot 7 (.pc T74), .slot 8 (.pc tI), .slot 9 (.own 1000009 46 T30), .slot 35 (.pc tI), .slot 36 (.pc tI), .box 2 [.pc T16, .pc tI, .pc tI, .pc tI, .pc tI], .slot 11 (.pc (.sl T0))])], [], []⟩
abbrev wv18x0x0 : Ways := ⟨[(2, [.slot 11 (.pc (.sl T0))])], [], []⟩
def je18x0x0 : ZE cs18x0x0 wv18x0x0 wy18x0x0 := fun id => match id with | 2 => fun c y => (c.1, (c.2.1, (c.2.2.1, (c.2.2.2.1, (c.2.2.2.2.1, (c.2.2.2.2.2.2.1, (c.2.2.2.2.2.2.2.1, (c.2.2.2.2.2.2.2.2.2.1, y)))))))) | _ => ZDf
def Z18x0x0 {α : Type} (l : RQ vs18x0x0 wv18x0x0 → α) (an : α → α → α) (c : ZD cs18x0x0) (v : ZD vs18x0x0) : α := bif (decide (v.2.1 < c.2.2.2.2.2.2.2.2.1)) then cl (r66).dflt (M66 ((Option.getD (c.2.2.1 ((0 : Int), (c.1, (c.2.2.2.2.2.1, v.2)))) (0 : Int)), (c.2.2.2.1, ()))) (fun u0 => bif (decide (((v.1.n + 1) * 8) ≤ 140737488355328)) then l (.next ((catSl v.1 (⟨1, fun i => List.getD [u0] i u0⟩ : Sl (Ty.den T0))), ((W (v.2.1 + (1 : Int))), ()))) else l .bad) (l .bad) else l (.out (.exit 2 (v.1, ())))
theorem z18x0x0 (c : ZD cs18x0x0) (v : ZD vs18x0x0) : roundQ Try.prog E0 G18 0 68 [] ps18x0x0 wy18x0x0 b18x0x0 [] (j18x0x0 c v) = Z18x0x0 (fun r => .leaf (r.lift j18x0x0 je18x0x0 ZI ZI c)) .any c v := by kernel_rfl
def S18x0x0 (c : ZD cs18x0x0) (v : ZD vs18x0x0) : RQ vs18x0x0 wv18x0x0 := Z18x0x0 (fun r => r) (fun _ _ => .bad) c v
theorem s18x0x0 (c : ZD cs18x0x0) (v : ZD vs18x0x0) : detQ (roundQ Try.prog E0 G18 0 68 [] ps18x0x0 wy18x0x0 b18x0x0 [] (j18x0x0 c v)) = (S18x0x0 c v).lift j18x0x0 je18x0x0 ZI ZI c := by rw [z18x0x0]; unfold S18x0x0 Z18x0x0; simp only [detQ, lift_bad, dqs]
def L18x0x0 (c : ZD cs18x0x0) (v : ZD vs18x0x0) : LQ wv18x0x0 := iterQ (S18x0x0 c) big v
theorem lo18x0 : loopsOf (b18x0) = [.loop b18x0x0] := by kernel_rfl
abbrev cs18x0 : List Pat := [.slot 1 (.pc tI), .slot 2 (.ptr 2), .slot 7 (.pc T74), .slot 8 (.pc tI), .slot 35 (.pc tI), .box 2 [.pc T16, .pc tI, .pc tI, .pc tI, .pc tI]]
abbrev vs18x0 : List Pat := [.slot 9 (.own 1000009 46 T30), .slot 36 (.pc tI)]
abbrev ps18x0 : List Pat := cs18x0 ++ vs18x0
def j18x0 : ZJ cs18x0 vs18x0 ps18x0 := ZA _ _
def sp18x0 : ZS cs18x0 vs18x0 ps18x0 := ZP _ _
abbrev wy18x0 : Ways := ⟨[(0, [.slot 9 (.pc (.sl T30))])], [], []⟩
abbrev wv18x0 : Ways := ⟨[(0, [.slot 9 (.pc (.sl T30))])], [], []⟩
def je18x0 : ZE cs18x0 wv18x0 wy18x0 := fun id => match id with | 0 => fun c y => y | _ => ZDf
def Z18x0 {α : Type} (l : RQ vs18x0 wv18x0 → α) (an : α → α → α) (c : ZD cs18x0) (v : ZD vs18x0) : α := bif (decide (v.2.1 < c.2.2.2.2.1)) then bif (decide (((0 : Int) ≤ (W (c.1 - (1 : Int)))) ∧ ((W (c.1 - (1 : Int))) < ((c.2.2.2.2.2.1.1.n : Nat) : Int)))) then onExit (L18x0x0 (c.1, ((), (c.2.2.1, (c.2.2.2.1, (v.1, (v.2.1, (c.2.2.2.2.1, (v.2.1, ((((c.2.2.2.2.2.1.1.g (Int.toNat (W (c.1 - (1 : Int))))).2.1.n : Nat) : Int), (c.2.2.2.2.2.1, ())))))))))) ((⟨0, fun i => ((0 : Int), ())⟩ : Sl _), ((0 : Int), ()))) 2 (fun u1 => bif (decide (((v.1.n + 1) * 24) ≤ 140737488355328)) then l (.next ((catSl v.1 (⟨1, fun i => List.getD [u1] i u1⟩ : Sl (Ty.den T30))), ((W (v.2.1 + (1 : Int))), ()))) else l .bad) (l .bad) else l .bad else l (.out (.exit 0 (v.1, ())))
theorem z18x0 (c : ZD cs18x0) (v : ZD vs18x0) : roundQ Try.prog E0 G18 0 68 [] ps18x0 wy18x0 b18x0 [.known (loopZ 0 [] ps18x0x0 fun x => spreadV wy18x0x0 je18x0x0 ZI ZI [] false (sp18x0x0 x).1 (L18x0x0 (sp18x0x0 x).1 (sp18x0x0 x).2) wy18x0x0.exits)] (j18x0 c v) = Z18x0 (fun r => .leaf (r.lift j18x0 je18x0 ZI ZI c)) .any c v := by kernel_rfl
def S18x0 (c : ZD cs18x0) (v : ZD vs18x0) : RQ vs18x0 wv18x0 := Z18x0 (fun r => r) (fun _ _ => .bad) c v
theorem s18x0 (c : ZD cs18x0) (v : ZD vs18x0) : detQ (roundQ Try.prog E0 G18 0 68 [] ps18x0 wy18x0 b18x0 [.known (loopZ 0 [] ps18x0x0 fun x => spreadV wy18x0x0 je18x0x0 ZI ZI [] false (sp18x0x0 x).1 (L18x0x0 (sp18x0x0 x).1 (sp18x0x0 x).2) wy18x0x0.exits)] (j18x0 c v)) = (S18x0 c v).lift j18x0 je18x0 ZI ZI c := by rw [z18x0]; unfold S18x0 Z18x0; simp only [detQ, lift_bad, dqs]
def L18x0 (c : ZD cs18x0) (v : ZD vs18x0) : LQ wv18x0 := iterQ (S18x0 c) big v
theorem lo18 : loopsOf (c18) = [.loop b18x0] := by kernel_rfl
noncomputable def l18 : List Loop := [.known (loopZ 0 [] ps18x0 fun x => spreadV wy18x0 je18x0 ZI ZI [] false (sp18x0 x).1 (L18x0 (sp18x0 x).1 (sp18x0 x).2) wy18x0.exits)]
def Q18 {α : Type} (l : Option (r18).den → α) (an : α → α → α) (x : (a18).den) : α := cl (r64).dflt (M64 (x.2.1, ((1 : Int), ((W (((x.1.1.n : Nat) : Int) - (1 : Int))), ())))) (fun u2 => cl (r63).dflt (M63 (x.1, u2)) (fun u3 => bif (!(decide (u3.1 = (0 : Int)))) then l (some ((⟨0, fun i => ((⟨0, fun i => ((0 : Int), ())⟩ : Sl _), ())⟩ : Sl _), u3)) else cl (r65).dflt (M65 (x.1, ())) (fun u4 => bif (decide (((0 : Int) ≤ x.2.1) ∧ (x.2.1 < ((x.1.1.n : Nat) : Int)))) then onExit (L18x0 (x.2.1, ((), (u4.1, (u4.2.1, ((((x.1.1.g (Int.toNat x.2.1)).2.1.n : Nat) : Int), (x.1, ())))))) ((⟨0, fun i => ((⟨0, fun i => ((0 : Int), ())⟩ : Sl _), ())⟩ : Sl _), ((0 : Int), ()))) 0 (fun u5 => l (some (u5.1, ((0 : Int), ())))) (l none) else l none) (l none)) (l none)) (l none)
theorem q18 (x : (a18).den) : runFn Try.prog E0 G18 Try.f18 l18 a18 r18 x = Q18 .leaf .any x := by kernel_rfl
def M18 (x : (a18).den) : Option (r18).den := Q18 (fun r => r) (fun _ _ => none) x
theorem m18 (x : (a18).den) : (runFn Try.prog E0 G18 Try.f18 l18 a18 r18 x).sure = M18 x := by rw [q18]; unfold M18 Q18; simp only [Tree.sure, sus]
def p18 (x : (a18).den) : Bool := (M18 x).isSome
def v18 (x : (a18).den) : (r18).den := (M18 x).getD (r18).dflt
def k18 : Con := ⟨a18, r18, p18, v18⟩
theorem h18 : Holds Try.prog 18 k18 := holds_of_M' (E := E0) follows_ok g18 eqTy_sound keyTy_sound at18 bd18 (by kernel_rfl) m18 fun G' hlo hF hE => LsOK_kn (by rw [lo18]; exact .cons (loopV_ok hE hF hlo (LsOK_kn (by rw [lo18x0]; exact .cons (loopV_ok hE hF hlo (LsOK_kn (by rw [lo18x0x0]; exact .nil)) (by kernel_rfl) (by kernel_rfl) sp18x0x0 (fun _ => rfl) (fun _ _ => rfl) (s18x0x0) big) (.nil))) (by kernel_rfl) (by kernel_rfl) sp18x0 (fun _ => rfl) (fun _ _ => rfl) (s18x0) big) (.nil))
noncomputable def c67 : Code := Try.f67.body.getD .skip
theorem at67 : Try.prog.funcs[67]? = some Try.f67 := by kernel_rfl
theorem bd67 : Try.f67.body = some c67 := by kernel_rfl
theorem cl67 : Callable Try.prog 67 := callable_of at67 (by kernel_rfl) (by kernel_rfl)
abbrev T78 : Ty := (.cons T18 T2)
abbrev a67 : Ty := T78
abbrev r67 : Ty := T77
noncomputable def G67 : Ctx := Ctx.of [(63, .pure k63), (65, .pure k65), (66, .pure k66)]
theorem g67 : Sound Try.prog (G67) := sound_of (List.forall_mem_cons.2 ⟨⟨cl63, h63⟩, List.forall_mem_cons.2 ⟨⟨cl65, h65⟩, List.forall_mem_cons.2 ⟨⟨cl66, h66⟩, fun _ h => by cases h⟩⟩⟩)
noncomputable def b67x0 : Code := loopBody ((loopsOf (c67))[0]?)
noncomputable def b67x0x0 : Code := loopBody ((loopsOf (b67x0))[0]?)
theorem lo67x0x0 : loopsOf (b67x0x0) = [] := by kernel_rfl
abbrev cs67x0x0 : List Pat := [.slot 1 (.pc tI), .slot 2 (.pc tI), .slot 4 (.ptr 4), .slot 11 (.pc T74), .slot 12 (.pc tI), .slot 13 (.own 1000013 46 T30), .slot 14 (.pc tI), .slot 30 (.pc tI), .slot 31 (.pc tI), .slot 42 (.pc tI), .box 4 [.pc T16, .pc tI, .pc tI, .pc tI, .pc tI]]
abbrev vs67x0x0 : List Pat := [.slot 15 (.own 1000015 47 T0), .slot 43 (.pc tI)]
abbrev ps67x0x0 : List Pat := cs67x0x0 ++ vs67x0x0
def j67x0x0 : ZJ cs67x0x0 vs67x0x0 ps67x0x0 := ZA _ _
def sp67x0x0 : ZS cs67x0x0 vs67x0x0 ps67x0x0 := ZP _ _
abbrev wy67x0x0 : Ways := ⟨[(2, [.slot 1 (.pc tI), .slot 2 (.pc tI), .slot 4 (.ptr 4), .slot 11 (.pc T74), .slot 12 (.pc tI), .slot 13 (.own 1000013 46 T30), .slot 30 (.pc tI), .slot 31 (.pc tI), .box 4 [.pc T16, .pc tI, .pc tI, .pc tI, .pc tI], .slot 15 (.pc (.sl T0))])], [], []⟩
abbrev wv67x0x0 : Ways := ⟨[(2, [.slot 15 (.pc (.sl T0))])], [], []⟩
def je67x0x0 : ZE cs67x0x0 wv67x0x0 wy67x0x0 := fun id => match id with | 2 => fun c y => (c.1, (c.2.1, (c.2.2.1, (c.2.2.2.1, (c.2.2.2.2.1, (c.2.2.2.2.2.1, (c.2.2.2.2.2.2.2.1, (c.2.2.2.2.2.2.2.2.1, (c.2.2.2.2.2.2.2.2.2.2.1, y))))))))) | _ => ZDf
def Z67x0x0 {α : Type} (l : RQ vs67x0x0 wv67x0x0 → α) (an : α → α → α) (c : ZD cs67x0x0) (v : ZD vs67x0x0) : α := bif (decide (v.2.1 < c.2.2.2.2.2.2.2.2.2.1)) then cl (r66).dflt (M66 ((Option.getD (c.2.2.2.1 (c.1, ((W (c.2.1 + c.2.2.2.2.2.2.1)), (v.2.1, ((0 : Int), ()))))) (0 : Int)), (c.2.2.2.2.1, ()))) (fun u0 => bif (decide (((v.1.n + 1) * 8) ≤ 140737488355328)) then l (.next ((catSl v.1 (⟨1, fun i => List.getD [u0] i u0⟩ : Sl (Ty.den T0))), ((W (v.2.1 + (1 : Int))), ()))) else l .bad) (l .bad) else l (.out (.exit 2 (v.1, ())))
theorem z67x0x0 (c : ZD cs67x0x0) (v : ZD vs67x0x0) : roundQ Try.prog E0 G67 0 66 [] ps67x0x0 wy67x0x0 b67x0x0 [] (j67x0x0 c v) = Z67x0x0 (fun r => .leaf (r.lift j67x0x0 je67x0x0 ZI ZI c)) .any c v := by kernel_rfl
def S67x0x0 (c : ZD cs67x0x0) (v : ZD vs67x0x0) : RQ vs67x0x0 wv67x0x0 := Z67x0x0 (fun r => r) (fun _ _ => .bad) c v
theorem s67x0x0 (c : ZD cs67x0x0) (v : ZD vs67x0x0) : detQ (roundQ Try.prog E0 G67 0 66 [] ps67x0x0 wy67x0x0 b67x0x0 [] (j67x0x0 c v)) = (S67x0x0 c v).lift j67x0x0 je67x0x0 ZI ZI c := by rw [z67x0x0]; unfold S67x0x0 Z67x0x0; simp only [detQ, lift_bad, dqs]
def L67x0x0 (c : ZD cs67x0x0) (v : ZD vs67x0x0) : LQ wv67x0x0 := iterQ (S67x0x0 c) big v
theorem lo67x0 : loopsOf (b67x0) = [.loop b67x0x0] := by kernel_rfl
abbrev cs67x0 : List Pat := [.slot 1 (.pc tI), .slot 2 (.pc tI), .slot 4 (.ptr 4), .slot 11 (.pc T74), .slot 12 (.pc tI), .slot 30 (.pc tI), .box 4 [.pc T16, .pc tI, .pc tI, .pc tI, .pc tI]]
abbrev vs67x0 : List Pat := [.slot 13 (.own 1000013 46 T30), .slot 31 (.pc tI)]
abbrev ps67x0 : List Pat := cs67x0 ++ vs67x0
def j67x0 : ZJ cs67x0 vs67x0 ps67x0 := ZA _ _
def sp67x0 : ZS cs67x0 vs67x0 ps67x0 := ZP _ _
abbrev wy67x0 : Ways := ⟨[(0, [.slot 13 (.pc (.sl T30))])], [], []⟩
abbrev wv67x0 : Ways := ⟨[(0, [.slot 13 (.pc (.sl T30))])], [], []⟩
def je67x0 : ZE cs67x0 wv67x0 wy67x0 := fun id => match id with | 0 => fun c y => y | _ => ZDf
def Z67x0 {α : Type} (l : RQ vs67x0 wv67x0 → α) (an : α → α → α) (c : ZD cs67x0) (v : ZD vs67x0) : α := bif (decide (v.2.1 < c.2.2.2.2.2.1)) then bif (decide (((0 : Int) ≤ (W (c.2.1 + v.2.1))) ∧ ((W (c.2.1 + v.2.1)) < ((c.2.2.2.2.2.2.1.1.n : Nat) : Int)))) then onExit (L67x0x0 (c.1, (c.2.1, ((), (c.2.2.2.1, (c.2.2.2.2.1, (v.1, (v.2.1, (c.2.2.2.2.2.1, (v.2.1, ((((c.2.2.2.2.2.2.1.1.g (Int.toNat (W (c.2.1 + v.2.1)))).2.1.n : Nat) : Int), (c.2.2.2.2.2.2.1, ()))))))))))) ((⟨0, fun i => ((0 : Int), ())⟩ : Sl _), ((0 : Int), ()))) 2 (fun u1 => bif (decide (((v.1.n + 1) * 24) ≤ 140737488355328)) then l (.next ((catSl v.1 (⟨1, fun i => List.getD [u1] i u1⟩ : Sl (Ty.den T30))), ((W (v.2.1 + (1 : Int))), ()))) else l .bad) (l .bad) else l .bad else l (.out (.exit 0 (v.1, ())))
theorem z67x0 (c : ZD cs67x0) (v : ZD vs67x0) : roundQ Try.prog E0 G67 0 66 [] ps67x0 wy67x0 b67x0 [.known (loopZ 0 [] ps67x0x0 fun x => spreadV wy67x0x0 je67x0x0 ZI ZI [] false (sp67x0x0 x).1 (L67x0x0 (sp67x0x0 x).1 (sp67x0x0 x).2) wy67x0x0.exits)] (j67x0 c v) = Z67x0 (fun r => .leaf (r.lift j67x0 je67x0 ZI ZI c)) .any c v := by kernel_rfl
def S67x0 (c : ZD cs67x0) (v : ZD vs67x0) : RQ vs67x0 wv67x0 := Z67x0 (fun r => r) (fun _ _ => .bad) c v
theorem s67x0 (c : ZD cs67x0) (v : ZD vs67x0) : detQ (roundQ Try.prog E0 G67 0 66 [] ps67x0 wy67x0 b67x0 [.known (loopZ 0 [] ps67x0x0 fun x => spreadV wy67x0x0 je67x0x0 ZI ZI [] false (sp67x0x0 x).1 (L67x0x0 (sp67x0x0 x).1 (sp67x0x0 x).2) wy67x0x0.exits)] (j67x0 c v)) = (S67x0 c v).lift j67x0 je67x0 ZI ZI c := by rw [z67x0]; unfold S67x0 Z67x0; simp only [detQ, lift_bad, dqs]
def L67x0 (c : ZD cs67x0) (v : ZD vs67x0) : LQ wv67x0 := iterQ (S67x0 c) big v
theorem lo67 : loopsOf (c67) = [.loop b67x0] := by kernel_rfl
noncomputable def l67 : List Loop := [.known (loopZ 0 [] ps67x0 fun x => spreadV wy67x0 je67x0 ZI ZI [] false (sp67x0 x).1 (L67x0 (sp67x0 x).1 (sp67x0 x).2) wy67x0.exits)]
def Q67 {α : Type} (l : Option (r67).den → α) (an : α → α → α) (x : (a67).den) : α := cl (r63).dflt (M63 (x.1, (true, ()))) (fun u2 => bif (!(decide (u2.1 = (0 : Int)))) then l (some ((⟨0, fun i => ((⟨0, fun i => ((0 : Int), ())⟩ : Sl _), ())⟩ : Sl _), u2)) else cl (r65).dflt (M65 (x.1, ())) (fun u3 => onExit (L67x0 (x.2.1, (x.2.2.1, ((), (u3.1, (u3.2.1, ((W ((W (x.2.2.2.1 - x.2.2.1)) + (1 : Int))), (x.1, ()))))))) ((⟨0, fun i => ((⟨0, fun i => ((0 : Int), ())⟩ : Sl _), ())⟩ : Sl _), ((0 : Int), ()))) 0 (fun u4 => l (some (u4.1, ((0 : Int), ())))) (l none)) (l none)) (l none)
theorem q67 (x : (a67).den) : runFn Try.prog E0 G67 Try.f67 l67 a67 r67 x = Q67 .leaf .any x := by kernel_rfl
def M67 (x : (a67).den) : Option (r67).den := Q67 (fun r => r) (fun _ _ => none) x
theorem m67 (x : (a67).den) : (runFn Try.prog E0 G67 Try.f67 l67 a67 r67 x).sure = M67 x := by rw [q67]; unfold M67 Q67; simp only [Tree.sure, sus]
def p67 (x : (a67).den) : Bool := (M67 x).isSome
def v67 (x : (a67).den) : (r67).den := (M67 x).getD (r67).dflt
def k67 : Con := ⟨a67, r67, p67, v67⟩
theorem h67 : Holds Try.prog 67 k67 := holds_of_M' (E := E0) follows_ok g67 eqTy_sound keyTy_sound at67 bd67 (by kernel_rfl) m67 fun G' hlo hF hE => LsOK_kn (by rw [lo67]; exact .cons (loopV_ok hE hF hlo (LsOK_kn (by rw [lo67x0]; exact .cons (loopV_ok hE hF hlo (LsOK_kn (by rw [lo67x0x0]; exact .nil)) (by kernel_rfl) (by kernel_rfl) sp67x0x0 (fun _ => rfl) (fun _ _ => rfl) (s67x0x0) big) (.nil))) (by kernel_rfl) (by kernel_rfl) sp67x0 (fun _ => rfl) (fun _ _ => rfl) (s67x0) big) (.nil))
noncomputable def c19 : Code := Try.f19.body.getD .skip
theorem at19 : Try.prog.funcs[19]? = some Try.f19 := by kernel_rfl
theorem bd19 : Try.f19.body = some c19 := by kernel_rfl
theorem cl19 : Callable Try.prog 19 := callable_of at19 (by kernel_rfl) (by kernel_rfl)
abbrev a19 : Ty := T19
abbrev r19 : Ty := T77
noncomputable def G19 : Ctx := Ctx.of [(67, .pure k67)]
theorem g19 : Sound Try.prog (G19) := sound_of (List.forall_mem_cons.2 ⟨⟨cl67, h67⟩, fun _ h => by cases h⟩)
theorem lo19 : loopsOf (c19) = [] := by kernel_rfl
noncomputable def l19 : List Loop := []
def Q19 {α : Type} (l : Option (r19).den → α) (an : α → α → α) (x : (a19).den) : α := cl (r67).dflt (M67 (x.1, ((1 : Int), ((1 : Int), ((W (((x.1.1.n : Nat) : Int) - (1 : Int))), ()))))) (fun u0 => l (some u0)) (l none)
theorem q19 (x : (a19).den) : runFn Try.prog E0 G19 Try.f19 l19 a19 r19 x = Q19 .leaf .any x := by kernel_rfl
def M19 (x : (a19).den) : Option (r19).den := Q19 (fun r => r) (fun _ _ => none) x
theorem m19 (x : (a19).den) : (runFn Try.prog E0 G19 Try.f19 l19 a19 r19 x).sure = M19 x := by rw [q19]; unfold M19 Q19; simp only [Tree.sure, sus]
def p19 (x : (a19).den) : Bool := (M19 x).isSome
def v19 (x : (a19).den) : (r19).den := (M19 x).getD (r19).dflt
def k19 : Con := ⟨a19, r19, p19, v19⟩
theorem h19 : Holds Try.prog 19 k19 := holds_of_M' (E := E0) follows_ok g19 eqTy_sound keyTy_sound at19 bd19 (by kernel_rfl) m19 fun G' hlo hF hE => LsOK_kn (by rw [lo19]; exact .nil)
noncomputable def c20 : Code := Try.f20.body.getD .skip
theorem at20 : Try.prog.funcs[20]? = some Try.f20 := by kernel_rfl
theorem bd20 : Try.f20.body = some c20 := by kernel_rfl
theorem cl20 : Callable Try.prog 20 := callable_of at20 (by kernel_rfl) (by kernel_rfl)
abbrev a20 : Ty := T19
abbrev r20 : Ty := T77
noncomputable def G20 : Ctx := Ctx.of [(67, .pure k67)]
theorem g20 : Sound Try.prog (G20) := sound_of (List.forall_mem_cons.2 ⟨⟨cl67, h67⟩, fun _ h => by cases h⟩)
theorem lo20 : loopsOf (c20) = [] := by kernel_rfl
noncomputable def l20 : List Loop := []
def Q20 {α : Type} (l : Option (r20).den → α) (an : α → α → α) (x : (a20).den) : α := cl (r67).dflt (M67 (x.1, ((2 : Int), ((0 : Int), ((W (((x.1.1.n : Nat) : Int) - (2 : Int))), ()))))) (fun u0 => l (some u0)) (l none)
theorem q20 (x : (a20).den) : runFn Try.prog E0 G20 Try.f20 l20 a20 r20 x = Q20 .leaf .any x := by kernel_rfl
def M20 (x : (a20).den) : Option (r20).den := Q20 (fun r => r) (fun _ _ => none) x
theorem m20 (x : (a20).den) : (runFn Try.prog E0 G20 Try.f20 l20 a20 r20 x).sure = M20 x := by rw [q20]; unfold M20 Q20; simp only [Tree.sure, sus]
def p20 (x : (a20).den) : Bool := (M20 x).isSome
def v20 (x : (a20).den) : (r20).den := (M20 x).getD (r20).dflt
def k20 : Con := ⟨a20, r20, p20, v20⟩
theorem h20 : Holds Try.prog 20 k20 := holds_of_M' (E := E0) follows_ok g20 eqTy_sound keyTy_sound at20 bd20 (by kernel_rfl) m20 fun G' hlo hF hE => LsOK_kn (by rw [lo20]; exact .nil)
noncomputable def c23 : Code := Try.f23.body.getD .skip
theorem at23 : Try.prog.funcs[23]? = some Try.f23 := by kernel_rfl
theorem bd23 : Try.f23.body = some c23 := by kernel_rfl
theorem cl23 : Callable Try.prog 23 := callable_of at23 (by kernel_rfl) (by kernel_rfl)
abbrev T79 : Ty := (.cons T42 T43)
abbrev a23 : Ty := T79
abbrev r23 : Ty := T3
noncomputable def G23 : Ctx := Ctx.of []
theorem g23 : Sound Try.prog (G23) := sound_of (fun _ h => by cases h)
noncomputable def b23x0 : Code := loopBody ((loopsOf (c23))[0]?)
noncomputable def b23x0x0 : Code := loopBody ((loopsOf (b23x0))[0]?)
theorem lo23x0x0 : loopsOf (b23x0x0) = [] := by kernel_rfl
abbrev cs23x0x0 : List Pat := [.slot 0 (.pc T42), .slot 1 (.pc T42), .slot 5 (.pc tI)]
abbrev vs23x0x0 : List Pat := [.slot 6 (.pc tI)]
abbrev ps23x0x0 : List Pat := cs23x0x0 ++ vs23x0x0
def j23x0x0 : ZJ cs23x0x0 vs23x0x0 ps23x0x0 := ZA _ _
def sp23x0x0 : ZS cs23x0x0 vs23x0x0 ps23x0x0 := ZP _ _
abbrev wy23x0x0 : Ways := ⟨[(2, [.slot 0 (.pc T42), .slot 1 (.pc T42), .slot 5 (.pc tI)])], [.slot 4 (.pc .bool)], []⟩
abbrev wv23x0x0 : Ways := ⟨[(2, [])], [.slot 4 (.pc .bool)], []⟩
def je23x0x0 : ZE cs23x0x0 wv23x0x0 wy23x0x0 := fun id => match id with | 2 => fun c y => (c.1, (c.2.1, (c.2.2.1, y))) | _ => ZDf
def Z23x0x0 {α : Type} (l : RQ vs23x0x0 wv23x0x0 → α) (an : α → α → α) (c : ZD cs23x0x0) (v : ZD vs23x0x0) : α := bif (decide (((0 : Int) ≤ c.2.2.1) ∧ (c.2.2.1 < ((c.1.n : Nat) : Int)))) then bif (decide (v.1 < (((c.1.g (Int.toNat c.2.2.1)).1.n : Nat) : Int))) then bif (decide (((0 : Int) ≤ c.2.2.1) ∧ (c.2.2.1 < ((c.1.n : Nat) : Int)))) then bif (decide (((0 : Int) ≤ v.1) ∧ (v.1 < (((c.1.g (Int.toNat c.2.2.1)).1.n : Nat) : Int)))) then bif (decide (((0 : Int) ≤ c.2.2.1) ∧ (c.2.2.1 < ((c.2.1.n : Nat) : Int)))) then bif (decide (((0 : Int) ≤ v.1) ∧ (v.1 < (((c.2.1.g (Int.toNat c.2.2.1)).1.n : Nat) : Int)))) then bif (!(decide (((c.1.g (Int.toNat c.2.2.1)).1.g (Int.toNat v.1)).1 = ((c.2.1.g (Int.toNat c.2.2.1)).1.g (Int.toNat v.1)).1))) then l (.out (.ret (false, ()))) else l (.next ((W (v.1 + (1 : Int))), ())) else l .bad else l .bad else l .bad else l .bad else l (.out (.exit 2 ())) else l .bad
theorem z23x0x0 (c : ZD cs23x0x0) (v : ZD vs23x0x0) : roundQ Try.prog E0 G23 0 53 [] ps23x0x0 wy23x0x0 b23x0x0 [] (j23x0x0 c v) = Z23x0x0 (fun r => .leaf (r.lift j23x0x0 je23x0x0 ZI ZI c)) .any c v := by kernel_rfl
def S23x0x0 (c : ZD cs23x0x0) (v : ZD vs23x0x0) : RQ vs23x0x0 wv23x0x0 := Z23x0x0 (fun r => r) (fun _ _ => .bad) c v
theorem s23x0x0 (c : ZD cs23x0x0) (v : ZD vs23x0x0) : detQ (roundQ Try.prog E0 G23 0 53 [] ps23x0x0 wy23x0x0 b23x0x0 [] (j23x0x0 c v)) = (S23x0x0 c v).lift j23x0x0 je23x0x0 ZI ZI c := by rw [z23x0x0]; unfold S23x0x0 Z23x0x0; simp only [detQ, lift_bad, dqs]
def L23x0x0 (c : ZD cs23x0x0) (v : ZD vs23x0x0) : LQ wv23x0x0 := iterQ (S23x0x0 c) big v
theorem lo23x0 : loopsOf (b23x0) = [.loop b23x0x0] := by kernel_rfl
abbrev cs23x0 : List Pat := [.slot 0 (.pc T42), .slot 1 (.pc T42)]
abbrev vs23x0 : List Pat := [.slot 5 (.pc tI)]
abbrev ps23x0 : List Pat := cs23x0 ++ vs23x0
def j23x0 : ZJ cs23x0 vs23x0 ps23x0 := ZA _ _
def sp23x0 : ZS cs23x0 vs23x0 ps23x0 := ZP _ _
abbrev wy23x0 : Ways := ⟨[(0, [])], [.slot 4 (.pc .bool)], []⟩
abbrev wv23x0 : Ways := ⟨[(0, [])], [.slot 4 (.pc .bool)], []⟩
def je23x0 : ZE cs23x0 wv23x0 wy23x0 := fun id => match id with | 0 => fun c y => y | _ => ZDf
def Z23x0 {α : Type} (l : RQ vs23x0 wv23x0 → α) (an : α → α → α) (c : ZD cs23x0) (v : ZD vs23x0) : α := bif (decide (v.1 < ((c.1.n : Nat) : Int))) then bif (decide (((0 : Int) ≤ v.1) ∧ (v.1 < ((c.1.n : Nat) : Int)))) then bif (decide (((0 : Int) ≤ v.1) ∧ (v.1 < ((c.2.1.n : Nat) : Int)))) then bif (!(decide ((((c.1.g (Int.toNat v.1)).1.n : Nat) : Int) = (((c.2.1.g (Int.toNat v.1)).1.n : Nat) : Int)))) then l (.out (.ret (false, ()))) else onExit (L23x0x0 (c.1, (c.2.1, v)) ((0 : Int), ())) 2 (fun u0 => l (.next ((W (v.1 + (1 : Int))), ()))) (onRet (L23x0x0 (c.1, (c.2.1, v)) ((0 : Int), ())) (fun u1 => l (.out (.ret u1))) (l .bad)) else l .bad else l .bad else l (.out (.exit 0 ()))
theorem z23x0 (c : ZD cs23x0) (v : ZD vs23x0) : roundQ Try.prog E0 G23 0 53 [] ps23x0 wy23x0 b23x0 [.known (loopZ 0 [] ps23x0x0 fun x => spreadV wy23x0x0 je23x0x0 ZI ZI [] true (sp23x0x0 x).1 (L23x0x0 (sp23x0x0 x).1 (sp23x0x0 x).2) wy23x0x0.exits)] (j23x0 c v) = Z23x0 (fun r => .leaf (r.lift j23x0 je23x0 ZI ZI c)) .any c v := by kernel_rfl
def S23x0 (c : ZD cs23x0) (v : ZD vs23x0) : RQ vs23x0 wv23x0 := Z23x0 (fun r => r) (fun _ _ => .bad) c v
theorem s23x0 (c : ZD cs23x0) (v : ZD vs23x0) : detQ (roundQ Try.prog E0 G23 0 53 [] ps23x0 wy23x0 b23x0 [.known (loopZ 0 [] ps23x0x0 fun x => spreadV wy23x0x0 je23x0x0 ZI ZI [] true (sp23x0x0 x).1 (L23x0x0 (sp23x0x0 x).1 (sp23x0x0 x).2) wy23x0x0.exits)] (j23x0 c v)) = (S23x0 c v).lift j23x0 je23x0 ZI ZI c := by rw [z23x0]; unfold S23x0 Z23x0; simp only [detQ, lift_bad, dqs]
def L23x0 (c : ZD cs23x0) (v : ZD vs23x0) : LQ wv23x0 := iterQ (S23x0 c) big v
theorem lo23 : loopsOf (c23) = [.loop b23x0] := by kernel_rfl
noncomputable def l23 : List Loop := [.known (loopZ 0 [] ps23x0 fun x => spreadV wy23x0 je23x0 ZI ZI [] true (sp23x0 x).1 (L23x0 (sp23x0 x).1 (sp23x0 x).2) wy23x0.exits)]
def Q23 {α : Type} (l : Option (r23).den → α) (an : α → α → α) (x : (a23).den) : α := bif (!(decide (((x.1.n : Nat) : Int) = ((x.2.1.n : Nat) : Int)))) then l (some (false, ())) else onExit (L23x0 x ((0 : Int), ())) 0 (fun u2 => l (some (true, ()))) (onRet (L23x0 x ((0 : Int), ())) (fun u3 => l (some u3)) (l none))
theorem q23 (x : (a23).den) : runFn Try.prog E0 G23 Try.f23 l23 a23 r23 x = Q23 .leaf .any x := by kernel_rfl
def M23 (x : (a23).den) : Option (r23).den := Q23 (fun r => r) (fun _ _ => none) x
theorem m23 (x : (a23).den) : (runFn Try.prog E0 G23 Try.f23 l23 a23 r23 x).sure = M23 x := by rw [q23]; unfold M23 Q23; simp only [Tree.sure, sus]
def p23 (x : (a23).den) : Bool := (M23 x).isSome
def v23 (x : (a23).den) : (r23).den := (M23 x).getD (r23).dflt
def k23 : Con := ⟨a23, r23, p23, v23⟩
theorem h23 : Holds Try.prog 23 k23 := holds_of_M' (E := E0) follows_ok g23 eqTy_sound keyTy_sound at23 bd23 (by kernel_rfl) m23 fun G' hlo hF hE => LsOK_kn (by rw [lo23]; exact .cons (loopV_ok hE hF hlo (LsOK_kn (by rw [lo23x0]; exact .cons (loopV_ok hE hF hlo (LsOK_kn (by rw [lo23x0x0]; exact .nil)) (by kernel_rfl) (by kernel_rfl) sp23x0x0 (fun _ => rfl) (fun _ _ => rfl) (s23x0x0) big) (.nil))) (by kernel_rfl) (by kernel_rfl) sp23x0 (fun _ => rfl) (fun _ _ => rfl) (s23x0) big) (.nil))
noncomputable def c75 : Code := Try.f75.body.getD .skip
theorem at75 : Try.prog.funcs[75]? = some Try.f75 := by kernel_rfl
theorem bd75 : Try.f75.body = some c75 := by kernel_rfl
theorem cl75 : Callable Try.prog 75 := callable_of at75 (by kernel_rfl) (by kernel_rfl)
abbrev T80 : Ty := (.cons .bool T3)
abbrev T81 : Ty := (.fn T0 T80)
abbrev T82 : Ty := (.cons T81 .nil)
abbrev T83 : Ty := (.cons tI T82)
abbrev T84 : Ty := (.cons tI T83)
abbrev T85 : Ty := (.cons tI T3)
abbrev T86 : Ty := (.cons .bool T85)
abbrev a75 : Ty := T84
abbrev r75 : Ty := T86
noncomputable def G75 : Ctx := Ctx.of []
theorem g75 : Sound Try.prog (G75) := sound_of (fun _ h => by cases h)
noncomputable def b75x0 : Code := loopBody ((loopsOf (c75))[0]?)
theorem lo75x0 : loopsOf (b75x0) = [] := by kernel_rfl
abbrev cs75x0 : List Pat := [.slot 1 (.pc tI), .slot 2 (.pc T81)]
abbrev vs75x0 : List Pat := [.slot 9 (.pc tI)]
abbrev ps75x0 : List Pat := cs75x0 ++ vs75x0
def j75x0 : ZJ cs75x0 vs75x0 ps75x0 := ZA _ _
def sp75x0 : ZS cs75x0 vs75x0 ps75x0 := ZP _ _
abbrev wy75x0 : Ways := ⟨[(0, [])], [.slot 6 (.pc .bool), .slot 7 (.pc tI), .slot 8 (.pc .bool)], []⟩
abbrev wv75x0 : Ways := ⟨[(0, [])], [.slot 6 (.pc .bool), .slot 7 (.pc tI), .slot 8 (.pc .bool)], []⟩
def je75x0 : ZE cs75x0 wv75x0 wy75x0 := fun id => match id with | 0 => fun c y => y | _ => ZDf
def Z75x0 {α : Type} (l : RQ vs75x0 wv75x0 → α) (an : α → α → α) (c : ZD cs75x0) (v : ZD vs75x0) : α := bif (decide (v.1 ≤ c.1)) then bif (c.2.1 v).1 then bif (c.2.1 v).2.2.1 then l (.out (.ret ((c.2.1 v).2.1, (v.1, (true, ()))))) else l (.next ((W (v.1 + (1 : Int))), ())) else l .bad else l (.out (.exit 0 ()))
theorem z75x0 (c : ZD cs75x0) (v : ZD vs75x0) : roundQ Try.prog E0 G75 0 29 [] ps75x0 wy75x0 b75x0 [] (j75x0 c v) = Z75x0 (fun r => .leaf (r.lift j75x0 je75x0 ZI ZI c)) .any c v := by kernel_rfl
def S75x0 (c : ZD cs75x0) (v : ZD vs75x0) : RQ vs75x0 wv75x0 := Z75x0 (fun r => r) (fun _ _ => .bad) c v
theorem s75x0 (c : ZD cs75x0) (v : ZD vs75x0) : detQ (roundQ Try.prog E0 G75 0 29 [] ps75x0 wy75x0 b75x0 [] (j75x0 c v)) = (S75x0 c v).lift j75x0 je75x0 ZI ZI c := by rw [z75x0]; unfold S75x0 Z75x0; simp only [detQ, lift_bad, dqs]
def L75x0 (c : ZD cs75x0) (v : ZD vs75x0) : LQ wv75x0 := iterQ (S75x0 c) big v
theorem lo75 : loopsOf (c75) = [.loop b75x0] := by kernel_rfl
noncomputable def l75 : List Loop := [.known (loopZ 0 [] ps75x0 fun x => spreadV wy75x0 je75x0 ZI ZI [] true (sp75x0 x).1 (L75x0 (sp75x0 x).1 (sp75x0 x).2) wy75x0.exits)]
def Q75 {α : Type} (l : Option (r75).den → α) (an : α → α → α) (x : (a75).den) : α := onExit (L75x0 x.2 (x.1, ())) 0 (fun u0 => l (some (false, ((0 : Int), (false, ()))))) (onRet (L75x0 x.2 (x.1, ())) (fun u1 => l (some u1)) (l none))
theorem q75 (x : (a75).den) : runFn Try.prog E0 G75 Try.f75 l75 a75 r75 x = Q75 .leaf .any x := by kernel_rfl
def M75 (x : (a75).den) : Option (r75).den := Q75 (fun r => r) (fun _ _ => none) x
theorem m75 (x : (a75).den) : (runFn Try.prog E0 G75 Try.f75 l75 a75 r75 x).sure = M75 x := by rw [q75]; unfold M75 Q75; simp only [Tree.sure, sus]
def p75 (x : (a75).den) : Bool := (M75 x).isSome
def v75 (x : (a75).den) : (r75).den := (M75 x).getD (r75).dflt
def k75 : Con := ⟨a75, r75, p75, v75⟩
theorem h75 : Holds Try.prog 75 k75 := holds_of_M' (E := E0) follows_ok g75 eqTy_sound keyTy_sound at75 bd75 (by kernel_rfl) m75 fun G' hlo hF hE => LsOK_kn (by rw [lo75]; exact .cons (loopV_ok hE hF hlo (LsOK_kn (by rw [lo75x0]; exact .nil)) (by kernel_rfl) (by kernel_rfl) sp75x0 (fun _ => rfl) (fun _ _ => rfl) (s75x0) big) (.nil))
noncomputable def c76 : Code := Try.f76.body.getD .skip
theorem at76 : Try.prog.funcs[76]? = some Try.f76 := by kernel_rfl
theorem bd76 : Try.f76.body = some c76 := by kernel_rfl
theorem cl76 : Callable Try.prog 76 := callable_of at76 (by kernel_rfl) (by kernel_rfl)
abbrev T87 : Ty := (.cons tI T68)
abbrev a76 : Ty := T87
abbrev r76 : Ty := T80
noncomputable def G76 : Ctx := Ctx.of [(77, .pure k77)]
theorem g76 : Sound Try.prog (G76) := sound_of (List.forall_mem_cons.2 ⟨⟨cl77, h77⟩, fun _ h => by cases h⟩)
theorem lo76 : loopsOf (c76) = [] := by kernel_rfl
noncomputable def l76 : List Loop := []
def Q76 {α : Type} (l : Option (r76).den → α) (an : α → α → α) (x : (a76).den) : α := cl (r77).dflt (M77 ((x.2.1.1, (x.1, x.2.1.2.2)), ())) (fun u0 => l (some (true, u0))) (l none)
theorem q76 (x : (a76).den) : runFn Try.prog E0 G76 Try.f76 l76 a76 r76 x = Q76 .leaf .any x := by kernel_rfl
def M76 (x : (a76).den) : Option (r76).den := Q76 (fun r => r) (fun _ _ => none) x
theorem m76 (x : (a76).den) : (runFn Try.prog E0 G76 Try.f76 l76 a76 r76 x).sure = M76 x := by rw [q76]; unfold M76 Q76; simp only [Tree.sure, sus]
def p76 (x : (a76).den) : Bool := (M76 x).isSome
def v76 (x : (a76).den) : (r76).den := (M76 x).getD (r76).dflt
def k76 : Con := ⟨a76, r76, p76, v76⟩
theorem h76 : Holds Try.prog 76 k76 := holds_of_M' (E := E0) follows_ok g76 eqTy_sound keyTy_sound at76 bd76 (by kernel_rfl) m76 fun G' hlo hF hE => LsOK_kn (by rw [lo76]; exact .nil)
noncomputable def c28 : Code := Try.f28.body.getD .skip
theorem at28 : Try.prog.funcs[28]? = some Try.f28 := by kernel_rfl
theorem bd28 : Try.f28.body = some c28 := by kernel_rfl
theorem cl28 : Callable Try.prog 28 := callable_of at28 (by kernel_rfl) (by kernel_rfl)
abbrev a28 : Ty := T19
abbrev r28 : Ty := T1
noncomputable def G28 : Ctx := Ctx.of [(74, .pure k74), (75, .pure k75), (76, .pure k76)]
theorem g28 : Sound Try.prog (G28) := sound_of (List.forall_mem_cons.2 ⟨⟨cl74, h74⟩, List.forall_mem_cons.2 ⟨⟨cl75, h75⟩, List.forall_mem_cons.2 ⟨⟨cl76, h76⟩, fun _ h => by cases h⟩⟩⟩)
theorem lo28 : loopsOf (c28) = [] := by kernel_rfl
noncomputable def l28 : List Loop := []
def Q28 {α : Type} (l : Option (r28).den → α) (an : α → α → α) (x : (a28).den) : α := cl (r74).dflt (M74 (x.1, ())) (fun u0 => bif (!u0.1) then l (some ((0 : Int), ((2 : Int), ()))) else cl (r75).dflt (M75 ((0 : Int), ((50 : Int), ((fun y1 => ((p76 (y1.1, (x.1, ()))), (v76 (y1.1, (x.1, ()))))), ())))) (fun u1 => bif (!u1.2.2.1) then l (some ((0 : Int), ((5 : Int), ()))) else l (some (u1.2.1, ((0 : Int), ())))) (l none)) (l none)
theorem q28 (x : (a28).den) : runFn Try.prog E0 G28 Try.f28 l28 a28 r28 x = Q28 .leaf .any x := by kernel_rfl
def M28 (x : (a28).den) : Option (r28).den := Q28 (fun r => r) (fun _ _ => none) x
theorem m28 (x : (a28).den) : (runFn Try.prog E0 G28 Try.f28 l28 a28 r28 x).sure = M28 x := by rw [q28]; unfold M28 Q28; simp only [Tree.sure, sus]
def p28 (x : (a28).den) : Bool := (M28 x).isSome
def v28 (x : (a28).den) : (r28).den := (M28 x).getD (r28).dflt
def k28 : Con := ⟨a28, r28, p28, v28⟩
theorem h28 : Holds Try.prog 28 k28 := holds_of_M' (E := E0) follows_ok g28 eqTy_sound keyTy_sound at28 bd28 (by kernel_rfl) m28 fun G' hlo hF hE => LsOK_kn (by rw [lo28]; exact .nil)
noncomputable def c78 : Code := Try.f78.body.getD .skip
theorem at78 : Try.prog.funcs[78]? = some Try.f78 := by kernel_rfl
theorem bd78 : Try.f78.body = some c78 := by kernel_rfl
theorem cl78 : Callable Try.prog 78 := callable_of at78 (by kernel_rfl) (by kernel_rfl)
abbrev T88 : Ty := (.cons T18 T1)
abbrev a78 : Ty := T88
abbrev r78 : Ty := T3
noncomputable def G78 : Ctx := Ctx.of [(64, .pure k64)]
theorem g78 : Sound Try.prog (G78) := sound_of (List.forall_mem_cons.2 ⟨⟨cl64, h64⟩, fun _ h => by cases h⟩)
theorem lo78 : loopsOf (c78) = [] := by kernel_rfl
noncomputable def l78 : List Loop := []
def Q78 {α : Type} (l : Option (r78).den → α) (an : α → α → α) (x : (a78).den) : α := cl (r64).dflt (M64 (x.2.1, ((0 : Int), ((W (((x.1.1.n : Nat) : Int) - (1 : Int))), ())))) (fun u0 => bif u0.1 then bif (decide (((0 : Int) ≤ x.2.1) ∧ (x.2.1 < ((x.1.1.n : Nat) : Int)))) then cl (r64).dflt (M64 (x.2.2.1, ((0 : Int), ((W ((((x.1.1.g (Int.toNat x.2.1)).2.1.n : Nat) : Int) - (1 : Int))), ())))) (fun u1 => l (some u1)) (l none) else l none else l (some (false, ()))) (l none)
theorem q78 (x : (a78).den) : runFn Try.prog E0 G78 Try.f78 l78 a78 r78 x = Q78 .leaf .any x := by kernel_rfl
def M78 (x : (a78).den) : Option (r78).den := Q78 (fun r => r) (fun _ _ => none) x
theorem m78 (x : (a78).den) : (runFn Try.prog E0 G78 Try.f78 l78 a78 r78 x).sure = M78 x := by rw [q78]; unfold M78 Q78; simp only [Tree.sure, sus]
def p78 (x : (a78).den) : Bool := (M78 x).isSome
def v78 (x : (a78).den) : (r78).den := (M78 x).getD (r78).dflt
def k78 : Con := ⟨a78, r78, p78, v78⟩
theorem h78 : Holds Try.prog 78 k78 := holds_of_M' (E := E0) follows_ok g78 eqTy_sound keyTy_sound at78 bd78 (by kernel_rfl) m78 fun G' hlo hF hE => LsOK_kn (by rw [lo78]; exact .nil)
noncomputable def c79 : Code := Try.f79.body.getD .skip
theorem at79 : Try.prog.funcs[79]? = some Try.f79 := by kernel_rfl
theorem bd79 : Try.f79.body = some c79 := by kernel_rfl
theorem cl79 : Callable Try.prog 79 := callable_of at79 (by kernel_rfl) (by kernel_rfl)
abbrev a79 : Ty := T8
abbrev r79 : Ty := T8
noncomputable def G79 : Ctx := Ctx.of []
theorem g79 : Sound Try.prog (G79) := sound_of (fun _ h => by cases h)
theorem lo79 : loopsOf (c79) = [] := by kernel_rfl
noncomputable def l79 : List Loop := []
def Q79 {α : Type} (l : Option (r79).den → α) (an : α → α → α) (x : (a79).den) : α := l (some (x.1, ()))
theorem q79 (x : (a79).den) : runFn Try.prog E0 G79 Try.f79 l79 a79 r79 x = Q79 .leaf .any x := by kernel_rfl
def M79 (x : (a79).den) : Option (r79).den := Q79 (fun r => r) (fun _ _ => none) x
theorem m79 (x : (a79).den) : (runFn Try.prog E0 G79 Try.f79 l79 a79 r79 x).sure = M79 x := by rw [q79]; unfold M79 Q79; simp only [Tree.sure, sus]
def p79 (x : (a79).den) : Bool := (M79 x).isSome
def v79 (x : (a79).den) : (r79).den := (M79 x).getD (r79).dflt
def k79 : Con := ⟨a79, r79, p79, v79⟩
theorem h79 : Holds Try.prog 79 k79 := holds_of_M' (E := E0) follows_ok g79 eqTy_sound keyTy_sound at79 bd79 (by kernel_rfl) m79 fun G' hlo hF hE => LsOK_kn (by rw [lo79]; exact .nil)
noncomputable def c1105 : Code := Try.f105.body.getD .skip
theorem at1105 : Try.prog.funcs[105]? = some Try.f105 := by kernel_rfl
theorem bd1105 : Try.f105.body = some c1105 := by kernel_rfl
theorem cl1105 : Callable Try.prog 105 := callable_of at1105 (by kernel_rfl) (by kernel_rfl)
abbrev a1105 : Ty := (.cons T7 T14)
abbrev r1105 : Ty := T8
noncomputable def G1105 : Ctx := Ctx.of []
theorem g1105 : Sound Try.prog (G1105) := sound_of (fun _ h => by cases h)
noncomputable def b1105x0 : Code := loopBody ((loopsOf (c1105))[0]?)
noncomputable def b1105x0x0 : Code := loopBody ((loopsOf (b1105x0))[0]?)
theorem lo1105x0x0 : loopsOf (b1105x0x0) = [] := by kernel_rfl
theorem lo1105x0 : loopsOf (b1105x0) = [.loop b1105x0x0] := by kernel_rfl
abbrev cs1105x0 : List Pat := [.slot 2 (.ptr 2), .slot 4 (.ptr 4), .slot 8 (.pc (.sl T6)), .slot 9 (.pc tI), .box 4 [.pc tI, .pc tI, .pc tI, .pc tI, .pc tI, .pc tI]]
abbrev vs1105x0 : List Pat := [.slot 10 (.pc tI), .box 2 [.pc tI, .pc tI, .pc tI, .pc tI, .pc tI, .pc tI]]
abbrev ps1105x0 : List Pat := cs1105x0 ++ vs1105x0
def j1105x0 : ZJ cs1105x0 vs1105x0 ps1105x0 := ZA _ _
def sp1105x0 : ZS cs1105x0 vs1105x0 ps1105x0 := ZP _ _
abbrev wy1105x0 : Ways := ⟨[(0, [.slot 2 (.ptr 2), .slot 4 (.ptr 4), .box 4 [.pc tI, .pc tI, .pc tI, .pc tI, .pc tI, .pc tI], .box 2 [.pc tI, .pc tI, .pc tI, .pc tI, .pc tI, .pc tI]])], [], []⟩
abbrev wv1105x0 : Ways := ⟨[(0, [.box 2 [.pc tI, .pc tI, .pc tI, .pc tI, .pc tI, .pc tI]])], [], []⟩
def je1105x0 : ZE cs1105x0 wv1105x0 wy1105x0 := fun id => match id with | 0 => fun c y => (c.1, (c.2.1, (c.2.2.2.2.1, y))) | _ => ZDf
def Z1105x0 {α : Type} (l : RQ vs1105x0 wv1105x0 → α) (an : α → α → α) (c : ZD cs1105x0) (v : ZD vs1105x0) : α := bif (decide (v.1 < c.2.2.2.1)) then bif (decide (((0 : Int) ≤ v.1) ∧ (v.1 < ((c.2.2.1.n : Nat) : Int)))) then bif (decide ((mn v.2.1.2.1 (c.2.2.1.g (Int.toNat v.1)).2.1) < (mx v.2.1.1 (c.2.2.1.g (Int.toNat v.1)).1))) then l (.out (.pan 150 (.agg T0) ((0 : Int), ()) ())) else bif (decide ((mn v.2.1.2.2.2.1 (c.2.2.1.g (Int.toNat v.1)).2.2.2.1) < (mx v.2.1.2.2.1 (c.2.2.1.g (Int.toNat v.1)).2.2.1))) then l (.out (.pan 150 (.agg T0) ((1 : Int), ()) ())) else bif (decide ((mn v.2.1.2.2.2.2.2.1 (c.2.2.1.g (Int.toNat v.1)).2.2.2.2.2.1) < (mx v.2.1.2.2.2.2.1 (c.2.2.1.g (Int.toNat v.1)).2.2.2.2.1))) then l (.out (.pan 150 (.agg T0) ((2 : Int), ()) ())) else l (.next ((W (v.1 + (1 : Int))), (((mx v.2.1.1 (c.2.2.1.g (Int.toNat v.1)).1), ((mn v.2.1.2.1 (c.2.2.1.g (Int.toNat v.1)).2.1), ((mx v.2.1.2.2.1 (c.2.2.1.g (Int.toNat v.1)).2.2.1), ((mn v.2.1.2.2.2.1 (c.2.2.1.g (Int.toNat v.1)).2.2.2.1), ((mx v.2.1.2.2.2.2.1 (c.2.2.1.g (Int.toNat v.1)).2.2.2.2.1), ((mn v.2.1.2.2.2.2.2.1 (c.2.2.1.g (Int.toNat v.1)).2.2.2.2.2.1), ())))))), ()))) else l .bad else l (.out (.exit 0 (v.2.1, ())))
theorem z1105x0 (c : ZD cs1105x0) (v : ZD vs1105x0) : roundQ Try.prog E0 G1105 0 53 [] ps1105x0 wy1105x0 b1105x0 [.unroll 4 []] (j1105x0 c v) = Z1105x0 (fun r => .leaf (r.lift j1105x0 je1105x0 ZI ZI c)) .any c v := by kernel_rfl
def S1105x0 (c : ZD cs1105x0) (v : ZD vs1105x0) : RQ vs1105x0 wv1105x0 := Z1105x0 (fun r => r) (fun _ _ => .bad) c v
theorem s1105x0 (c : ZD cs1105x0) (v : ZD vs1105x0) : detQ (roundQ Try.prog E0 G1105 0 53 [] ps1105x0 wy1105x0 b1105x0 [.unroll 4 []] (j1105x0 c v)) = (S1105x0 c v).lift j1105x0 je1105x0 ZI ZI c := by rw [z1105x0]; unfold S1105x0 Z1105x0; simp only [detQ, lift_bad, dqs]
def L1105x0 (c : ZD cs1105x0) (v : ZD vs1105x0) : LQ wv1105x0 := iterQ (S1105x0 c) big v
theorem lo1105 : loopsOf (c1105) = [.loop b1105x0] := by kernel_rfl
noncomputable def l1105 : List Loop := [.known (loopZ 0 [] ps1105x0 fun x => spreadV wy1105x0 je1105x0 ZI ZI [(150, (.agg T0))] false (sp1105x0 x).1 (L1105x0 (sp1105x0 x).1 (sp1105x0 x).2) wy1105x0.exits)]
def Q1105 {α : Type} (l : Option (r1105).den → α) (an : α → α → α) (x : (a1105).den) : α := onExit (L1105x0 ((), ((), (x.2.1, (((x.2.1.n : Nat) : Int), (((0 : Int), ((0 : Int), ((0 : Int), ((0 : Int), ((0 : Int), ((0 : Int), ())))))), ()))))) ((0 : Int), (x.1, ()))) 0 (fun u0 => l (some (u0.1, ()))) (onPanL (L1105x0 ((), ((), (x.2.1, (((x.2.1.n : Nat) : Int), (((0 : Int), ((0 : Int), ((0 : Int), ((0 : Int), ((0 : Int), ((0 : Int), ())))))), ()))))) ((0 : Int), (x.1, ()))) 150 (.agg T0) (fun u1 => l none) (l none))
theorem q1105 (x : (a1105).den) : runFn Try.prog E0 G1105 Try.f105 l1105 a1105 r1105 x = Q1105 .leaf .any x := by kernel_rfl
def M1105 (x : (a1105).den) : Option (r1105).den := Q1105 (fun r => r) (fun _ _ => none) x
theorem m1105 (x : (a1105).den) : (runFn Try.prog E0 G1105 Try.f105 l1105 a1105 r1105 x).sure = M1105 x := by rw [q1105]; unfold M1105 Q1105; simp only [Tree.sure, sus]
def p1105 (x : (a1105).den) : Bool := (M1105 x).isSome
def v1105 (x : (a1105).den) : (r1105).den := (M1105 x).getD (r1105).dflt
def k1105 : Con := ⟨a1105, r1105, p1105, v1105⟩
theorem h1105 : Holds Try.prog 105 k1105 := holds_of_M' (E := E0) follows_ok g1105 eqTy_sound keyTy_sound at1105 bd1105 (by kernel_rfl) m1105 fun G' hlo hF hE => LsOK_kn (by rw [lo1105]; exact .cons (loopV_ok hE hF hlo (LsOK_kn (by rw [lo1105x0]; exact .unr (LsOK_kn (by rw [lo1105x0x0]; exact .nil)) (.nil))) (by kernel_rfl) (by kernel_rfl) sp1105x0 (fun _ => rfl) (fun _ _ => rfl) (s1105x0) big) (.nil))
abbrev T89 : Ty := (.cons T7 T14)
noncomputable def c106 : Code := Try.f106.body.getD .skip
theorem at106 : Try.prog.funcs[106]? = some Try.f106 := by kernel_rfl
theorem bd106 : Try.f106.body = some c106 := by kernel_rfl
theorem cl106 : Callable Try.prog 106 := callable_of at106 (by kernel_rfl) (by kernel_rfl)
abbrev a106 : Ty := T72
abbrev r106 : Ty := T8
noncomputable def G106 : ((a106).den → Option (r106).den) → Ctx := fun R106 => Ctx.of [(88, .pure k88), (94, .pure k94), (96, .pure k96), (105, .pure k1105), (106, .pure (conM R106))]
theorem g106 (R106 : (a106).den → Option (r106).den) (hR : Holds Try.prog 106 (conM R106)) : Sound Try.prog (G106 R106) := sound_of (List.forall_mem_cons.2 ⟨⟨cl88, h88⟩, List.forall_mem_cons.2 ⟨⟨cl94, h94⟩, List.forall_mem_cons.2 ⟨⟨cl96, h96⟩, List.forall_mem_cons.2 ⟨⟨cl105, h1105⟩, List.forall_mem_cons.2 ⟨⟨cl106, hR⟩, fun _ h => by cases h⟩⟩⟩⟩⟩)
theorem lo106 : loopsOf (c106) = [] := by kernel_rfl
noncomputable def l106 : ((a106).den → Option (r106).den) → List Loop := fun R106 => []
def Q106 (R106 : (a106).den → Option (r106).den) {α : Type} (l : Option (r106).den → α) (an : α → α → α) (x : (a106).den) : α := cl (r94).dflt (M94 ((x.1.1, (x.1.2.1, (x.1.2.2.1, (x.1.2.2.2.1, (x.1.2.2.2.2.1, ((), ())))))), x.2)) (fun u0 => bif (decide ((0 : Int) < x.2.1)) then bif (decide (((0 : Int) ≤ x.2.1) ∧ (x.2.1 < ((x.1.2.2.2.2.2.1.n : Nat) : Int)))) then bif (decide (((0 : Int) ≤ x.2.2.1) ∧ (x.2.2.1 < (((x.1.2.2.2.2.2.1.g (Int.toNat x.2.1)).1.n : Nat) : Int)))) then bif (decide ((0 : Int) ≤ ((x.1.2.2.2.2.2.1.g (Int.toNat x.2.1)).1.g (Int.toNat x.2.2.1)).1)) then bif (decide (((0 : Int) ≤ x.2.1) ∧ (x.2.1 < ((x.1.2.2.2.2.2.1.n : Nat) : Int)))) then bif (decide (((0 : Int) ≤ x.2.2.1) ∧ (x.2.2.1 < (((x.1.2.2.2.2.2.1.g (Int.toNat x.2.1)).1.n : Nat) : Int)))) then cl (Ty.dflt T8) (R106 (x.1, ((W (x.2.1 - (1 : Int))), ((x.1.2.2.2.2.2.1.g (Int.toNat x.2.1)).1.g (Int.toNat x.2.2.1))))) (fun u1 => cl (r96).dflt (M96 ((x.1.1, (x.1.2.1, (x.1.2.2.1, (x.1.2.2.2.1, (x.1.2.2.2.2.1, ((), ())))))), (x.2.1, ()))) (fun u2 => cl (r88).dflt (M88 ((x.1.1, (x.1.2.1, (x.1.2.2.1, (x.1.2.2.2.1, (x.1.2.2.2.2.1, ((), ())))))), (u1.1, u2))) (fun u3 => cl (r1105).dflt (M1105 (u0.1, ((⟨1, fun i => List.getD [u3.1] i u3.1⟩ : Sl _), ()))) (fun u4 => l (some (u4.1, ()))) (l none)) (l none)) (l none)) (l none) else l none else l none else l (some (u0.1, ())) else l none else l none else l (some (u0.1, ()))) (l none)
theorem q106 (R106 : (a106).den → Option (r106).den) (x : (a106).den) : runFn Try.prog E0 (G106 R106) Try.f106 (l106 R106) a106 r106 x = Q106 R106 .leaf .any x := by kernel_rfl
def U106 (R106 : (a106).den → Option (r106).den) (x : (a106).den) : Option (r106).den := Q106 R106 (fun r => r) (fun _ _ => none) x
theorem m106 (R106 : (a106).den → Option (r106).den) (x : (a106).den) : (runFn Try.prog E0 (G106 R106) Try.f106 (l106 R106) a106 r106 x).sure = U106 R106 x := by rw [q106]; unfold U106 Q106; simp only [Tree.sure, sus]
theorem hr106 (R106 : (a106).den → Option (r106).den) (hR : Holds Try.prog 106 (conM R106)) : Holds Try.prog 106 (conM (U106 R106)) := holds_of_M' (E := E0) follows_ok (g106 R106 hR) eqTy_sound keyTy_sound at106 bd106 (by kernel_rfl) (m106 R106) fun G' hlo hF hE => LsOK_kn (by rw [lo106]; exact .nil)
def F106 : Nat → (a106).den → Option (r106).den
 | 0 => fun _ => none
 | n + 1 => U106 (F106 n)
theorem hf106 : ∀ n, Holds Try.prog 106 (conM (F106 n))
 | 0 => conM_none
 | n + 1 => hr106 _ (hf106 n)
def M106 (x : (a106).den) : Option (r106).den := F106 6 x
def p106 (x : (a106).den) : Bool := (M106 x).isSome
def v106 (x : (a106).den) : (r106).den := (M106 x).getD (r106).dflt
def k106 : Con := ⟨a106, r106, p106, v106⟩
theorem h106 : Holds Try.prog 106 k106 := hf106 6
noncomputable def c107 : Code := Try.f107.body.getD .skip
theorem at107 : Try.prog.funcs[107]? = some Try.f107 := by kernel_rfl
theorem bd107 : Try.f107.body = some c107 := by kernel_rfl
theorem cl107 : Callable Try.prog 107 := callable_of at107 (by kernel_rfl) (by kernel_rfl)
abbrev a107 : Ty := T72
abbrev r107 : Ty := T8
noncomputable def G107 : ((a107).den → Option (r107).den) → Ctx := fun R107 => Ctx.of [(88, .pure k88), (94, .pure k94), (96, .pure k96), (100, .pure k100), (105, .pure k1105), (107, .pure (conM R107))]
theorem g107 (R107 : (a107).den → Option (r107).den) (hR : Holds Try.prog 107 (conM R107)) : Sound Try.prog (G107 R107) := sound_of (List.forall_mem_cons.2 ⟨⟨cl88, h88⟩, List.forall_mem_cons.2 ⟨⟨cl94, h94⟩, List.forall_mem_cons.2 ⟨⟨cl96, h96⟩, List.forall_mem_cons.2 ⟨⟨cl100, h100⟩, List.forall_mem_cons.2 ⟨⟨cl105, h1105⟩, List.forall_mem_cons.2 ⟨⟨cl107, hR⟩, fun _ h => by cases h⟩⟩⟩⟩⟩⟩)
theorem lo107 : loopsOf (c107) = [] := by kernel_rfl
noncomputable def l107 : ((a107).den → Option (r107).den) → List Loop := fun R107 => []
def Q107 (R107 : (a107).den → Option (r107).den) {α : Type} (l : Option (r107).den → α) (an : α → α → α) (x : (a107).den) : α := cl (r94).dflt (M94 ((x.1.1, (x.1.2.1, (x.1.2.2.1, (x.1.2.2.2.1, (x.1.2.2.2.2.1, ((), ())))))), x.2)) (fun u0 => cl (r100).dflt (M100 (x.1, x.2)) (fun u1 => bif (decide ((0 : Int) ≤ u1.1)) then cl (Ty.dflt T8) (R107 (x.1, ((W (x.2.1 + (1 : Int))), u1))) (fun u2 => cl (r96).dflt (M96 ((x.1.1, (x.1.2.1, (x.1.2.2.1, (x.1.2.2.2.1, (x.1.2.2.2.2.1, ((), ())))))), ((W (x.2.1 + (1 : Int))), ()))) (fun u3 => cl (r88).dflt (M88 ((x.1.1, (x.1.2.1, (x.1.2.2.1, (x.1.2.2.2.1, (x.1.2.2.2.2.1, ((), ())))))), (u2.1, u3))) (fun u4 => cl (r1105).dflt (M1105 (u0.1, ((⟨1, fun i => List.getD [u4.1] i u4.1⟩ : Sl _), ()))) (fun u5 => l (some (u5.1, ()))) (l none)) (l none)) (l none)) (l none) else l (some (u0.1, ()))) (l none)) (l none)
theorem q107 (R107 : (a107).den → Option (r107).den) (x : (a107).den) : runFn Try.prog E0 (G107 R107) Try.f107 (l107 R107) a107 r107 x = Q107 R107 .leaf .any x := by kernel_rfl
def U107 (R107 : (a107).den → Option (r107).den) (x : (a107).den) : Option (r107).den := Q107 R107 (fun r => r) (fun _ _ => none) x
theorem m107 (R107 : (a107).den → Option (r107).den) (x : (a107).den) : (runFn Try.prog E0 (G107 R107) Try.f107 (l107 R107) a107 r107 x).sure = U107 R107 x := by rw [q107]; unfold U107 Q107; simp only [Tree.sure, sus]
theorem hr107 (R107 : (a107).den → Option (r107).den) (hR : Holds Try.prog 107 (conM R107)) : Holds Try.prog 107 (conM (U107 R107)) := holds_of_M' (E := E0) follows_ok (g107 R107 hR) eqTy_sound keyTy_sound at107 bd107 (by kernel_rfl) (m107 R107) fun G' hlo hF hE => LsOK_kn (by rw [lo107]; exact .nil)
def F107 : Nat → (a107).den → Option (r107).den
 | 0 => fun _ => none
 | n + 1 => U107 (F107 n)
theorem hf107 : ∀ n, Holds Try.prog 107 (conM (F107 n))
 | 0 => conM_none
 | n + 1 => hr107 _ (hf107 n)
def M107 (x : (a107).den) : Option (r107).den := F107 6 x
def p107 (x : (a107).den) : Bool := (M107 x).isSome
def v107 (x : (a107).den) : (r107).den := (M107 x).getD (r107).dflt
def k107 : Con := ⟨a107, r107, p107, v107⟩
theorem h107 : Holds Try.prog 107 k107 := hf107 6
noncomputable def c80 : Code := Try.f80.body.getD .skip
theorem at80 : Try.prog.funcs[80]? = some Try.f80 := by kernel_rfl
theorem bd80 : Try.f80.body = some c80 := by kernel_rfl
theorem cl80 : Callable Try.prog 80 := callable_of at80 (by kernel_rfl) (by kernel_rfl)
abbrev a80 : Ty := T88
abbrev r80 : Ty := T8
noncomputable def G80 : Ctx := Ctx.of [(81, .pure k81), (105, .pure k1105), (106, .pure k106), (107, .pure k107)]
theorem g80 : Sound Try.prog (G80) := sound_of (List.forall_mem_cons.2 ⟨⟨cl81, h81⟩, List.forall_mem_cons.2 ⟨⟨cl105, h1105⟩, List.forall_mem_cons.2 ⟨⟨cl106, h106⟩, List.forall_mem_cons.2 ⟨⟨cl107, h107⟩, fun _ h => by cases h⟩⟩⟩⟩)
noncomputable def b80x0 : Code := rangeBody ((loopsOf (c80))[0]?)
noncomputable def as80x0 : Code := rangeAs ((loopsOf (c80))[0]?)
abbrev mp80x0 : List Pat := [.slot 4 (.ptr 4), .slot 5 (.ptr 5), .slot 6 (.ptr 6), .slot 7 (.ptr 61), .slot 8 (.ptr 116), .box 4 [.pc tI], .box 5 [.pc tI], .box 6 [.pc tI, .pc tI, .pc tI, .pc tI, .pc tI, .pc tI], .box 61 [.pc tI, .pc tI, .pc tI, .pc tI, .pc tI, .pc tI], .box 116 [.pc .bool]]
noncomputable def b80x0x0 : Code := loopBody ((loopsOf (b80x0))[0]?)
theorem lo80x0x0 : loopsOf (b80x0x0) = [] := by kernel_rfl
theorem lo80x0 : loopsOf (b80x0) = [.loop b80x0x0] := by kernel_rfl
def Z80x0 {α : Type} (l : RO mp80x0 → α) (an : α → α → α) (x : ZD mp80x0) (it : Ty.den T50) : α := cl (r106).dflt (M106 (it.1, (x.2.2.2.2.2.1.1, x.2.2.2.2.2.2.1))) (fun u0 => cl (r107).dflt (M107 (it.1, (x.2.2.2.2.2.1.1, x.2.2.2.2.2.2.1))) (fun u1 => cl (r1105).dflt (M1105 (u0.1, ((⟨1, fun i => List.getD [u1.1] i u1.1⟩ : Sl _), ()))) (fun u2 => bif (!x.2.2.2.2.2.2.2.2.2.1.1) then l (.next ((), ((), ((), ((), ((), (x.2.2.2.2.2.1, (x.2.2.2.2.2.2.1, (x.2.2.2.2.2.2.2.1, (((mn u2.1.1 u2.1.1), ((mx u2.1.2.1 u2.1.2.1), ((mn u2.1.2.2.1 u2.1.2.2.1), ((mx u2.1.2.2.2.1 u2.1.2.2.2.1), ((mn u2.1.2.2.2.2.1 u2.1.2.2.2.2.1), ((mx u2.1.2.2.2.2.2.1 u2.1.2.2.2.2.2.1), ())))))), ((true, ()), ()))))))))))) else l (.next ((), ((), ((), ((), ((), (x.2.2.2.2.2.1, (x.2.2.2.2.2.2.1, (x.2.2.2.2.2.2.2.1, (((mn x.2.2.2.2.2.2.2.2.1.1 u2.1.1), ((mx x.2.2.2.2.2.2.2.2.1.2.1 u2.1.2.1), ((mn x.2.2.2.2.2.2.2.2.1.2.2.1 u2.1.2.2.1), ((mx x.2.2.2.2.2.2.2.2.1.2.2.2.1 u2.1.2.2.2.1), ((mn x.2.2.2.2.2.2.2.2.1.2.2.2.2.1 u2.1.2.2.2.2.1), ((mx x.2.2.2.2.2.2.2.2.1.2.2.2.2.2.1 u2.1.2.2.2.2.2.1), ())))))), (x.2.2.2.2.2.2.2.2.2.1, ())))))))))))) (l .bad)) (l .bad)) (l .bad)
theorem z80x0 (x : ZD mp80x0) (it : Ty.den T50) : stepR Try.prog E0 G80 0 500000 54 [14] as80x0 b80x0 [] [.unroll 4 []] T50 mp80x0 x it = Z80x0 .leaf .any x it := by kernel_rfl
def S80x0 (x : ZD mp80x0) (it : Ty.den T50) : RO mp80x0 := Z80x0 (fun r => r) (fun _ _ => .bad) x it
theorem s80x0 (x : ZD mp80x0) (it : Ty.den T50) : (stepR Try.prog E0 G80 0 500000 54 [14] as80x0 b80x0 [] [.unroll 4 []] T50 mp80x0 x it).detB .bad = S80x0 x it := by rw [z80x0]; unfold S80x0 Z80x0; simp only [detB_cond, Tree.detB, detB_cl, detB_onExit, detB_onPanL]
def L80x0 (x : ZD mp80x0) (l : List (Ty.den T50)) : RO mp80x0 := runAllD S80x0 x l
theorem lo80 : loopsOf (c80) = [.rangeFunc (.tmp 13) #[14] as80x0 b80x0] := by kernel_rfl
noncomputable def l80 : List Loop := [.known (rangeD 0 [] 13 T50 mp80x0 [] [] (fun x l => L80x0 x l))]
def Q80 {α : Type} (l : Option (r80).den → α) (an : α → α → α) (x : (a80).den) : α := cl (r81).dflt (M81 (x.1, ())) (fun u3 => onNext (L80x0 ((), ((), ((), ((), ((), ((x.2.1, ()), (x.2.2, (((0 : Int), ((0 : Int), ((0 : Int), ((0 : Int), ((0 : Int), ((0 : Int), ())))))), (((0 : Int), ((0 : Int), ((0 : Int), ((0 : Int), ((0 : Int), ((0 : Int), ())))))), ((false, ()), ())))))))))) (Sl.list u3.1)) (fun u4 => l (some (u4.2.2.2.2.2.2.2.2.1, ()))) (onRetO (L80x0 ((), ((), ((), ((), ((), ((x.2.1, ()), (x.2.2, (((0 : Int), ((0 : Int), ((0 : Int), ((0 : Int), ((0 : Int), ((0 : Int), ())))))), (((0 : Int), ((0 : Int), ((0 : Int), ((0 : Int), ((0 : Int), ((0 : Int), ())))))), ((false, ()), ())))))))))) (Sl.list u3.1)) (fun u5 => l (some (u5.2.2.2.2.2.2.2.1, ()))) (l none))) (l none)
theorem q80 (x : (a80).den) : runFn Try.prog E0 G80 Try.f80 l80 a80 r80 x = Q80 .leaf .any x := by kernel_rfl
def M80 (x : (a80).den) : Option (r80).den := Q80 (fun r => r) (fun _ _ => none) x
theorem m80 (x : (a80).den) : (runFn Try.prog E0 G80 Try.f80 l80 a80 r80 x).sure = M80 x := by rw [q80]; unfold M80 Q80; simp only [Tree.sure, sus]
def p80 (x : (a80).den) : Bool := (M80 x).isSome
def v80 (x : (a80).den) : (r80).den := (M80 x).getD (r80).dflt
def k80 : Con := ⟨a80, r80, p80, v80⟩
theorem h80 : Holds Try.prog 80 k80 := holds_of_M' (E := E0) follows_ok g80 eqTy_sound keyTy_sound at80 bd80 (by kernel_rfl) m80 fun G' hlo hF hE => LsOK_kn (by rw [lo80]; exact .cons (rangeD_ok hE hF hlo at80 (by kernel_rfl) (by kernel_rfl) (by kernel_rfl) (by kernel_rfl) (by kernel_rfl) (fun G' hlo hF l hE => LsOK_nil) (fun G' hlo hF l hE => LsOK_kn (by rw [lo80x0]; exact .unr (LsOK_kn (by rw [lo80x0x0]; exact .nil)) (.nil))) s80x0) (.nil))
noncomputable def c36 : Code := Try.f36.body.getD .skip
theorem at36 : Try.prog.funcs[36]? = some Try.f36 := by kernel_rfl
theorem bd36 : Try.f36.body = some c36 := by kernel_rfl
theorem cl36 : Callable Try.prog 36 := callable_of at36 (by kernel_rfl) (by kernel_rfl)
abbrev a36 : Ty := T88
abbrev r36 : Ty := T34
noncomputable def G36 : Ctx := Ctx.of [(63, .pure k63), (78, .pure k78), (79, .pure k79), (80, .pure k80)]
theorem g36 : Sound Try.prog (G36) := sound_of (List.forall_mem_cons.2 ⟨⟨cl63, h63⟩, List.forall_mem_cons.2 ⟨⟨cl78, h78⟩, List.forall_mem_cons.2 ⟨⟨cl79, h79⟩, List.forall_mem_cons.2 ⟨⟨cl80, h80⟩, fun _ h => by cases h⟩⟩⟩⟩)
theorem lo36 : loopsOf (c36) = [] := by kernel_rfl
noncomputable def l36 : List Loop := []
def Q36 {α : Type} (l : Option (r36).den → α) (an : α → α → α) (x : (a36).den) : α := cl (r78).dflt (M78 (x.1, x.2)) (fun u0 => cl (r63).dflt (M63 (x.1, u0)) (fun u1 => bif (!(decide (u1.1 = (0 : Int)))) then l (some (((0 : Int), ((0 : Int), ((0 : Int), ((0 : Int), ((0 : Int), ((0 : Int), ())))))), u1)) else cl (r80).dflt (M80 (x.1, x.2)) (fun u2 => cl (r79).dflt (M79 (u2.1, ())) (fun u3 => l (some (u3.1, ((0 : Int), ())))) (l none)) (l none)) (l none)) (l none)
theorem q36 (x : (a36).den) : runFn Try.prog E0 G36 Try.f36 l36 a36 r36 x = Q36 .leaf .any x := by kernel_rfl
def M36 (x : (a36).den) : Option (r36).den := Q36 (fun r => r) (fun _ _ => none) x
theorem m36 (x : (a36).den) : (runFn Try.prog E0 G36 Try.f36 l36 a36 r36 x).sure = M36 x := by rw [q36]; unfold M36 Q36; simp only [Tree.sure, sus]
def p36 (x : (a36).den) : Bool := (M36 x).isSome
def v36 (x : (a36).den) : (r36).den := (M36 x).getD (r36).dflt
def k36 : Con := ⟨a36, r36, p36, v36⟩
theorem h36 : Holds Try.prog 36 k36 := holds_of_M' (E := E0) follows_ok g36 eqTy_sound keyTy_sound at36 bd36 (by kernel_rfl) m36 fun G' hlo hF hE => LsOK_kn (by rw [lo36]; exact .nil)
noncomputable def c82 : Code := Try.f82.body.getD .skip
theorem at82 : Try.prog.funcs[82]? = some Try.f82 := by kernel_rfl
theorem bd82 : Try.f82.body = some c82 := by kernel_rfl
theorem cl82 : Callable Try.prog 82 := callable_of at82 (by kernel_rfl) (by kernel_rfl)
abbrev a82 : Ty := T72
abbrev r82 : Ty := T30
noncomputable def G82 : Ctx := Ctx.of [(100, .pure k100)]
theorem g82 : Sound Try.prog (G82) := sound_of (List.forall_mem_cons.2 ⟨⟨cl100, h100⟩, fun _ h => by cases h⟩)
noncomputable def b82x0 : Code := loopBody ((loopsOf (c82))[0]?)
theorem lo82x0 : loopsOf (b82x0) = [] := by kernel_rfl
abbrev cs82x0 : List Pat := [.slot 3 (.ptr 3), .box 3 [.pc T16, .pc tI, .pc tI, .pc tI, .pc tI, .pc T42]]
abbrev vs82x0 : List Pat := [.slot 1 (.pc tI), .slot 2 (.pc tI), .slot 7 (.own 1000007 3 T0)]
abbrev ps82x0 : List Pat := cs82x0 ++ vs82x0
def j82x0 : ZJ cs82x0 vs82x0 ps82x0 := ZA _ _
def sp82x0 : ZS cs82x0 vs82x0 ps82x0 := ZP _ _
abbrev wy82x0 : Ways := ⟨[(0, [.slot 7 (.own 1000007 3 T0)])], [], []⟩
abbrev wv82x0 : Ways := ⟨[(0, [.slot 7 (.own 1000007 3 T0)])], [], []⟩
def je82x0 : ZE cs82x0 wv82x0 wy82x0 := fun id => match id with | 0 => fun c y => y | _ => ZDf
def Z82x0 {α : Type} (l : RQ vs82x0 wv82x0 → α) (an : α → α → α) (c : ZD cs82x0) (v : ZD vs82x0) : α := bif (decide ((0 : Int) ≤ v.2.1)) then bif (decide (((v.2.2.1.n + 1) * 8) ≤ 140737488355328)) then cl (r100).dflt (M100 (c.2.1, (v.1, (v.2.1, ())))) (fun u0 => l (.next ((W (v.1 + (1 : Int))), (u0.1, ((catSl v.2.2.1 (⟨1, fun i => List.getD [(v.2.1, ())] i (v.2.1, ())⟩ : Sl (Ty.den T0))), ()))))) (l .bad) else l .bad else l (.out (.exit 0 v.2.2))
theorem z82x0 (c : ZD cs82x0) (v : ZD vs82x0) : roundQ Try.prog E0 G82 0 21 [] ps82x0 wy82x0 b82x0 [] (j82x0 c v) = Z82x0 (fun r => .leaf (r.lift j82x0 je82x0 ZI ZI c)) .any c v := by kernel_rfl
def S82x0 (c : ZD cs82x0) (v : ZD vs82x0) : RQ vs82x0 wv82x0 := Z82x0 (fun r => r) (fun _ _ => .bad) c v
theorem s82x0 (c : ZD cs82x0) (v : ZD vs82x0) : detQ (roundQ Try.prog E0 G82 0 21 [] ps82x0 wy82x0 b82x0 [] (j82x0 c v)) = (S82x0 c v).lift j82x0 je82x0 ZI ZI c := by rw [z82x0]; unfold S82x0 Z82x0; simp only [detQ, lift_bad, dqs]
def L82x0 (c : ZD cs82x0) (v : ZD vs82x0) : LQ wv82x0 := iterQ (S82x0 c) big v
theorem lo82 : loopsOf (c82) = [.loop b82x0] := by kernel_rfl
noncomputable def l82 : List Loop := [.known (loopZ 0 [] ps82x0 fun x => spreadV wy82x0 je82x0 ZI ZI [] false (sp82x0 x).1 (L82x0 (sp82x0 x).1 (sp82x0 x).2) wy82x0.exits)]
def Q82 {α : Type} (l : Option (r82).den → α) (an : α → α → α) (x : (a82).den) : α := onExit (L82x0 ((), (x.1, ())) (x.2.1, (x.2.2.1, ((⟨0, fun i => ((0 : Int), ())⟩ : Sl _), ())))) 0 (fun u1 => l (some u1)) (l none)
theorem q82 (x : (a82).den) : runFn Try.prog E0 G82 Try.f82 l82 a82 r82 x = Q82 .leaf .any x := by kernel_rfl
def M82 (x : (a82).den) : Option (r82).den := Q82 (fun r => r) (fun _ _ => none) x
theorem m82 (x : (a82).den) : (runFn Try.prog E0 G82 Try.f82 l82 a82 r82 x).sure = M82 x := by rw [q82]; unfold M82 Q82; simp only [Tree.sure, sus]
def p82 (x : (a82).den) : Bool := (M82 x).isSome
def v82 (x : (a82).den) : (r82).den := (M82 x).getD (r82).dflt
def k82 : Con := ⟨a82, r82, p82, v82⟩
theorem h82 : Holds Try.prog 82 k82 := holds_of_M' (E := E0) follows_ok g82 eqTy_sound keyTy_sound at82 bd82 (by kernel_rfl) m82 fun G' hlo hF hE => LsOK_kn (by rw [lo82]; exact .cons (loopV_ok hE hF hlo (LsOK_kn (by rw [lo82x0]; exact .nil)) (by kernel_rfl) (by kernel_rfl) sp82x0 (fun _ => rfl) (fun _ _ => rfl) (s82x0) big) (.nil))
noncomputable def c87 : Code := Try.f87.body.getD .skip
theorem at87 : Try.prog.funcs[87]? = some Try.f87 := by kernel_rfl
theorem bd87 : Try.f87.body = some c87 := by kernel_rfl
theorem cl87 : Callable Try.prog 87 := callable_of at87 (by kernel_rfl) (by kernel_rfl)
abbrev a87 : Ty := T50
abbrev r87 : Ty := T0
noncomputable def G87 : Ctx := Ctx.of []
theorem g87 : Sound Try.prog (G87) := sound_of (fun _ h => by cases h)
noncomputable def b87x0 : Code := loopBody ((loopsOf (c87))[0]?)
noncomputable def b87x0x0 : Code := loopBody ((loopsOf (b87x0))[0]?)
theorem lo87x0x0 : loopsOf (b87x0x0) = [] := by kernel_rfl
abbrev cs87x0x0 : List Pat := [.slot 10 (.pc T42), .slot 11 (.pc tI), .slot 12 (.pc tI), .slot 16 (.pc (.sl T0)), .slot 17 (.pc tI)]
abbrev vs87x0x0 : List Pat := [.slot 3 (.pc tI), .slot 18 (.pc tI)]
abbrev ps87x0x0 : List Pat := cs87x0x0 ++ vs87x0x0
def j87x0x0 : ZJ cs87x0x0 vs87x0x0 ps87x0x0 := ZA _ _
def sp87x0x0 : ZS cs87x0x0 vs87x0x0 ps87x0x0 := ZP _ _
abbrev wy87x0x0 : Ways := ⟨[(2, [.slot 10 (.pc T42), .slot 11 (.pc tI), .slot 12 (.pc tI), .slot 3 (.pc tI)])], [], []⟩
abbrev wv87x0x0 : Ways := ⟨[(2, [.slot 3 (.pc tI)])], [], []⟩
def je87x0x0 : ZE cs87x0x0 wv87x0x0 wy87x0x0 := fun id => match id with | 2 => fun c y => (c.1, (c.2.1, (c.2.2.1, y))) | _ => ZDf
def Z87x0x0 {α : Type} (l : RQ vs87x0x0 wv87x0x0 → α) (an : α → α → α) (c : ZD cs87x0x0) (v : ZD vs87x0x0) : α := bif (decide (v.2.1 < c.2.2.2.2.1)) then bif (decide (((0 : Int) ≤ v.2.1) ∧ (v.2.1 < ((c.2.2.2.1.n : Nat) : Int)))) then bif (decide ((c.2.2.2.1.g (Int.toNat v.2.1)).1 < (0 : Int))) then l (.next ((W (v.1 + (1 : Int))), ((W (v.2.1 + (1 : Int))), ()))) else l (.next (v.1, ((W (v.2.1 + (1 : Int))), ()))) else l .bad else l (.out (.exit 2 (v.1, ())))
theorem z87x0x0 (c : ZD cs87x0x0) (v : ZD vs87x0x0) : roundQ Try.prog E0 G87 0 29 [] ps87x0x0 wy87x0x0 b87x0x0 [] (j87x0x0 c v) = Z87x0x0 (fun r => .leaf (r.lift j87x0x0 je87x0x0 ZI ZI c)) .any c v := by kernel_rfl
def S87x0x0 (c : ZD cs87x0x0) (v : ZD vs87x0x0) : RQ vs87x0x0 wv87x0x0 := Z87x0x0 (fun r => r) (fun _ _ => .bad) c v
theorem s87x0x0 (c : ZD cs87x0x0) (v : ZD vs87x0x0) : detQ (roundQ Try.prog E0 G87 0 29 [] ps87x0x0 wy87x0x0 b87x0x0 [] (j87x0x0 c v)) = (S87x0x0 c v).lift j87x0x0 je87x0x0 ZI ZI c := by rw [z87x0x0]; unfold S87x0x0 Z87x0x0; simp only [detQ, lift_bad, dqs]
def L87x0x0 (c : ZD cs87x0x0) (v : ZD vs87x0x0) : LQ wv87x0x0 := iterQ (S87x0x0 c) big v
theorem lo87x0 : loopsOf (b87x0) = [.loop b87x0x0] := by kernel_rfl
abbrev cs87x0 : List Pat := [.slot 10 (.pc T42), .slot 11 (.pc tI)]
abbrev vs87x0 : List Pat := [.slot 3 (.pc tI), .slot 12 (.pc tI)]
abbrev ps87x0 : List Pat := cs87x0 ++ vs87x0
def j87x0 : ZJ cs87x0 vs87x0 ps87x0 := ZA _ _
def sp87x0 : ZS cs87x0 vs87x0 ps87x0 := ZP _ _
abbrev wy87x0 : Ways := ⟨[(0, [.slot 3 (.pc tI)])], [], []⟩
abbrev wv87x0 : Ways := ⟨[(0, [.slot 3 (.pc tI)])], [], []⟩
def je87x0 : ZE cs87x0 wv87x0 wy87x0 := fun id => match id with | 0 => fun c y => y | _ => ZDf
def Z87x0 {α : Type} (l : RQ vs87x0 wv87x0 → α) (an : α → α → α) (c : ZD cs87x0) (v : ZD vs87x0) : α := bif (decide (v.2.1 < c.2.1)) then bif (decide (((0 : Int) ≤ v.2.1) ∧ (v.2.1 < ((c.1.n : Nat) : Int)))) then onExit (L87x0x0 (c.1, (c.2.1, (v.2.1, ((c.1.g (Int.toNat v.2.1)).1, ((((c.1.g (Int.toNat v.2.1)).1.n : Nat) : Int), ()))))) (v.1, ((0 : Int), ()))) 2 (fun u0 => l (.next (u0.1, ((W (v.2.1 + (1 : Int))), ())))) (l .bad) else l .bad else l (.out (.exit 0 (v.1, ())))
theorem z87x0 (c : ZD cs87x0) (v : ZD vs87x0) : roundQ Try.prog E0 G87 0 29 [] ps87x0 wy87x0 b87x0 [.known (loopZ 0 [] ps87x0x0 fun x => spreadV wy87x0x0 je87x0x0 ZI ZI [] false (sp87x0x0 x).1 (L87x0x0 (sp87x0x0 x).1 (sp87x0x0 x).2) wy87x0x0.exits)] (j87x0 c v) = Z87x0 (fun r => .leaf (r.lift j87x0 je87x0 ZI ZI c)) .any c v := by kernel_rfl
def S87x0 (c : ZD cs87x0) (v : ZD vs87x0) : RQ vs87x0 wv87x0 := Z87x0 (fun r => r) (fun _ _ => .bad) c v
theorem s87x0 (c : ZD cs87x0) (v : ZD vs87x0) : detQ (roundQ Try.prog E0 G87 0 29 [] ps87x0 wy87x0 b87x0 [.known (loopZ 0 [] ps87x0x0 fun x => spreadV wy87x0x0 je87x0x0 ZI ZI [] false (sp87x0x0 x).1 (L87x0x0 (sp87x0x0 x).1 (sp87x0x0 x).2) wy87x0x0.exits)] (j87x0 c v)) = (S87x0 c v).lift j87x0 je87x0 ZI ZI c := by rw [z87x0]; unfold S87x0 Z87x0; simp only [detQ, lift_bad, dqs]
def L87x0 (c : ZD cs87x0) (v : ZD vs87x0) : LQ wv87x0 := iterQ (S87x0 c) big v
theorem lo87 : loopsOf (c87) = [.loop b87x0] := by kernel_rfl
noncomputable def l87 : List Loop := [.known (loopZ 0 [] ps87x0 fun x => spreadV wy87x0 je87x0 ZI ZI [] false (sp87x0 x).1 (L87x0 (sp87x0 x).1 (sp87x0 x).2) wy87x0.exits)]
def Q87 {α : Type} (l : Option (r87).den → α) (an : α → α → α) (x : (a87).den) : α := bif (decide (((0 : Int) ≤ (1 : Int)) ∧ (((1 : Int) ≤ ((x.1.2.2.2.2.2.1.n : Nat) : Int)) ∧ (((x.1.2.2.2.2.2.1.n : Nat) : Int) ≤ ((x.1.2.2.2.2.2.1.n : Nat) : Int))))) then onExit (L87x0 ((⟨(Int.toNat (((x.1.2.2.2.2.2.1.n : Nat) : Int) - (1 : Int))), fun i => (x.1.2.2.2.2.2.1.g (i + 1))⟩ : Sl _), ((((Int.toNat (((x.1.2.2.2.2.2.1.n : Nat) : Int) - (1 : Int))) : Nat) : Int), ())) ((0 : Int), ((0 : Int), ()))) 0 (fun u1 => l (some u1)) (l none) else l none
theorem q87 (x : (a87).den) : runFn Try.prog E0 G87 Try.f87 l87 a87 r87 x = Q87 .leaf .any x := by kernel_rfl
def M87 (x : (a87).den) : Option (r87).den := Q87 (fun r => r) (fun _ _ => none) x
theorem m87 (x : (a87).den) : (runFn Try.prog E0 G87 Try.f87 l87 a87 r87 x).sure = M87 x := by rw [q87]; unfold M87 Q87; simp only [Tree.sure, sus]
def p87 (x : (a87).den) : Bool := (M87 x).isSome
def v87 (x : (a87).den) : (r87).den := (M87 x).getD (r87).dflt
def k87 : Con := ⟨a87, r87, p87, v87⟩
theorem h87 : Holds Try.prog 87 k87 := holds_of_M' (E := E0) follows_ok g87 eqTy_sound keyTy_sound at87 bd87 (by kernel_rfl) m87 fun G' hlo hF hE => LsOK_kn (by rw [lo87]; exact .cons (loopV_ok hE hF hlo (LsOK_kn (by rw [lo87x0]; exact .cons (loopV_ok hE hF hlo (LsOK_kn (by rw [lo87x0x0]; exact .nil)) (by kernel_rfl) (by kernel_rfl) sp87x0x0 (fun _ => rfl) (fun _ _ => rfl) (s87x0x0) big) (.nil))) (by kernel_rfl) (by kernel_rfl) sp87x0 (fun _ => rfl) (fun _ _ => rfl) (s87x0) big) (.nil))
noncomputable def c40 : Code := Try.f40.body.getD .skip
theorem at40 : Try.prog.funcs[40]? = some Try.f40 := by kernel_rfl
theorem bd40 : Try.f40.body = some c40 := by kernel_rfl
theorem cl40 : Callable Try.prog 40 := callable_of at40 (by kernel_rfl) (by kernel_rfl)
abbrev T90 : Ty := (.cons tI T77)
abbrev a40 : Ty := T19
abbrev r40 : Ty := T90
noncomputable def G40 : Ctx := Ctx.of [(63, .pure k63), (81, .pure k81), (87, .pure k87)]
theorem g40 : Sound Try.prog (G40) := sound_of (List.forall_mem_cons.2 ⟨⟨cl63, h63⟩, List.forall_mem_cons.2 ⟨⟨cl81, h81⟩, List.forall_mem_cons.2 ⟨⟨cl87, h87⟩, fun _ h => by cases h⟩⟩⟩)
noncomputable def b40x0 : Code := rangeBody ((loopsOf (c40))[0]?)
noncomputable def as40x0 : Code := rangeAs ((loopsOf (c40))[0]?)
abbrev mp40x0 : List Pat := [.slot 6 (.pc tI), .slot 7 (.ptr 179), .slot 8 (.ptr 180), .box 179 [.pc tI], .box 180 [.pc (.sl T30)]]
theorem lo40x0 : loopsOf (b40x0) = [] := by kernel_rfl
def Z40x0 {α : Type} (l : RO mp40x0 → α) (an : α → α → α) (x : ZD mp40x0) (it : Ty.den T50) : α := cl (r87).dflt (M87 (it.1, ())) (fun u0 => bif (decide (x.2.2.2.1.1 < (0 : Int))) then bif (decide (u0.1 = (0 : Int))) then l (.brk 0 (x.1, ((), ((), (u0, (it.1.2.2.2.2.2, ())))))) else l (.next (x.1, ((), ((), (u0, (it.1.2.2.2.2.2, ())))))) else bif (decide (u0.1 < x.2.2.2.1.1)) then bif (decide (u0.1 = (0 : Int))) then l (.brk 0 (x.1, ((), ((), (u0, (it.1.2.2.2.2.2, ())))))) else l (.next (x.1, ((), ((), (u0, (it.1.2.2.2.2.2, ())))))) else bif (decide (x.2.2.2.1.1 = (0 : Int))) then l (.brk 0 (x.1, ((), ((), (x.2.2.2.1, (x.2.2.2.2.1, ())))))) else l (.next (x.1, ((), ((), (x.2.2.2.1, (x.2.2.2.2.1, ()))))))) (l .bad)
theorem z40x0 (x : ZD mp40x0) (it : Ty.den T50) : stepR Try.prog E0 G40 0 500000 43 [24] as40x0 b40x0 [] [] T50 mp40x0 x it = Z40x0 .leaf .any x it := by kernel_rfl
def S40x0 (x : ZD mp40x0) (it : Ty.den T50) : RO mp40x0 := Z40x0 (fun r => r) (fun _ _ => .bad) x it
theorem s40x0 (x : ZD mp40x0) (it : Ty.den T50) : (stepR Try.prog E0 G40 0 500000 43 [24] as40x0 b40x0 [] [] T50 mp40x0 x it).detB .bad = S40x0 x it := by rw [z40x0]; unfold S40x0 Z40x0; simp only [detB_cond, Tree.detB, detB_cl, detB_onExit, detB_onPanL]
def L40x0 (x : ZD mp40x0) (l : List (Ty.den T50)) : RO mp40x0 := runAllD S40x0 x l
theorem lo40 : loopsOf (c40) = [.rangeFunc (.tmp 23) #[24] as40x0 b40x0] := by kernel_rfl
noncomputable def l40 : List Loop := [.known (rangeD 0 [] 23 T50 mp40x0 [0] [] (fun x l => L40x0 x l))]
def Q40 {α : Type} (l : Option (r40).den → α) (an : α → α → α) (x : (a40).den) : α := cl (r63).dflt (M63 (x.1, (true, ()))) (fun u1 => bif (!(decide (u1.1 = (0 : Int)))) then l (some ((0 : Int), ((⟨0, fun i => ((⟨0, fun i => ((0 : Int), ())⟩ : Sl _), ())⟩ : Sl _), u1))) else bif (decide (((0 : Int) ≤ (0 : Int)) ∧ ((0 : Int) < ((x.1.1.n : Nat) : Int)))) then cl (r81).dflt (M81 (x.1, ())) (fun u2 => onBrk (L40x0 ((((x.1.1.g 0).2.1.n : Nat) : Int), ((), ((), (((-1 : Int), ()), (((⟨0, fun i => ((⟨0, fun i => ((0 : Int), ())⟩ : Sl _), ())⟩ : Sl _), ()), ()))))) (Sl.list u2.1)) 0 (fun u3 => l (some ((W (u3.1 + u3.2.2.2.1.1)), (u3.2.2.2.2.1.1, ((0 : Int), ()))))) (onNext (L40x0 ((((x.1.1.g 0).2.1.n : Nat) : Int), ((), ((), (((-1 : Int), ()), (((⟨0, fun i => ((⟨0, fun i => ((0 : Int), ())⟩ : Sl _), ())⟩ : Sl _), ()), ()))))) (Sl.list u2.1)) (fun u4 => l (some ((W (u4.1 + u4.2.2.2.1.1)), (u4.2.2.2.2.1.1, ((0 : Int), ()))))) (onRetO (L40x0 ((((x.1.1.g 0).2.1.n : Nat) : Int), ((), ((), (((-1 : Int), ()), (((⟨0, fun i => ((⟨0, fun i => ((0 : Int), ())⟩ : Sl _), ())⟩ : Sl _), ()), ()))))) (Sl.list u2.1)) (fun u5 => l none) (l none)))) (l none) else l none) (l none)
theorem q40 (x : (a40).den) : runFn Try.prog E0 G40 Try.f40 l40 a40 r40 x = Q40 .leaf .any x := by kernel_rfl
def M40 (x : (a40).den) : Option (r40).den := Q40 (fun r => r) (fun _ _ => none) x
theorem m40 (x : (a40).den) : (runFn Try.prog E0 G40 Try.f40 l40 a40 r40 x).sure = M40 x := by rw [q40]; unfold M40 Q40; simp only [Tree.sure, sus]
def p40 (x : (a40).den) : Bool := (M40 x).isSome
def v40 (x : (a40).den) : (r40).den := (M40 x).getD (r40).dflt
def k40 : Con := ⟨a40, r40, p40, v40⟩
theorem h40 : Holds Try.prog 40 k40 := holds_of_M' (E := E0) follows_ok g40 eqTy_sound keyTy_sound at40 bd40 (by kernel_rfl) m40 fun G' hlo hF hE => LsOK_kn (by rw [lo40]; exact .cons (rangeD_ok hE hF hlo at40 (by kernel_rfl) (by kernel_rfl) (by kernel_rfl) (by kernel_rfl) (by kernel_rfl) (fun G' hlo hF l hE => LsOK_nil) (fun G' hlo hF l hE => LsOK_kn (by rw [lo40x0]; exact .nil)) s40x0) (.nil))
noncomputable def c59 : Code := Try.f59.body.getD .skip
theorem at59 : Try.prog.funcs[59]? = some Try.f59 := by kernel_rfl
theorem bd59 : Try.f59.body = some c59 := by kernel_rfl
theorem cl59 : Callable Try.prog 59 := callable_of at59 (by kernel_rfl) (by kernel_rfl)
abbrev T91 : Ty := (.cons (.sl T0) T30)
abbrev a59 : Ty := T91
abbrev r59 : Ty := T3
noncomputable def G59 : Ctx := Ctx.of []
theorem g59 : Sound Try.prog (G59) := sound_of (fun _ h => by cases h)
noncomputable def b59x0 : Code := loopBody ((loopsOf (c59))[0]?)
theorem lo59x0 : loopsOf (b59x0) = [] := by kernel_rfl
abbrev cs59x0 : List Pat := [.slot 0 (.pc (.sl T0)), .slot 1 (.pc (.sl T0))]
abbrev vs59x0 : List Pat := [.slot 5 (.pc tI)]
abbrev ps59x0 : List Pat := cs59x0 ++ vs59x0
def j59x0 : ZJ cs59x0 vs59x0 ps59x0 := ZA _ _
def sp59x0 : ZS cs59x0 vs59x0 ps59x0 := ZP _ _
abbrev wy59x0 : Ways := ⟨[(0, [])], [.slot 4 (.pc .bool)], []⟩
abbrev wv59x0 : Ways := ⟨[(0, [])], [.slot 4 (.pc .bool)], []⟩
def je59x0 : ZE cs59x0 wv59x0 wy59x0 := fun id => match id with | 0 => fun c y => y | _ => ZDf
def Z59x0 {α : Type} (l : RQ vs59x0 wv59x0 → α) (an : α → α → α) (c : ZD cs59x0) (v : ZD vs59x0) : α := bif (decide (v.1 < ((c.1.n : Nat) : Int))) then bif (decide (((0 : Int) ≤ v.1) ∧ (v.1 < ((c.1.n : Nat) : Int)))) then bif (decide (((0 : Int) ≤ v.1) ∧ (v.1 < ((c.2.1.n : Nat) : Int)))) then bif (!(decide ((c.1.g (Int.toNat v.1)).1 = (c.2.1.g (Int.toNat v.1)).1))) then l (.out (.ret (false, ()))) else l (.next ((W (v.1 + (1 : Int))), ())) else l .bad else l .bad else l (.out (.exit 0 ()))
theorem z59x0 (c : ZD cs59x0) (v : ZD vs59x0) : roundQ Try.prog E0 G59 0 26 [] ps59x0 wy59x0 b59x0 [] (j59x0 c v) = Z59x0 (fun r => .leaf (r.lift j59x0 je59x0 ZI ZI c)) .any c v := by kernel_rfl
def S59x0 (c : ZD cs59x0) (v : ZD vs59x0) : RQ vs59x0 wv59x0 := Z59x0 (fun r => r) (fun _ _ => .bad) c v
theorem s59x0 (c : ZD cs59x0) (v : ZD vs59x0) : detQ (roundQ Try.prog E0 G59 0 26 [] ps59x0 wy59x0 b59x0 [] (j59x0 c v)) = (S59x0 c v).lift j59x0 je59x0 ZI ZI c := by rw [z59x0]; unfold S59x0 Z59x0; simp only [detQ, lift_bad, dqs]
def L59x0 (c : ZD cs59x0) (v : ZD vs59x0) : LQ wv59x0 := iterQ (S59x0 c) big v
theorem lo59 : loopsOf (c59) = [.loop b59x0] := by kernel_rfl
noncomputable def l59 : List Loop := [.known (loopZ 0 [] ps59x0 fun x => spreadV wy59x0 je59x0 ZI ZI [] true (sp59x0 x).1 (L59x0 (sp59x0 x).1 (sp59x0 x).2) wy59x0.exits)]
def Q59 {α : Type} (l : Option (r59).den → α) (an : α → α → α) (x : (a59).den) : α := bif (!(decide (((x.1.n : Nat) : Int) = ((x.2.1.n : Nat) : Int)))) then l (some (false, ())) else onExit (L59x0 x ((0 : Int), ())) 0 (fun u0 => l (some (true, ()))) (onRet (L59x0 x ((0 : Int), ())) (fun u1 => l (some u1)) (l none))
theorem q59 (x : (a59).den) : runFn Try.prog E0 G59 Try.f59 l59 a59 r59 x = Q59 .leaf .any x := by kernel_rfl
def M59 (x : (a59).den) : Option (r59).den := Q59 (fun r => r) (fun _ _ => none) x
theorem m59 (x : (a59).den) : (runFn Try.prog E0 G59 Try.f59 l59 a59 r59 x).sure = M59 x := by rw [q59]; unfold M59 Q59; simp only [Tree.sure, sus]
def p59 (x : (a59).den) : Bool := (M59 x).isSome
def v59 (x : (a59).den) : (r59).den := (M59 x).getD (r59).dflt
def k59 : Con := ⟨a59, r59, p59, v59⟩
theorem h59 : Holds Try.prog 59 k59 := holds_of_M' (E := E0) follows_ok g59 eqTy_sound keyTy_sound at59 bd59 (by kernel_rfl) m59 fun G' hlo hF hE => LsOK_kn (by rw [lo59]; exact .cons (loopV_ok hE hF hlo (LsOK_kn (by rw [lo59x0]; exact .nil)) (by kernel_rfl) (by kernel_rfl) sp59x0 (fun _ => rfl) (fun _ _ => rfl) (s59x0) big) (.nil))
noncomputable def c41 : Code := Try.f41.body.getD .skip
theorem at41 : Try.prog.funcs[41]? = some Try.f41 := by kernel_rfl
theorem bd41 : Try.f41.body = some c41 := by kernel_rfl
theorem cl41 : Callable Try.prog 41 := callable_of at41 (by kernel_rfl) (by kernel_rfl)
abbrev a41 : Ty := T79
abbrev r41 : Ty := T3
noncomputable def G41 : Ctx := Ctx.of [(59, .pure k59)]
theorem g41 : Sound Try.prog (G41) := sound_of (List.forall_mem_cons.2 ⟨⟨cl59, h59⟩, fun _ h => by cases h⟩)
noncomputable def b41x0 : Code := loopBody ((loopsOf (c41))[0]?)
theorem lo41x0 : loopsOf (b41x0) = [] := by kernel_rfl
abbrev cs41x0 : List Pat := [.slot 0 (.pc T42), .slot 1 (.pc T42)]
abbrev vs41x0 : List Pat := [.slot 5 (.pc tI)]
abbrev ps41x0 : List Pat := cs41x0 ++ vs41x0
def j41x0 : ZJ cs41x0 vs41x0 ps41x0 := ZA _ _
def sp41x0 : ZS cs41x0 vs41x0 ps41x0 := ZP _ _
abbrev wy41x0 : Ways := ⟨[(0, [])], [.slot 4 (.pc .bool)], []⟩
abbrev wv41x0 : Ways := ⟨[(0, [])], [.slot 4 (.pc .bool)], []⟩
def je41x0 : ZE cs41x0 wv41x0 wy41x0 := fun id => match id with | 0 => fun c y => y | _ => ZDf
def Z41x0 {α : Type} (l : RQ vs41x0 wv41x0 → α) (an : α → α → α) (c : ZD cs41x0) (v : ZD vs41x0) : α := bif (decide (v.1 < ((c.1.n : Nat) : Int))) then bif (decide (((0 : Int) ≤ v.1) ∧ (v.1 < ((c.1.n : Nat) : Int)))) then bif (decide (((0 : Int) ≤ v.1) ∧ (v.1 < ((c.2.1.n : Nat) : Int)))) then cl (r59).dflt (M59 ((c.1.g (Int.toNat v.1)).1, (c.2.1.g (Int.toNat v.1)))) (fun u0 => bif (!u0.1) then l (.out (.ret (false, ()))) else l (.next ((W (v.1 + (1 : Int))), ()))) (l .bad) else l .bad else l .bad else l (.out (.exit 0 ()))
theorem z41x0 (c : ZD cs41x0) (v : ZD vs41x0) : roundQ Try.prog E0 G41 0 27 [] ps41x0 wy41x0 b41x0 [] (j41x0 c v) = Z41x0 (fun r => .leaf (r.lift j41x0 je41x0 ZI ZI c)) .any c v := by kernel_rfl
def S41x0 (c : ZD cs41x0) (v : ZD vs41x0) : RQ vs41x0 wv41x0 := Z41x0 (fun r => r) (fun _ _ => .bad) c v
theorem s41x0 (c : ZD cs41x0) (v : ZD vs41x0) : detQ (roundQ Try.prog E0 G41 0 27 [] ps41x0 wy41x0 b41x0 [] (j41x0 c v)) = (S41x0 c v).lift j41x0 je41x0 ZI ZI c := by rw [z41x0]; unfold S41x0 Z41x0; simp only [detQ, lift_bad, dqs]
def L41x0 (c : ZD cs41x0) (v : ZD vs41x0) : LQ wv41x0 := iterQ (S41x0 c) big v
theorem lo41 : loopsOf (c41) = [.loop b41x0] := by kernel_rfl
noncomputable def l41 : List Loop := [.known (loopZ 0 [] ps41x0 fun x => spreadV wy41x0 je41x0 ZI ZI [] true (sp41x0 x).1 (L41x0 (sp41x0 x).1 (sp41x0 x).2) wy41x0.exits)]
def Q41 {α : Type} (l : Option (r41).den → α) (an : α → α → α) (x : (a41).den) : α := bif (!(decide (((x.1.n : Nat) : Int) = ((x.2.1.n : Nat) : Int)))) then l (some (false, ())) else onExit (L41x0 x ((0 : Int), ())) 0 (fun u1 => l (some (true, ()))) (onRet (L41x0 x ((0 : Int), ())) (fun u2 => l (some u2)) (l none))
theorem q41 (x : (a41).den) : runFn Try.prog E0 G41 Try.f41 l41 a41 r41 x = Q41 .leaf .any x := by kernel_rfl
def M41 (x : (a41).den) : Option (r41).den := Q41 (fun r => r) (fun _ _ => none) x
theorem m41 (x : (a41).den) : (runFn Try.prog E0 G41 Try.f41 l41 a41 r41 x).sure = M41 x := by rw [q41]; unfold M41 Q41; simp only [Tree.sure, sus]
def p41 (x : (a41).den) : Bool := (M41 x).isSome
def v41 (x : (a41).den) : (r41).den := (M41 x).getD (r41).dflt
def k41 : Con := ⟨a41, r41, p41, v41⟩
theorem h41 : Holds Try.prog 41 k41 := holds_of_M' (E := E0) follows_ok g41 eqTy_sound keyTy_sound at41 bd41 (by kernel_rfl) m41 fun G' hlo hF hE => LsOK_kn (by rw [lo41]; exact .cons (loopV_ok hE hF hlo (LsOK_kn (by rw [lo41x0]; exact .nil)) (by kernel_rfl) (by kernel_rfl) sp41x0 (fun _ => rfl) (fun _ _ => rfl) (s41x0) big) (.nil))
noncomputable def c43 : Code := Try.f43.body.getD .skip
theorem at43 : Try.prog.funcs[43]? = some Try.f43 := by kernel_rfl
theorem bd43 : Try.f43.body = some c43 := by kernel_rfl
theorem cl43 : Callable Try.prog 43 := callable_of at43 (by kernel_rfl) (by kernel_rfl)
abbrev a43 : Ty := T88
abbrev r43 : Ty := T34
noncomputable def G43 : Ctx := Ctx.of [(63, .pure k63), (64, .pure k64), (78, .pure k78), (79, .pure k79), (80, .pure k80), (88, .pure k88)]
theorem g43 : Sound Try.prog (G43) := sound_of (List.forall_mem_cons.2 ⟨⟨cl63, h63⟩, List.forall_mem_cons.2 ⟨⟨cl64, h64⟩, List.forall_mem_cons.2 ⟨⟨cl78, h78⟩, List.forall_mem_cons.2 ⟨⟨cl79, h79⟩, List.forall_mem_cons.2 ⟨⟨cl80, h80⟩, List.forall_mem_cons.2 ⟨⟨cl88, h88⟩, fun _ h => by cases h⟩⟩⟩⟩⟩⟩)
noncomputable def b43x0 : Code := loopBody ((loopsOf (c43))[0]?)
theorem lo43x0 : loopsOf (b43x0) = [] := by kernel_rfl
theorem lo43 : loopsOf (c43) = [.loop b43x0] := by kernel_rfl
noncomputable def l43 : List Loop := [.unroll 4 []]
def Q43 {α : Type} (l : Option (r43).den → α) (an : α → α → α) (x : (a43).den) : α := cl (r78).dflt (M78 (x.1, ((W (((x.1.1.n : Nat) : Int) - (1 : Int))), (x.2.1, ())))) (fun u0 => bif u0.1 then cl (r64).dflt (M64 (x.2.2.1, ((0 : Int), ((200 : Int), ())))) (fun u1 => cl (r63).dflt (M63 (x.1, u1)) (fun u2 => bif (!(decide (u2.1 = (0 : Int)))) then l (some (((0 : Int), ((0 : Int), ((0 : Int), ((0 : Int), ((0 : Int), ((0 : Int), ())))))), u2)) else cl (r80).dflt (M80 (x.1, ((W (((x.1.1.n : Nat) : Int) - (1 : Int))), (x.2.1, ())))) (fun u3 => cl (r88).dflt (M88 ((x.1.1, (x.1.2.1, (x.1.2.2.1, (x.1.2.2.2.1, (x.1.2.2.2.2.1, ((), ())))))), (u3.1, x.2.2))) (fun u4 => cl (r79).dflt (M79 (((mx (0 : Int) u4.1.1), ((mn (100 : Int) u4.1.2.1), ((mx (0 : Int) u4.1.2.2.1), ((mn (100 : Int) u4.1.2.2.2.1), ((mx (0 : Int) u4.1.2.2.2.2.1), ((mn (99999 : Int) u4.1.2.2.2.2.2.1), ())))))), ())) (fun u5 => l (some (u5.1, ((0 : Int), ())))) (l none)) (l none)) (l none)) (l none)) (l none) else cl (r63).dflt (M63 (x.1, (false, ()))) (fun u6 => bif (!(decide (u6.1 = (0 : Int)))) then l (some (((0 : Int), ((0 : Int), ((0 : Int), ((0 : Int), ((0 : Int), ((0 : Int), ())))))), u6)) else cl (r80).dflt (M80 (x.1, ((W (((x.1.1.n : Nat) : Int) - (1 : Int))), (x.2.1, ())))) (fun u7 => cl (r88).dflt (M88 ((x.1.1, (x.1.2.1, (x.1.2.2.1, (x.1.2.2.2.1, (x.1.2.2.2.2.1, ((), ())))))), (u7.1, x.2.2))) (fun u8 => cl (r79).dflt (M79 (((mx (0 : Int) u8.1.1), ((mn (100 : Int) u8.1.2.1), ((mx (0 : Int) u8.1.2.2.1), ((mn (100 : Int) u8.1.2.2.2.1), ((mx (0 : Int) u8.1.2.2.2.2.1), ((mn (99999 : Int) u8.1.2.2.2.2.2.1), ())))))), ())) (fun u9 => l (some (u9.1, ((0 : Int), ())))) (l none)) (l none)) (l none)) (l none)) (l none)
theorem q43 (x : (a43).den) : runFn Try.prog E0 G43 Try.f43 l43 a43 r43 x = Q43 .leaf .any x := by kernel_rfl
def M43 (x : (a43).den) : Option (r43).den := Q43 (fun r => r) (fun _ _ => none) x
theorem m43 (x : (a43).den) : (runFn Try.prog E0 G43 Try.f43 l43 a43 r43 x).sure = M43 x := by rw [q43]; unfold M43 Q43; simp only [Tree.sure, sus]
def p43 (x : (a43).den) : Bool := (M43 x).isSome
def v43 (x : (a43).den) : (r43).den := (M43 x).getD (r43).dflt
def k43 : Con := ⟨a43, r43, p43, v43⟩
theorem h43 : Holds Try.prog 43 k43 := holds_of_M' (E := E0) follows_ok g43 eqTy_sound keyTy_sound at43 bd43 (by kernel_rfl) m43 fun G' hlo hF hE => LsOK_kn (by rw [lo43]; exact .unr (LsOK_kn (by rw [lo43x0]; exact .nil)) (.nil))
noncomputable def c132 : Code := Try.f132.body.getD .skip
theorem at132 : Try.prog.funcs[132]? = some Try.f132 := by kernel_rfl
theorem bd132 : Try.f132.body = some c132 := by kernel_rfl
theorem cl132 : Callable Try.prog 132 := callable_of at132 (by kernel_rfl) (by kernel_rfl)
abbrev a132 : Ty := T0
abbrev r132 : Ty := T3
noncomputable def G132 : Ctx := Ctx.of []
theorem g132 : Sound Try.prog (G132) := sound_of (fun _ h => by cases h)
theorem lo132 : loopsOf (c132) = [] := by kernel_rfl
noncomputable def l132 : List Loop := []
def Q132 {α : Type} (l : Option (r132).den → α) (an : α → α → α) (x : (a132).den) : α := l (some ((!(decide (x.1 = x.1))), ()))
theorem q132 (x : (a132).den) : runFn Try.prog E0 G132 Try.f132 l132 a132 r132 x = Q132 .leaf .any x := by kernel_rfl
def M132 (x : (a132).den) : Option (r132).den := Q132 (fun r => r) (fun _ _ => none) x
theorem m132 (x : (a132).den) : (runFn Try.prog E0 G132 Try.f132 l132 a132 r132 x).sure = M132 x := by rw [q132]; unfold M132 Q132; simp only [Tree.sure, sus]
def p132 (x : (a132).den) : Bool := (M132 x).isSome
def v132 (x : (a132).den) : (r132).den := (M132 x).getD (r132).dflt
def k132 : Con := ⟨a132, r132, p132, v132⟩
theorem h132 : Holds Try.prog 132 k132 := holds_of_M' (E := E0) follows_ok g132 eqTy_sound keyTy_sound at132 bd132 (by kernel_rfl) m132 fun G' hlo hF hE => LsOK_kn (by rw [lo132]; exact .nil)
noncomputable def c114 : Code := Try.f114.body.getD .skip
theorem at114 : Try.prog.funcs[114]? = some Try.f114 := by kernel_rfl
theorem bd114 : Try.f114.body = some c114 := by kernel_rfl
theorem cl114 : Callable Try.prog 114 := callable_of at114 (by kernel_rfl) (by kernel_rfl)
abbrev a114 : Ty := T1
abbrev r114 : Ty := T0
noncomputable def G114 : Ctx := Ctx.of [(132, .pure k132)]
theorem g114 : Sound Try.prog (G114) := sound_of (List.forall_mem_cons.2 ⟨⟨cl132, h132⟩, fun _ h => by cases h⟩)
theorem lo114 : loopsOf (c114) = [] := by kernel_rfl
noncomputable def l114 : List Loop := []
def Q114 {α : Type} (l : Option (r114).den → α) (an : α → α → α) (x : (a114).den) : α := cl (r132).dflt (M132 (x.1, ())) (fun u0 => cl (r132).dflt (M132 x.2) (fun u1 => bif u0.1 then bif u1.1 then l (some ((0 : Int), ())) else l (some ((-1 : Int), ())) else bif u1.1 then l (some ((1 : Int), ())) else bif (decide (x.1 < x.2.1)) then l (some ((-1 : Int), ())) else bif (decide (x.2.1 < x.1)) then l (some ((1 : Int), ())) else l (some ((0 : Int), ()))) (l none)) (l none)
theorem q114 (x : (a114).den) : runFn Try.prog E0 G114 Try.f114 l114 a114 r114 x = Q114 .leaf .any x := by kernel_rfl
def M114 (x : (a114).den) : Option (r114).den := Q114 (fun r => r) (fun _ _ => none) x
theorem m114 (x : (a114).den) : (runFn Try.prog E0 G114 Try.f114 l114 a114 r114 x).sure = M114 x := by rw [q114]; unfold M114 Q114; simp only [Tree.sure, sus]
def p114 (x : (a114).den) : Bool := (M114 x).isSome
def v114 (x : (a114).den) : (r114).den := (M114 x).getD (r114).dflt
def k114 : Con := ⟨a114, r114, p114, v114⟩
theorem h114 : Holds Try.prog 114 k114 := holds_of_M' (E := E0) follows_ok g114 eqTy_sound keyTy_sound at114 bd114 (by kernel_rfl) m114 fun G' hlo hF hE => LsOK_kn (by rw [lo114]; exact .nil)
end Go.Dm

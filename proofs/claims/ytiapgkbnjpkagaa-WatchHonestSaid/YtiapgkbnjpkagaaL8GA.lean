/-
  Each function of the program as a Lean function, and that its calls come to what that says.
-/
import Derived.Test.YtiapgkbnjpkagaaFwD
import Derived.Test.YtiapgkbnjpkagaaProg
set_option linter.unusedVariables false
set_option linter.unusedSimpArgs false
namespace Go.Dm
open Go.RowKit Go.Proofs
noncomputable def E0 : TCtx := ⟨eqTy Try.prog, keyTy Try.prog, true⟩
abbrev tI : Ty := .int .i64
theorem follows_ok : Try.prog.follows .mixedOrders = true := by kernel_rfl
set_option maxRecDepth 100000
abbrev tII : Ty := .cons tI (.cons tI .nil)
abbrev tL : Ty := .sl (.cons tI .nil)
abbrev tL1 : Ty := .cons tI .nil
/-- isobar/watch.in -/
noncomputable def c60 : Code := Try.f60.body.getD .skip
theorem at60 : Try.prog.funcs[60]? = some Try.f60 := by kernel_rfl
theorem bd60 : Try.f60.body = some c60 := by kernel_rfl
theorem cl60 : Callable Try.prog 60 := callable_of at60 (by kernel_rfl) (by kernel_rfl)
abbrev T0 : Ty := (.cons tI .nil)
abbrev T1 : Ty := (.cons tI T0)
abbrev T2 : Ty := (.cons tI T1)
abbrev T3 : Ty := (.cons .bool .nil)
abbrev a60 : Ty := T2
abbrev r60 : Ty := T3
noncomputable def G60 : Ctx := Ctx.of []
theorem g60 : Sound Try.prog (G60) := sound_of (fun _ h => by cases h)
theorem lo60 : loopsOf (c60) = [] := by kernel_rfl
noncomputable def l60 : List Loop := []
def Q60 {α : Type} (l : Option (r60).den → α) (an : α → α → α) (x : (a60).den) : α := bif (decide (x.2.1 ≤ x.1)) then l (some ((decide (x.1 ≤ x.2.2.1)), ())) else l (some (false, ()))
theorem q60 (x : (a60).den) : runFn Try.prog E0 G60 Try.f60 l60 a60 r60 x = Q60 .leaf .any x := by kernel_rfl
def M60 (x : (a60).den) : Option (r60).den := Q60 (fun r => r) (fun _ _ => none) x
theorem m60 (x : (a60).den) : (runFn Try.prog E0 G60 Try.f60 l60 a60 r60 x).sure = M60 x := by rw [q60]; unfold M60 Q60; simp only [sure_cond, Tree.sure, sure_cl, sure_onExit, sure_onRet, sure_onPanL, sure_onNext, sure_onBrk, sure_onRetO, sure_onPan, sure_onOk, sure_onGPan]
def p60 (x : (a60).den) : Bool := (M60 x).isSome
def v60 (x : (a60).den) : (r60).den := (M60 x).getD (r60).dflt
def k60 : Con := ⟨a60, r60, p60, v60⟩
theorem h60 : Holds Try.prog 60 k60 := holds_of_M' (E := E0) follows_ok g60 eqTy_sound keyTy_sound at60 bd60 (by kernel_rfl) m60 fun G' hlo hF hE => LsOK_kn (by rw [lo60]; exact .nil)
/-- isobar/watch.defined -/
noncomputable def c59 : Code := Try.f59.body.getD .skip
theorem at59 : Try.prog.funcs[59]? = some Try.f59 := by kernel_rfl
theorem bd59 : Try.f59.body = some c59 := by kernel_rfl
theorem cl59 : Callable Try.prog 59 := callable_of at59 (by kernel_rfl) (by kernel_rfl)
abbrev a59 : Ty := T1
abbrev r59 : Ty := T3
noncomputable def G59 : Ctx := Ctx.of [(60, .pure k60)]
theorem g59 : Sound Try.prog (G59) := sound_of (List.forall_mem_cons.2 ⟨⟨cl60, h60⟩, fun _ h => by cases h⟩)
theorem lo59 : loopsOf (c59) = [] := by kernel_rfl
noncomputable def l59 : List Loop := []
def Q59 {α : Type} (l : Option (r59).den → α) (an : α → α → α) (x : (a59).den) : α := cl (r60).dflt (M60 (x.1, ((2 : Int), ((10 : Int), ())))) (fun u0 => bif u0.1 then cl (r60).dflt (M60 (x.2.1, ((0 : Int), ((18 : Int), ())))) (fun u1 => l (some u1)) (l none) else l (some (false, ()))) (l none)
theorem q59 (x : (a59).den) : runFn Try.prog E0 G59 Try.f59 l59 a59 r59 x = Q59 .leaf .any x := by kernel_rfl
def M59 (x : (a59).den) : Option (r59).den := Q59 (fun r => r) (fun _ _ => none) x
theorem m59 (x : (a59).den) : (runFn Try.prog E0 G59 Try.f59 l59 a59 r59 x).sure = M59 x := by rw [q59]; unfold M59 Q59; simp only [sure_cond, Tree.sure, sure_cl, sure_onExit, sure_onRet, sure_onPanL, sure_onNext, sure_onBrk, sure_onRetO, sure_onPan, sure_onOk, sure_onGPan]
def p59 (x : (a59).den) : Bool := (M59 x).isSome
def v59 (x : (a59).den) : (r59).den := (M59 x).getD (r59).dflt
def k59 : Con := ⟨a59, r59, p59, v59⟩
theorem h59 : Holds Try.prog 59 k59 := holds_of_M' (E := E0) follows_ok g59 eqTy_sound keyTy_sound at59 bd59 (by kernel_rfl) m59 fun G' hlo hF hE => LsOK_kn (by rw [lo59]; exact .nil)
/-- isobar/watch.product -/
noncomputable def c91 : Code := Try.f91.body.getD .skip
theorem at91 : Try.prog.funcs[91]? = some Try.f91 := by kernel_rfl
theorem bd91 : Try.f91.body = some c91 := by kernel_rfl
theorem cl91 : Callable Try.prog 91 := callable_of at91 (by kernel_rfl) (by kernel_rfl)
abbrev T4 : Ty := (.cons (.sl T0) .nil)
abbrev a91 : Ty := T4
abbrev r91 : Ty := T0
noncomputable def G91 : Ctx := Ctx.of []
theorem g91 : Sound Try.prog (G91) := sound_of (fun _ h => by cases h)
noncomputable def b91x0 : Code := loopBody ((loopsOf (c91))[0]?)
theorem lo91x0 : loopsOf (b91x0) = [] := by kernel_rfl
abbrev cs91x0 : List Pat := [.slot 6 (.pc (.sl T0)), .slot 7 (.pc tI)]
abbrev vs91x0 : List Pat := [.slot 3 (.pc tI), .slot 8 (.pc tI)]
abbrev ps91x0 : List Pat := [.slot 6 (.pc (.sl T0)), .slot 7 (.pc tI), .slot 3 (.pc tI), .slot 8 (.pc tI)]
def j91x0 : (patsTy cs91x0).den → (patsTy vs91x0).den → (patsTy ps91x0).den := fun c v => (c.1, (c.2.1, v))
def sp91x0 : (patsTy ps91x0).den → (patsTy cs91x0).den × (patsTy vs91x0).den := fun x => ((x.1, (x.2.1, ())), x.2.2)
abbrev wy91x0 : Ways := ⟨[(0, [.slot 3 (.pc tI)])], [], []⟩
abbrev wv91x0 : Ways := ⟨[(0, [.slot 3 (.pc tI)])], [], []⟩
def je91x0 : (id : Nat) → (patsTy cs91x0).den → (patsTy (wayP wv91x0 id)).den → (patsTy (wayP wy91x0 id)).den := fun id => match id with | 0 => fun c y => y | id => fun _ _ => (patsTy (wayP wy91x0 id)).dflt
def jr91x0 : (patsTy cs91x0).den → (patsTy (wv91x0).ret).den → (patsTy (wy91x0).ret).den := fun c y => y
def jp91x0 : (patsTy cs91x0).den → (patsTy (wv91x0).pan).den → (patsTy (wy91x0).pan).den := fun c y => y
def Z91x0 {α : Type} (l : RQ vs91x0 wv91x0 → α) (an : α → α → α) (c : (patsTy cs91x0).den) (v : (patsTy vs91x0).den) : α := bif (decide (v.2.1 < c.2.1)) then bif (decide (((0 : Int) ≤ v.2.1) ∧ (v.2.1 < ((c.1.n : Nat) : Int)))) then l (.next ((W (v.1 * (c.1.g (Int.toNat v.2.1)).1)), ((W (v.2.1 + (1 : Int))), ()))) else l .bad else l (.out (.exit 0 (v.1, ())))
theorem z91x0 (c : (patsTy cs91x0).den) (v : (patsTy vs91x0).den) : roundQ Try.prog E0 G91 0 17 [] ps91x0 wy91x0 b91x0 [] (j91x0 c v) = Z91x0 (fun r => .leaf (r.lift j91x0 je91x0 jr91x0 jp91x0 c)) .any c v := by kernel_rfl
def S91x0 (c : (patsTy cs91x0).den) (v : (patsTy vs91x0).den) : RQ vs91x0 wv91x0 := Z91x0 (fun r => r) (fun _ _ => .bad) c v
theorem s91x0 (c : (patsTy cs91x0).den) (v : (patsTy vs91x0).den) : detQ (roundQ Try.prog E0 G91 0 17 [] ps91x0 wy91x0 b91x0 [] (j91x0 c v)) = (S91x0 c v).lift j91x0 je91x0 jr91x0 jp91x0 c := by rw [z91x0]; unfold S91x0 Z91x0; simp only [detQ_cond, lift_cond, lift_bad, detQ, detQ_cl, detQ_onExit, detQ_onRet, detQ_onPanL, detQ_onNext, detQ_onBrk, detQ_onRetO, detQ_onPan, detQ_onOk, detQ_onGPan, lift_cl, lift_onExit, lift_onRet, lift_onPanL, lift_onNext, lift_onBrk, lift_onRetO, lift_onPan, lift_onOk, lift_onGPan]
def L91x0 (c : (patsTy cs91x0).den) (v : (patsTy vs91x0).den) : LQ wv91x0 := iterQ (S91x0 c) big v
theorem lo91 : loopsOf (c91) = [.loop b91x0] := by kernel_rfl
noncomputable def l91 : List Loop := [.known (loopZ 0 [] ps91x0 fun x => spreadV wy91x0 je91x0 jr91x0 jp91x0 [] false (sp91x0 x).1 (L91x0 (sp91x0 x).1 (sp91x0 x).2) wy91x0.exits)]
def Q91 {α : Type} (l : Option (r91).den → α) (an : α → α → α) (x : (a91).den) : α := onExit (L91x0 (x.1, (((x.1.n : Nat) : Int), ())) ((1 : Int), ((0 : Int), ()))) 0 (fun u0 => l (some u0)) (l none)
theorem q91 (x : (a91).den) : runFn Try.prog E0 G91 Try.f91 l91 a91 r91 x = Q91 .leaf .any x := by kernel_rfl
def M91 (x : (a91).den) : Option (r91).den := Q91 (fun r => r) (fun _ _ => none) x
theorem m91 (x : (a91).den) : (runFn Try.prog E0 G91 Try.f91 l91 a91 r91 x).sure = M91 x := by rw [q91]; unfold M91 Q91; simp only [sure_cond, Tree.sure, sure_cl, sure_onExit, sure_onRet, sure_onPanL, sure_onNext, sure_onBrk, sure_onRetO, sure_onPan, sure_onOk, sure_onGPan]
def p91 (x : (a91).den) : Bool := (M91 x).isSome
def v91 (x : (a91).den) : (r91).den := (M91 x).getD (r91).dflt
def k91 : Con := ⟨a91, r91, p91, v91⟩
theorem h91 : Holds Try.prog 91 k91 := holds_of_M' (E := E0) follows_ok g91 eqTy_sound keyTy_sound at91 bd91 (by kernel_rfl) m91 fun G' hlo hF hE => LsOK_kn (by rw [lo91]; exact .cons (loopV_ok hE hF hlo (LsOK_kn (by rw [lo91x0]; exact .nil)) (by kernel_rfl) (by kernel_rfl) sp91x0 (fun _ => rfl) (fun _ _ => rfl) (s91x0) big) (.nil))
/-- isobar/watch.choose -/
noncomputable def c92 : Code := Try.f92.body.getD .skip
theorem at92 : Try.prog.funcs[92]? = some Try.f92 := by kernel_rfl
theorem bd92 : Try.f92.body = some c92 := by kernel_rfl
theorem cl92 : Callable Try.prog 92 := callable_of at92 (by kernel_rfl) (by kernel_rfl)
abbrev a92 : Ty := T1
abbrev r92 : Ty := T0
noncomputable def G92 : Ctx := Ctx.of []
theorem g92 : Sound Try.prog (G92) := sound_of (fun _ h => by cases h)
noncomputable def b92x0 : Code := loopBody ((loopsOf (c92))[0]?)
theorem lo92x0 : loopsOf (b92x0) = [] := by kernel_rfl
abbrev cs92x0 : List Pat := [.slot 0 (.pc tI), .slot 7 (.pc tI)]
abbrev vs92x0 : List Pat := [.slot 5 (.pc tI), .slot 8 (.pc tI)]
abbrev ps92x0 : List Pat := [.slot 0 (.pc tI), .slot 7 (.pc tI), .slot 5 (.pc tI), .slot 8 (.pc tI)]
def j92x0 : (patsTy cs92x0).den → (patsTy vs92x0).den → (patsTy ps92x0).den := fun c v => (c.1, (c.2.1, v))
def sp92x0 : (patsTy ps92x0).den → (patsTy cs92x0).den × (patsTy vs92x0).den := fun x => ((x.1, (x.2.1, ())), x.2.2)
abbrev wy92x0 : Ways := ⟨[(0, [.slot 5 (.pc tI)])], [], []⟩
abbrev wv92x0 : Ways := ⟨[(0, [.slot 5 (.pc tI)])], [], []⟩
def je92x0 : (id : Nat) → (patsTy cs92x0).den → (patsTy (wayP wv92x0 id)).den → (patsTy (wayP wy92x0 id)).den := fun id => match id with | 0 => fun c y => y | id => fun _ _ => (patsTy (wayP wy92x0 id)).dflt
def jr92x0 : (patsTy cs92x0).den → (patsTy (wv92x0).ret).den → (patsTy (wy92x0).ret).den := fun c y => y
def jp92x0 : (patsTy cs92x0).den → (patsTy (wv92x0).pan).den → (patsTy (wy92x0).pan).den := fun c y => y
def Z92x0 {α : Type} (l : RQ vs92x0 wv92x0 → α) (an : α → α → α) (c : (patsTy cs92x0).den) (v : (patsTy vs92x0).den) : α := bif (decide (v.2.1 < c.2.1)) then bif (decide ((W (v.2.1 + (1 : Int))) = (0 : Int))) then l .bad else l (.next ((W (Int.tdiv (W (v.1 * (W (c.1 - v.2.1)))) (W (v.2.1 + (1 : Int))))), ((W (v.2.1 + (1 : Int))), ()))) else l (.out (.exit 0 (v.1, ())))
theorem z92x0 (c : (patsTy cs92x0).den) (v : (patsTy vs92x0).den) : roundQ Try.prog E0 G92 0 21 [] ps92x0 wy92x0 b92x0 [] (j92x0 c v) = Z92x0 (fun r => .leaf (r.lift j92x0 je92x0 jr92x0 jp92x0 c)) .any c v := by kernel_rfl
def S92x0 (c : (patsTy cs92x0).den) (v : (patsTy vs92x0).den) : RQ vs92x0 wv92x0 := Z92x0 (fun r => r) (fun _ _ => .bad) c v
theorem s92x0 (c : (patsTy cs92x0).den) (v : (patsTy vs92x0).den) : detQ (roundQ Try.prog E0 G92 0 21 [] ps92x0 wy92x0 b92x0 [] (j92x0 c v)) = (S92x0 c v).lift j92x0 je92x0 jr92x0 jp92x0 c := by rw [z92x0]; unfold S92x0 Z92x0; simp only [detQ_cond, lift_cond, lift_bad, detQ, detQ_cl, detQ_onExit, detQ_onRet, detQ_onPanL, detQ_onNext, detQ_onBrk, detQ_onRetO, detQ_onPan, detQ_onOk, detQ_onGPan, lift_cl, lift_onExit, lift_onRet, lift_onPanL, lift_onNext, lift_onBrk, lift_onRetO, lift_onPan, lift_onOk, lift_onGPan]
def L92x0 (c : (patsTy cs92x0).den) (v : (patsTy vs92x0).den) : LQ wv92x0 := iterQ (S92x0 c) big v
theorem lo92 : loopsOf (c92) = [.loop b92x0] := by kernel_rfl
noncomputable def l92 : List Loop := [.known (loopZ 0 [] ps92x0 fun x => spreadV wy92x0 je92x0 jr92x0 jp92x0 [] false (sp92x0 x).1 (L92x0 (sp92x0 x).1 (sp92x0 x).2) wy92x0.exits)]
def Q92 {α : Type} (l : Option (r92).den → α) (an : α → α → α) (x : (a92).den) : α := onExit (L92x0 x ((1 : Int), ((0 : Int), ()))) 0 (fun u0 => l (some u0)) (l none)
theorem q92 (x : (a92).den) : runFn Try.prog E0 G92 Try.f92 l92 a92 r92 x = Q92 .leaf .any x := by kernel_rfl
def M92 (x : (a92).den) : Option (r92).den := Q92 (fun r => r) (fun _ _ => none) x
theorem m92 (x : (a92).den) : (runFn Try.prog E0 G92 Try.f92 l92 a92 r92 x).sure = M92 x := by rw [q92]; unfold M92 Q92; simp only [sure_cond, Tree.sure, sure_cl, sure_onExit, sure_onRet, sure_onPanL, sure_onNext, sure_onBrk, sure_onRetO, sure_onPan, sure_onOk, sure_onGPan]
def p92 (x : (a92).den) : Bool := (M92 x).isSome
def v92 (x : (a92).den) : (r92).den := (M92 x).getD (r92).dflt
def k92 : Con := ⟨a92, r92, p92, v92⟩
theorem h92 : Holds Try.prog 92 k92 := holds_of_M' (E := E0) follows_ok g92 eqTy_sound keyTy_sound at92 bd92 (by kernel_rfl) m92 fun G' hlo hF hE => LsOK_kn (by rw [lo92]; exact .cons (loopV_ok hE hF hlo (LsOK_kn (by rw [lo92x0]; exact .nil)) (by kernel_rfl) (by kernel_rfl) sp92x0 (fun _ => rfl) (fun _ _ => rfl) (s92x0) big) (.nil))
/-- isobar/watch.power -/
noncomputable def c93 : Code := Try.f93.body.getD .skip
theorem at93 : Try.prog.funcs[93]? = some Try.f93 := by kernel_rfl
theorem bd93 : Try.f93.body = some c93 := by kernel_rfl
theorem cl93 : Callable Try.prog 93 := callable_of at93 (by kernel_rfl) (by kernel_rfl)
abbrev a93 : Ty := T1
abbrev r93 : Ty := T0
noncomputable def G93 : Ctx := Ctx.of [(91, .pure k91)]
theorem g93 : Sound Try.prog (G93) := sound_of (List.forall_mem_cons.2 ⟨⟨cl91, h91⟩, fun _ h => by cases h⟩)
noncomputable def b93x0 : Code := loopBody ((loopsOf (c93))[0]?)
theorem lo93x0 : loopsOf (b93x0) = [] := by kernel_rfl
abbrev cs93x0 : List Pat := [.slot 0 (.pc tI), .slot 6 (.pc tI)]
abbrev vs93x0 : List Pat := [.slot 5 (.pc tI), .slot 7 (.pc tI)]
abbrev ps93x0 : List Pat := [.slot 0 (.pc tI), .slot 6 (.pc tI), .slot 5 (.pc tI), .slot 7 (.pc tI)]
def j93x0 : (patsTy cs93x0).den → (patsTy vs93x0).den → (patsTy ps93x0).den := fun c v => (c.1, (c.2.1, v))
def sp93x0 : (patsTy ps93x0).den → (patsTy cs93x0).den × (patsTy vs93x0).den := fun x => ((x.1, (x.2.1, ())), x.2.2)
abbrev wy93x0 : Ways := ⟨[(0, [.slot 5 (.pc tI)])], [], []⟩
abbrev wv93x0 : Ways := ⟨[(0, [.slot 5 (.pc tI)])], [], []⟩
def je93x0 : (id : Nat) → (patsTy cs93x0).den → (patsTy (wayP wv93x0 id)).den → (patsTy (wayP wy93x0 id)).den := fun id => match id with | 0 => fun c y => y | id => fun _ _ => (patsTy (wayP wy93x0 id)).dflt
def jr93x0 : (patsTy cs93x0).den → (patsTy (wv93x0).ret).den → (patsTy (wy93x0).ret).den := fun c y => y
def jp93x0 : (patsTy cs93x0).den → (patsTy (wv93x0).pan).den → (patsTy (wy93x0).pan).den := fun c y => y
def Z93x0 {α : Type} (l : RQ vs93x0 wv93x0 → α) (an : α → α → α) (c : (patsTy cs93x0).den) (v : (patsTy vs93x0).den) : α := bif (decide (v.2.1 < c.2.1)) then cl (r91).dflt (M91 ((⟨2, fun i => List.getD [(v.1, ()), (c.1, ())] i (v.1, ())⟩ : Sl _), ())) (fun u0 => l (.next (u0.1, ((W (v.2.1 + (1 : Int))), ())))) (l .bad) else l (.out (.exit 0 (v.1, ())))
theorem z93x0 (c : (patsTy cs93x0).den) (v : (patsTy vs93x0).den) : roundQ Try.prog E0 G93 0 15 [] ps93x0 wy93x0 b93x0 [] (j93x0 c v) = Z93x0 (fun r => .leaf (r.lift j93x0 je93x0 jr93x0 jp93x0 c)) .any c v := by kernel_rfl
def S93x0 (c : (patsTy cs93x0).den) (v : (patsTy vs93x0).den) : RQ vs93x0 wv93x0 := Z93x0 (fun r => r) (fun _ _ => .bad) c v
theorem s93x0 (c : (patsTy cs93x0).den) (v : (patsTy vs93x0).den) : detQ (roundQ Try.prog E0 G93 0 15 [] ps93x0 wy93x0 b93x0 [] (j93x0 c v)) = (S93x0 c v).lift j93x0 je93x0 jr93x0 jp93x0 c := by rw [z93x0]; unfold S93x0 Z93x0; simp only [detQ_cond, lift_cond, lift_bad, detQ, detQ_cl, detQ_onExit, detQ_onRet, detQ_onPanL, detQ_onNext, detQ_onBrk, detQ_onRetO, detQ_onPan, detQ_onOk, detQ_onGPan, lift_cl, lift_onExit, lift_onRet, lift_onPanL, lift_onNext, lift_onBrk, lift_onRetO, lift_onPan, lift_onOk, lift_onGPan]
def L93x0 (c : (patsTy cs93x0).den) (v : (patsTy vs93x0).den) : LQ wv93x0 := iterQ (S93x0 c) big v
theorem lo93 : loopsOf (c93) = [.loop b93x0] := by kernel_rfl
noncomputable def l93 : List Loop := [.known (loopZ 0 [] ps93x0 fun x => spreadV wy93x0 je93x0 jr93x0 jp93x0 [] false (sp93x0 x).1 (L93x0 (sp93x0 x).1 (sp93x0 x).2) wy93x0.exits)]
def Q93 {α : Type} (l : Option (r93).den → α) (an : α → α → α) (x : (a93).den) : α := onExit (L93x0 x ((1 : Int), ((0 : Int), ()))) 0 (fun u1 => l (some u1)) (l none)
theorem q93 (x : (a93).den) : runFn Try.prog E0 G93 Try.f93 l93 a93 r93 x = Q93 .leaf .any x := by kernel_rfl
def M93 (x : (a93).den) : Option (r93).den := Q93 (fun r => r) (fun _ _ => none) x
theorem m93 (x : (a93).den) : (runFn Try.prog E0 G93 Try.f93 l93 a93 r93 x).sure = M93 x := by rw [q93]; unfold M93 Q93; simp only [sure_cond, Tree.sure, sure_cl, sure_onExit, sure_onRet, sure_onPanL, sure_onNext, sure_onBrk, sure_onRetO, sure_onPan, sure_onOk, sure_onGPan]
def p93 (x : (a93).den) : Bool := (M93 x).isSome
def v93 (x : (a93).den) : (r93).den := (M93 x).getD (r93).dflt
def k93 : Con := ⟨a93, r93, p93, v93⟩
theorem h93 : Holds Try.prog 93 k93 := holds_of_M' (E := E0) follows_ok g93 eqTy_sound keyTy_sound at93 bd93 (by kernel_rfl) m93 fun G' hlo hF hE => LsOK_kn (by rw [lo93]; exact .cons (loopV_ok hE hF hlo (LsOK_kn (by rw [lo93x0]; exact .nil)) (by kernel_rfl) (by kernel_rfl) sp93x0 (fun _ => rfl) (fun _ _ => rfl) (s93x0) big) (.nil))
/-- (isobar/watch.lists).agreeing -/
noncomputable def c61 : Code := Try.f61.body.getD .skip
theorem at61 : Try.prog.funcs[61]? = some Try.f61 := by kernel_rfl
theorem bd61 : Try.f61.body = some c61 := by kernel_rfl
theorem cl61 : Callable Try.prog 61 := callable_of at61 (by kernel_rfl) (by kernel_rfl)
abbrev T5 : Ty := (.agg T1)
abbrev T6 : Ty := (.cons T5 T0)
abbrev a61 : Ty := T6
abbrev r61 : Ty := T0
noncomputable def G61 : Ctx := Ctx.of [(91, .pure k91), (92, .pure k92), (93, .pure k93)]
theorem g61 : Sound Try.prog (G61) := sound_of (List.forall_mem_cons.2 ⟨⟨cl91, h91⟩, List.forall_mem_cons.2 ⟨⟨cl92, h92⟩, List.forall_mem_cons.2 ⟨⟨cl93, h93⟩, fun _ h => by cases h⟩⟩⟩)
noncomputable def b61x0 : Code := loopBody ((loopsOf (c61))[0]?)
theorem lo61x0 : loopsOf (b61x0) = [] := by kernel_rfl
abbrev cs61x0 : List Pat := [.slot 2 (.ptr 2), .box 2 [.pc tI, .pc tI]]
abbrev vs61x0 : List Pat := [.slot 5 (.pc tI), .slot 6 (.pc tI)]
abbrev ps61x0 : List Pat := [.slot 2 (.ptr 2), .box 2 [.pc tI, .pc tI], .slot 5 (.pc tI), .slot 6 (.pc tI)]
def j61x0 : (patsTy cs61x0).den → (patsTy vs61x0).den → (patsTy ps61x0).den := fun c v => (c.1, (c.2.1, v))
def sp61x0 : (patsTy ps61x0).den → (patsTy cs61x0).den × (patsTy vs61x0).den := fun x => ((x.1, (x.2.1, ())), x.2.2)
abbrev wy61x0 : Ways := ⟨[(0, [.slot 5 (.pc tI)])], [], []⟩
abbrev wv61x0 : Ways := ⟨[(0, [.slot 5 (.pc tI)])], [], []⟩
def je61x0 : (id : Nat) → (patsTy cs61x0).den → (patsTy (wayP wv61x0 id)).den → (patsTy (wayP wy61x0 id)).den := fun id => match id with | 0 => fun c y => y | id => fun _ _ => (patsTy (wayP wy61x0 id)).dflt
def jr61x0 : (patsTy cs61x0).den → (patsTy (wv61x0).ret).den → (patsTy (wy61x0).ret).den := fun c y => y
def jp61x0 : (patsTy cs61x0).den → (patsTy (wv61x0).pan).den → (patsTy (wy61x0).pan).den := fun c y => y
def Z61x0 {α : Type} (l : RQ vs61x0 wv61x0 → α) (an : α → α → α) (c : (patsTy cs61x0).den) (v : (patsTy vs61x0).den) : α := bif (decide (v.2.1 ≤ c.2.1.2.1)) then cl (r92).dflt (M92 (c.2.1.2.1, v.2)) (fun u0 => cl (r93).dflt (M93 ((W (c.2.1.1 - (1 : Int))), ((W (c.2.1.2.1 - v.2.1)), ()))) (fun u1 => cl (r91).dflt (M91 ((⟨2, fun i => List.getD [u0, u1] i u0⟩ : Sl _), ())) (fun u2 => l (.next ((W (v.1 + u2.1)), ((W (v.2.1 + (1 : Int))), ())))) (l .bad)) (l .bad)) (l .bad) else l (.out (.exit 0 (v.1, ())))
theorem z61x0 (c : (patsTy cs61x0).den) (v : (patsTy vs61x0).den) : roundQ Try.prog E0 G61 0 31 [] ps61x0 wy61x0 b61x0 [] (j61x0 c v) = Z61x0 (fun r => .leaf (r.lift j61x0 je61x0 jr61x0 jp61x0 c)) .any c v := by kernel_rfl
def S61x0 (c : (patsTy cs61x0).den) (v : (patsTy vs61x0).den) : RQ vs61x0 wv61x0 := Z61x0 (fun r => r) (fun _ _ => .bad) c v
theorem s61x0 (c : (patsTy cs61x0).den) (v : (patsTy vs61x0).den) : detQ (roundQ Try.prog E0 G61 0 31 [] ps61x0 wy61x0 b61x0 [] (j61x0 c v)) = (S61x0 c v).lift j61x0 je61x0 jr61x0 jp61x0 c := by rw [z61x0]; unfold S61x0 Z61x0; simp only [detQ_cond, lift_cond, lift_bad, detQ, detQ_cl, detQ_onExit, detQ_onRet, detQ_onPanL, detQ_onNext, detQ_onBrk, detQ_onRetO, detQ_onPan, detQ_onOk, detQ_onGPan, lift_cl, lift_onExit, lift_onRet, lift_onPanL, lift_onNext, lift_onBrk, lift_onRetO, lift_onPan, lift_onOk, lift_onGPan]
def L61x0 (c : (patsTy cs61x0).den) (v : (patsTy vs61x0).den) : LQ wv61x0 := iterQ (S61x0 c) big v
theorem lo61 : loopsOf (c61) = [.loop b61x0] := by kernel_rfl
noncomputable def l61 : List Loop := [.known (loopZ 0 [] ps61x0 fun x => spreadV wy61x0 je61x0 jr61x0 jp61x0 [] false (sp61x0 x).1 (L61x0 (sp61x0 x).1 (sp61x0 x).2) wy61x0.exits)]
def Q61 {α : Type} (l : Option (r61).den → α) (an : α → α → α) (x : (a61).den) : α := onExit (L61x0 ((), (x.1, ())) ((0 : Int), x.2)) 0 (fun u3 => l (some u3)) (l none)
theorem q61 (x : (a61).den) : runFn Try.prog E0 G61 Try.f61 l61 a61 r61 x = Q61 .leaf .any x := by kernel_rfl
def M61 (x : (a61).den) : Option (r61).den := Q61 (fun r => r) (fun _ _ => none) x
theorem m61 (x : (a61).den) : (runFn Try.prog E0 G61 Try.f61 l61 a61 r61 x).sure = M61 x := by rw [q61]; unfold M61 Q61; simp only [sure_cond, Tree.sure, sure_cl, sure_onExit, sure_onRet, sure_onPanL, sure_onNext, sure_onBrk, sure_onRetO, sure_onPan, sure_onOk, sure_onGPan]
def p61 (x : (a61).den) : Bool := (M61 x).isSome
def v61 (x : (a61).den) : (r61).den := (M61 x).getD (r61).dflt
def k61 : Con := ⟨a61, r61, p61, v61⟩
theorem h61 : Holds Try.prog 61 k61 := holds_of_M' (E := E0) follows_ok g61 eqTy_sound keyTy_sound at61 bd61 (by kernel_rfl) m61 fun G' hlo hF hE => LsOK_kn (by rw [lo61]; exact .cons (loopV_ok hE hF hlo (LsOK_kn (by rw [lo61x0]; exact .nil)) (by kernel_rfl) (by kernel_rfl) sp61x0 (fun _ => rfl) (fun _ _ => rfl) (s61x0) big) (.nil))
/-- isobar/watch.Chance -/
noncomputable def c17 : Code := Try.f17.body.getD .skip
theorem at17 : Try.prog.funcs[17]? = some Try.f17 := by kernel_rfl
theorem bd17 : Try.f17.body = some c17 := by kernel_rfl
theorem cl17 : Callable Try.prog 17 := callable_of at17 (by kernel_rfl) (by kernel_rfl)
abbrev a17 : Ty := T2
abbrev r17 : Ty := T1
noncomputable def G17 : Ctx := Ctx.of [(59, .pure k59), (60, .pure k60), (61, .pure k61)]
theorem g17 : Sound Try.prog (G17) := sound_of (List.forall_mem_cons.2 ⟨⟨cl59, h59⟩, List.forall_mem_cons.2 ⟨⟨cl60, h60⟩, List.forall_mem_cons.2 ⟨⟨cl61, h61⟩, fun _ h => by cases h⟩⟩⟩)
theorem lo17 : loopsOf (c17) = [] := by kernel_rfl
noncomputable def l17 : List Loop := []
def Q17 {α : Type} (l : Option (r17).den → α) (an : α → α → α) (x : (a17).den) : α := cl (r59).dflt (M59 (x.1, (x.2.1, ()))) (fun u0 => bif (!u0.1) then l (some ((0 : Int), ((2 : Int), ()))) else cl (r60).dflt (M60 (x.2.2.1, ((0 : Int), ((19 : Int), ())))) (fun u1 => bif (!u1.1) then l (some ((0 : Int), ((2 : Int), ()))) else cl (r61).dflt (M61 ((x.1, (x.2.1, ())), x.2.2)) (fun u2 => l (some (u2.1, ((0 : Int), ())))) (l none)) (l none)) (l none)
theorem q17 (x : (a17).den) : runFn Try.prog E0 G17 Try.f17 l17 a17 r17 x = Q17 .leaf .any x := by kernel_rfl
def M17 (x : (a17).den) : Option (r17).den := Q17 (fun r => r) (fun _ _ => none) x
theorem m17 (x : (a17).den) : (runFn Try.prog E0 G17 Try.f17 l17 a17 r17 x).sure = M17 x := by rw [q17]; unfold M17 Q17; simp only [sure_cond, Tree.sure, sure_cl, sure_onExit, sure_onRet, sure_onPanL, sure_onNext, sure_onBrk, sure_onRetO, sure_onPan, sure_onOk, sure_onGPan]
def p17 (x : (a17).den) : Bool := (M17 x).isSome
def v17 (x : (a17).den) : (r17).den := (M17 x).getD (r17).dflt
def k17 : Con := ⟨a17, r17, p17, v17⟩
theorem h17 : Holds Try.prog 17 k17 := holds_of_M' (E := E0) follows_ok g17 eqTy_sound keyTy_sound at17 bd17 (by kernel_rfl) m17 fun G' hlo hF hE => LsOK_kn (by rw [lo17]; exact .nil)
/-- (isobar/watch.lists).favouring$1 -/
noncomputable def c94 : Code := Try.f94.body.getD .skip
theorem at94 : Try.prog.funcs[94]? = some Try.f94 := by kernel_rfl
theorem bd94 : Try.f94.body = some c94 := by kernel_rfl
theorem cl94 : Callable Try.prog 94 := callable_of at94 (by kernel_rfl) (by kernel_rfl)
abbrev r94 : Ty := T0
abbrev ps94 : List Pat := [.agg 0 tII, .slot 1 (.ptr 26), .slot 2 (.ptr 3), .slot 3 (.ptr 48), .box 26 [.mp 29], .box 3 [.pc tI], .box 48 [.clo 94 [26, 3, 48]], .mp 29 (.agg tII) tI]
abbrev pans94 : List (Nat × Ty) := []
noncomputable def G94 : ((patsTy ps94).den → GO r94 (objPats ps94)) → Ctx := fun R94 => Ctx.of [(91, .pure k91), (92, .pure k92), (94, .gen (gappD Try.f94.ntmps r94 ps94 pans94 R94))]
theorem g94 (R94 : (patsTy ps94).den → GO r94 (objPats ps94)) (hR : GHolds Try.prog 94 (gappD Try.f94.ntmps r94 ps94 pans94 R94)) : Sound Try.prog (G94 R94) := sound_of (List.forall_mem_cons.2 ⟨⟨cl91, h91⟩, List.forall_mem_cons.2 ⟨⟨cl92, h92⟩, List.forall_mem_cons.2 ⟨⟨cl94, hR⟩, fun _ h => by cases h⟩⟩⟩)
noncomputable def b94x0 : Code := loopBody ((loopsOf (c94))[0]?)
theorem lo94x0 : loopsOf (b94x0) = [] := by kernel_rfl
abbrev cs94x0 : List Pat := [.slot 1 (.ptr 26), .slot 2 (.ptr 3), .slot 3 (.ptr 48), .slot 4 (.ptr 204), .box 204 [.pc tI, .pc tI]]
abbrev vs94x0 : List Pat := [.slot 8 (.pc tI), .slot 9 (.pc tI), .box 26 [.mp 29], .box 3 [.pc tI], .box 48 [.clo 94 [26, 3, 48]], .mp 29 T5 tI]
abbrev ps94x0 : List Pat := [.slot 1 (.ptr 26), .slot 2 (.ptr 3), .slot 3 (.ptr 48), .slot 4 (.ptr 204), .box 204 [.pc tI, .pc tI], .slot 8 (.pc tI), .slot 9 (.pc tI), .box 26 [.mp 29], .box 3 [.pc tI], .box 48 [.clo 94 [26, 3, 48]], .mp 29 T5 tI]
def j94x0 : (patsTy cs94x0).den → (patsTy vs94x0).den → (patsTy ps94x0).den := fun c v => (c.1, (c.2.1, (c.2.2.1, (c.2.2.2.1, (c.2.2.2.2.1, v)))))
def sp94x0 : (patsTy ps94x0).den → (patsTy cs94x0).den × (patsTy vs94x0).den := fun x => ((x.1, (x.2.1, (x.2.2.1, (x.2.2.2.1, (x.2.2.2.2.1, ()))))), x.2.2.2.2.2)
abbrev wy94x0 : Ways := ⟨[(0, [.slot 1 (.ptr 26), .slot 2 (.ptr 3), .slot 3 (.ptr 48), .slot 4 (.ptr 204), .box 204 [.pc tI, .pc tI], .slot 8 (.pc tI), .box 26 [.mp 29], .box 3 [.pc tI], .box 48 [.clo 94 [26, 3, 48]], .mp 29 T5 tI])], [], []⟩
abbrev wv94x0 : Ways := ⟨[(0, [.slot 8 (.pc tI), .box 26 [.mp 29], .box 3 [.pc tI], .box 48 [.clo 94 [26, 3, 48]], .mp 29 T5 tI])], [], []⟩
def je94x0 : (id : Nat) → (patsTy cs94x0).den → (patsTy (wayP wv94x0 id)).den → (patsTy (wayP wy94x0 id)).den := fun id => match id with | 0 => fun c y => (c.1, (c.2.1, (c.2.2.1, (c.2.2.2.1, (c.2.2.2.2.1, y))))) | id => fun _ _ => (patsTy (wayP wy94x0 id)).dflt
def jr94x0 : (patsTy cs94x0).den → (patsTy (wv94x0).ret).den → (patsTy (wy94x0).ret).den := fun c y => y
def jp94x0 : (patsTy cs94x0).den → (patsTy (wv94x0).pan).den → (patsTy (wy94x0).pan).den := fun c y => y
def Z94x0 (R94 : (patsTy ps94).den → GO r94 (objPats ps94)) {α : Type} (l : RQ vs94x0 wv94x0 → α) (an : α → α → α) (c : (patsTy cs94x0).den) (v : (patsTy vs94x0).den) : α := bif (decide (v.2.1 < v.2.2.2.1.1)) then bif (decide (v.2.1 ≤ c.2.2.2.2.1.2.1)) then onOk (R94 (((W (c.2.2.2.2.1.1 - (1 : Int))), ((W (c.2.2.2.2.1.2.1 - v.2.1)), ())), ((), ((), ((), (((), ()), (v.2.2.2.1, (((), ()), v.2.2.2.2.2)))))))) (fun u0 => cl (r92).dflt (M92 (c.2.2.2.2.1.2.1, (v.2.1, ()))) (fun u1 => cl (r91).dflt (M91 ((⟨2, fun i => List.getD [u1, u0.1] i u1⟩ : Sl _), ())) (fun u2 => l (.next ((W (v.1 + u2.1)), ((W (v.2.1 + (1 : Int))), (((), ()), (u0.2.2.1, (((), ()), u0.2.2.2.2))))))) (l .bad)) (l .bad)) (l .bad) else l (.out (.exit 0 (v.1, (((), ()), (v.2.2.2.1, (((), ()), v.2.2.2.2.2)))))) else l (.out (.exit 0 (v.1, (((), ()), (v.2.2.2.1, (((), ()), v.2.2.2.2.2))))))
theorem z94x0 (R94 : (patsTy ps94).den → GO r94 (objPats ps94)) (c : (patsTy cs94x0).den) (v : (patsTy vs94x0).den) : roundQ Try.prog E0 (G94 R94) 200 59 [] ps94x0 wy94x0 b94x0 [] (j94x0 c v) = Z94x0 R94 (fun r => .leaf (r.lift j94x0 je94x0 jr94x0 jp94x0 c)) .any c v := by kernel_rfl
def S94x0 (R94 : (patsTy ps94).den → GO r94 (objPats ps94)) (c : (patsTy cs94x0).den) (v : (patsTy vs94x0).den) : RQ vs94x0 wv94x0 := Z94x0 R94 (fun r => r) (fun _ _ => .bad) c v
theorem s94x0 (R94 : (patsTy ps94).den → GO r94 (objPats ps94)) (c : (patsTy cs94x0).den) (v : (patsTy vs94x0).den) : detQ (roundQ Try.prog E0 (G94 R94) 200 59 [] ps94x0 wy94x0 b94x0 [] (j94x0 c v)) = (S94x0 R94 c v).lift j94x0 je94x0 jr94x0 jp94x0 c := by rw [z94x0]; unfold S94x0 Z94x0; simp only [detQ_cond, lift_cond, lift_bad, detQ, detQ_cl, detQ_onExit, detQ_onRet, detQ_onPanL, detQ_onNext, detQ_onBrk, detQ_onRetO, detQ_onPan, detQ_onOk, detQ_onGPan, lift_cl, lift_onExit, lift_onRet, lift_onPanL, lift_onNext, lift_onBrk, lift_onRetO, lift_onPan, lift_onOk, lift_onGPan]
def L94x0 (R94 : (patsTy ps94).den → GO r94 (objPats ps94)) (c : (patsTy cs94x0).den) (v : (patsTy vs94x0).den) : LQ wv94x0 := iterQ (S94x0 R94 c) big v
theorem lo94 : loopsOf (c94) = [.loop b94x0] := by kernel_rfl
noncomputable def l94 : ((patsTy ps94).den → GO r94 (objPats ps94)) → List Loop := fun R94 => [.known (loopZ 200 [] ps94x0 fun x => spreadV wy94x0 je94x0 jr94x0 jp94x0 [] false (sp94x0 x).1 (L94x0 R94 (sp94x0 x).1 (sp94x0 x).2) wy94x0.exits)]
def Q94 (R94 : (patsTy ps94).den → GO r94 (objPats ps94)) {α : Type} (l : GO r94 (objPats ps94) → α) (an : α → α → α) (x : (patsTy ps94).den) : α := bif (decide (x.1.1 = (0 : Int))) then bif (decide (x.1.2.1 = (0 : Int))) then l (.ok ((1 : Int), ()) (((), ()), (x.2.2.2.2.2.1, (((), ()), x.2.2.2.2.2.2.2)))) else l (.ok ((0 : Int), ()) (((), ()), (x.2.2.2.2.2.1, (((), ()), x.2.2.2.2.2.2.2)))) else cl (Ty.dflt tI) (x.2.2.2.2.2.2.2.1 x.1) (fun u3 => l (.ok (u3, ()) (((), ()), (x.2.2.2.2.2.1, (((), ()), x.2.2.2.2.2.2.2))))) (onExit (L94x0 R94 ((), ((), ((), ((), (x.1, ()))))) ((0 : Int), ((0 : Int), (((), ()), (x.2.2.2.2.2.1, (((), ()), x.2.2.2.2.2.2.2)))))) 0 (fun u4 => l (.ok (u4.1, ()) (((), ()), (u4.2.2.1, (((), ()), ((setMap (eqD T5) u4.2.2.2.2.1 x.1 u4.1), ())))))) (l .bad))
theorem q94 (R94 : (patsTy ps94).den → GO r94 (objPats ps94)) (x : (patsTy ps94).den) : runG Try.prog E0 (G94 R94) Try.f94 (l94 R94) 200 r94 ps94 x = Q94 R94 .leaf .any x := by kernel_rfl
def U94 (R94 : (patsTy ps94).den → GO r94 (objPats ps94)) (x : (patsTy ps94).den) : GO r94 (objPats ps94) := Q94 R94 (fun r => r) (fun _ _ => .bad) x
theorem m94 (R94 : (patsTy ps94).den → GO r94 (objPats ps94)) (x : (patsTy ps94).den) : (runG Try.prog E0 (G94 R94) Try.f94 (l94 R94) 200 r94 ps94 x).detB .bad = U94 R94 x := by rw [q94]; unfold U94 Q94; simp only [detB_cond, Tree.detB, detB_cl, detB_onExit, detB_onRet, detB_onPanL, detB_onNext, detB_onBrk, detB_onRetO, detB_onPan, detB_onOk, detB_onGPan]
theorem hr94 (R94 : (patsTy ps94).den → GO r94 (objPats ps94)) (hR : GHolds Try.prog 94 (gappD Try.f94.ntmps r94 ps94 pans94 R94)) : GHolds Try.prog 94 (gappD Try.f94.ntmps r94 ps94 pans94 (U94 R94)) := gappD_holds (E := E0) follows_ok (g94 R94 hR) eqTy_sound keyTy_sound at94 bd94 (by kernel_rfl) (fun G' hlo hF hE => LsOK_kn (by rw [lo94]; exact .cons (loopV_ok hE hF hlo (LsOK_kn (by rw [lo94x0]; exact .nil)) (by kernel_rfl) (by kernel_rfl) sp94x0 (fun _ => rfl) (fun _ _ => rfl) (s94x0 R94) big) (.nil))) pans94 (m94 R94)
def F94 : Nat → (patsTy ps94).den → GO r94 (objPats ps94)
  | 0 => fun _ => .bad
  | n + 1 => U94 (F94 n)
theorem h94 : ∀ n, GHolds Try.prog 94 (gappD Try.f94.ntmps r94 ps94 pans94 (F94 n))
  | 0 => gappD_bad
  | n + 1 => hr94 _ (h94 n)
/-- (isobar/watch.lists).all -/
noncomputable def c95 : Code := Try.f95.body.getD .skip
theorem at95 : Try.prog.funcs[95]? = some Try.f95 := by kernel_rfl
theorem bd95 : Try.f95.body = some c95 := by kernel_rfl
theorem cl95 : Callable Try.prog 95 := callable_of at95 (by kernel_rfl) (by kernel_rfl)
abbrev T7 : Ty := (.cons T5 .nil)
abbrev a95 : Ty := T7
abbrev r95 : Ty := T0
noncomputable def G95 : Ctx := Ctx.of [(93, .pure k93)]
theorem g95 : Sound Try.prog (G95) := sound_of (List.forall_mem_cons.2 ⟨⟨cl93, h93⟩, fun _ h => by cases h⟩)
theorem lo95 : loopsOf (c95) = [] := by kernel_rfl
noncomputable def l95 : List Loop := []
def Q95 {α : Type} (l : Option (r95).den → α) (an : α → α → α) (x : (a95).den) : α := cl (r93).dflt (M93 x.1) (fun u0 => l (some u0)) (l none)
theorem q95 (x : (a95).den) : runFn Try.prog E0 G95 Try.f95 l95 a95 r95 x = Q95 .leaf .any x := by kernel_rfl
def M95 (x : (a95).den) : Option (r95).den := Q95 (fun r => r) (fun _ _ => none) x
theorem m95 (x : (a95).den) : (runFn Try.prog E0 G95 Try.f95 l95 a95 r95 x).sure = M95 x := by rw [q95]; unfold M95 Q95; simp only [sure_cond, Tree.sure, sure_cl, sure_onExit, sure_onRet, sure_onPanL, sure_onNext, sure_onBrk, sure_onRetO, sure_onPan, sure_onOk, sure_onGPan]
def p95 (x : (a95).den) : Bool := (M95 x).isSome
def v95 (x : (a95).den) : (r95).den := (M95 x).getD (r95).dflt
def k95 : Con := ⟨a95, r95, p95, v95⟩
theorem h95 : Holds Try.prog 95 k95 := holds_of_M' (E := E0) follows_ok g95 eqTy_sound keyTy_sound at95 bd95 (by kernel_rfl) m95 fun G' hlo hF hE => LsOK_kn (by rw [lo95]; exact .nil)
/-- (isobar/watch.lists).favouring -/
noncomputable def c62 : Code := Try.f62.body.getD .skip
theorem at62 : Try.prog.funcs[62]? = some Try.f62 := by kernel_rfl
theorem bd62 : Try.f62.body = some c62 := by kernel_rfl
theorem cl62 : Callable Try.prog 62 := callable_of at62 (by kernel_rfl) (by kernel_rfl)
abbrev a62 : Ty := T6
abbrev r62 : Ty := T0
noncomputable def G62 : Ctx := Ctx.of [(94, .gen (gappD Try.f94.ntmps r94 ps94 pans94 (F94 13))), (95, .pure k95)]
theorem g62 : Sound Try.prog (G62) := sound_of (List.forall_mem_cons.2 ⟨⟨cl94, h94 13⟩, List.forall_mem_cons.2 ⟨⟨cl95, h95⟩, fun _ h => by cases h⟩⟩)
theorem lo62 : loopsOf (c62) = [] := by kernel_rfl
noncomputable def l62 : List Loop := []
def Q62 {α : Type} (l : Option (r62).den → α) (an : α → α → α) (x : (a62).den) : α := onOk (F94 13 (x.1, ((), ((), ((), (((), ()), (x.2, (((), ()), ((fun y1 => none), ()))))))))) (fun u0 => cl (r95).dflt (M95 (x.1, ())) (fun u1 => l (some ((W (u1.1 - u0.1.1)), ()))) (l none)) (l none)
theorem q62 (x : (a62).den) : runFn Try.prog E0 G62 Try.f62 l62 a62 r62 x = Q62 .leaf .any x := by kernel_rfl
def M62 (x : (a62).den) : Option (r62).den := Q62 (fun r => r) (fun _ _ => none) x
theorem m62 (x : (a62).den) : (runFn Try.prog E0 G62 Try.f62 l62 a62 r62 x).sure = M62 x := by rw [q62]; unfold M62 Q62; simp only [sure_cond, Tree.sure, sure_cl, sure_onExit, sure_onRet, sure_onPanL, sure_onNext, sure_onBrk, sure_onRetO, sure_onPan, sure_onOk, sure_onGPan]
def p62 (x : (a62).den) : Bool := (M62 x).isSome
def v62 (x : (a62).den) : (r62).den := (M62 x).getD (r62).dflt
def k62 : Con := ⟨a62, r62, p62, v62⟩
theorem h62 : Holds Try.prog 62 k62 := holds_of_M' (E := E0) follows_ok g62 eqTy_sound keyTy_sound at62 bd62 (by kernel_rfl) m62 fun G' hlo hF hE => LsOK_kn (by rw [lo62]; exact .nil)
/-- isobar/watch.Favour -/
noncomputable def c18 : Code := Try.f18.body.getD .skip
theorem at18 : Try.prog.funcs[18]? = some Try.f18 := by kernel_rfl
theorem bd18 : Try.f18.body = some c18 := by kernel_rfl
theorem cl18 : Callable Try.prog 18 := callable_of at18 (by kernel_rfl) (by kernel_rfl)
abbrev a18 : Ty := T2
abbrev r18 : Ty := T1
noncomputable def G18 : Ctx := Ctx.of [(59, .pure k59), (60, .pure k60), (62, .pure k62)]
theorem g18 : Sound Try.prog (G18) := sound_of (List.forall_mem_cons.2 ⟨⟨cl59, h59⟩, List.forall_mem_cons.2 ⟨⟨cl60, h60⟩, List.forall_mem_cons.2 ⟨⟨cl62, h62⟩, fun _ h => by cases h⟩⟩⟩)
theorem lo18 : loopsOf (c18) = [] := by kernel_rfl
noncomputable def l18 : List Loop := []
def Q18 {α : Type} (l : Option (r18).den → α) (an : α → α → α) (x : (a18).den) : α := cl (r59).dflt (M59 (x.1, (x.2.1, ()))) (fun u0 => bif (!u0.1) then l (some ((0 : Int), ((2 : Int), ()))) else cl (r60).dflt (M60 (x.2.2.1, ((0 : Int), ((19 : Int), ())))) (fun u1 => bif (!u1.1) then l (some ((0 : Int), ((2 : Int), ()))) else cl (r62).dflt (M62 ((x.1, (x.2.1, ())), x.2.2)) (fun u2 => l (some (u2.1, ((0 : Int), ())))) (l none)) (l none)) (l none)
theorem q18 (x : (a18).den) : runFn Try.prog E0 G18 Try.f18 l18 a18 r18 x = Q18 .leaf .any x := by kernel_rfl
def M18 (x : (a18).den) : Option (r18).den := Q18 (fun r => r) (fun _ _ => none) x
theorem m18 (x : (a18).den) : (runFn Try.prog E0 G18 Try.f18 l18 a18 r18 x).sure = M18 x := by rw [q18]; unfold M18 Q18; simp only [sure_cond, Tree.sure, sure_cl, sure_onExit, sure_onRet, sure_onPanL, sure_onNext, sure_onBrk, sure_onRetO, sure_onPan, sure_onOk, sure_onGPan]
def p18 (x : (a18).den) : Bool := (M18 x).isSome
def v18 (x : (a18).den) : (r18).den := (M18 x).getD (r18).dflt
def k18 : Con := ⟨a18, r18, p18, v18⟩
theorem h18 : Holds Try.prog 18 k18 := holds_of_M' (E := E0) follows_ok g18 eqTy_sound keyTy_sound at18 bd18 (by kernel_rfl) m18 fun G' hlo hF hE => LsOK_kn (by rw [lo18]; exact .nil)
/-- (isobar/watch.lists).tests -/
noncomputable def c69 : Code := Try.f69.body.getD .skip
theorem at69 : Try.prog.funcs[69]? = some Try.f69 := by kernel_rfl
theorem bd69 : Try.f69.body = some c69 := by kernel_rfl
theorem cl69 : Callable Try.prog 69 := callable_of at69 (by kernel_rfl) (by kernel_rfl)
abbrev T8 : Ty := (.fn T0 T0)
abbrev T9 : Ty := (.cons T8 .nil)
abbrev T10 : Ty := (.cons T8 T9)
abbrev T11 : Ty := (.agg T10)
abbrev T12 : Ty := (.cons T11 .nil)
abbrev a69 : Ty := T7
abbrev r69 : Ty := T12
noncomputable def G69 : Ctx := Ctx.of [(61, .pure k61), (62, .pure k62)]
theorem g69 : Sound Try.prog (G69) := sound_of (List.forall_mem_cons.2 ⟨⟨cl61, h61⟩, List.forall_mem_cons.2 ⟨⟨cl62, h62⟩, fun _ h => by cases h⟩⟩)
theorem lo69 : loopsOf (c69) = [] := by kernel_rfl
noncomputable def l69 : List Loop := []
def Q69 {α : Type} (l : Option (r69).den → α) (an : α → α → α) (x : (a69).den) : α := l (some (((fun y1 => ((p61 (x.1, y1)), (v61 (x.1, y1)))), ((fun y1 => ((p62 (x.1, y1)), (v62 (x.1, y1)))), ())), ()))
theorem q69 (x : (a69).den) : runFn Try.prog E0 G69 Try.f69 l69 a69 r69 x = Q69 .leaf .any x := by kernel_rfl
def M69 (x : (a69).den) : Option (r69).den := Q69 (fun r => r) (fun _ _ => none) x
theorem m69 (x : (a69).den) : (runFn Try.prog E0 G69 Try.f69 l69 a69 r69 x).sure = M69 x := by rw [q69]; unfold M69 Q69; simp only [sure_cond, Tree.sure, sure_cl, sure_onExit, sure_onRet, sure_onPanL, sure_onNext, sure_onBrk, sure_onRetO, sure_onPan, sure_onOk, sure_onGPan]
def p69 (x : (a69).den) : Bool := (M69 x).isSome
def v69 (x : (a69).den) : (r69).den := (M69 x).getD (r69).dflt
def k69 : Con := ⟨a69, r69, p69, v69⟩
theorem h69 : Holds Try.prog 69 k69 := holds_of_M' (E := E0) follows_ok g69 eqTy_sound keyTy_sound at69 bd69 (by kernel_rfl) m69 fun G' hlo hF hE => LsOK_kn (by rw [lo69]; exact .nil)
/-- isobar/watch.first[int] -/
noncomputable def c70 : Code := Try.f70.body.getD .skip
theorem at70 : Try.prog.funcs[70]? = some Try.f70 := by kernel_rfl
theorem bd70 : Try.f70.body = some c70 := by kernel_rfl
theorem cl70 : Callable Try.prog 70 := callable_of at70 (by kernel_rfl) (by kernel_rfl)
abbrev T13 : Ty := (.fn T0 T3)
abbrev T14 : Ty := (.cons T13 .nil)
abbrev T15 : Ty := (.cons tI T14)
abbrev a70 : Ty := T15
abbrev r70 : Ty := T0
noncomputable def G70 : Ctx := Ctx.of []
theorem g70 : Sound Try.prog (G70) := sound_of (fun _ h => by cases h)
noncomputable def b70x0 : Code := loopBody ((loopsOf (c70))[0]?)
theorem lo70x0 : loopsOf (b70x0) = [] := by kernel_rfl
abbrev cs70x0 : List Pat := [.slot 0 (.pc tI), .slot 1 (.pc T13), .slot 7 (.pc tI)]
abbrev vs70x0 : List Pat := [.slot 8 (.pc tI)]
abbrev ps70x0 : List Pat := [.slot 0 (.pc tI), .slot 1 (.pc T13), .slot 7 (.pc tI), .slot 8 (.pc tI)]
def j70x0 : (patsTy cs70x0).den → (patsTy vs70x0).den → (patsTy ps70x0).den := fun c v => (c.1, (c.2.1, (c.2.2.1, v)))
def sp70x0 : (patsTy ps70x0).den → (patsTy cs70x0).den × (patsTy vs70x0).den := fun x => ((x.1, (x.2.1, (x.2.2.1, ()))), x.2.2.2)
abbrev wy70x0 : Ways := ⟨[(0, [.slot 0 (.pc tI)])], [.slot 4 (.pc tI)], []⟩
abbrev wv70x0 : Ways := ⟨[(0, [])], [.slot 4 (.pc tI)], []⟩
def je70x0 : (id : Nat) → (patsTy cs70x0).den → (patsTy (wayP wv70x0 id)).den → (patsTy (wayP wy70x0 id)).den := fun id => match id with | 0 => fun c y => (c.1, y) | id => fun _ _ => (patsTy (wayP wy70x0 id)).dflt
def jr70x0 : (patsTy cs70x0).den → (patsTy (wv70x0).ret).den → (patsTy (wy70x0).ret).den := fun c y => y
def jp70x0 : (patsTy cs70x0).den → (patsTy (wv70x0).pan).den → (patsTy (wy70x0).pan).den := fun c y => y
def Z70x0 {α : Type} (l : RQ vs70x0 wv70x0 → α) (an : α → α → α) (c : (patsTy cs70x0).den) (v : (patsTy vs70x0).den) : α := bif (decide (v.1 < c.2.2.1)) then bif (c.2.1 v).1 then bif (c.2.1 v).2.1 then l (.out (.ret v)) else l (.next ((W (v.1 + (1 : Int))), ())) else l .bad else l (.out (.exit 0 ()))
theorem z70x0 (c : (patsTy cs70x0).den) (v : (patsTy vs70x0).den) : roundQ Try.prog E0 G70 0 18 [] ps70x0 wy70x0 b70x0 [] (j70x0 c v) = Z70x0 (fun r => .leaf (r.lift j70x0 je70x0 jr70x0 jp70x0 c)) .any c v := by kernel_rfl
def S70x0 (c : (patsTy cs70x0).den) (v : (patsTy vs70x0).den) : RQ vs70x0 wv70x0 := Z70x0 (fun r => r) (fun _ _ => .bad) c v
theorem s70x0 (c : (patsTy cs70x0).den) (v : (patsTy vs70x0).den) : detQ (roundQ Try.prog E0 G70 0 18 [] ps70x0 wy70x0 b70x0 [] (j70x0 c v)) = (S70x0 c v).lift j70x0 je70x0 jr70x0 jp70x0 c := by rw [z70x0]; unfold S70x0 Z70x0; simp only [detQ_cond, lift_cond, lift_bad, detQ, detQ_cl, detQ_onExit, detQ_onRet, detQ_onPanL, detQ_onNext, detQ_onBrk, detQ_onRetO, detQ_onPan, detQ_onOk, detQ_onGPan, lift_cl, lift_onExit, lift_onRet, lift_onPanL, lift_onNext, lift_onBrk, lift_onRetO, lift_onPan, lift_onOk, lift_onGPan]
def L70x0 (c : (patsTy cs70x0).den) (v : (patsTy vs70x0).den) : LQ wv70x0 := iterQ (S70x0 c) big v
theorem lo70 : loopsOf (c70) = [.loop b70x0] := by kernel_rfl
noncomputable def l70 : List Loop := [.known (loopZ 0 [] ps70x0 fun x => spreadV wy70x0 je70x0 jr70x0 jp70x0 [] true (sp70x0 x).1 (L70x0 (sp70x0 x).1 (sp70x0 x).2) wy70x0.exits)]
def Q70 {α : Type} (l : Option (r70).den → α) (an : α → α → α) (x : (a70).den) : α := onExit (L70x0 (x.1, (x.2.1, ((W (x.1 + (1 : Int))), ()))) ((0 : Int), ())) 0 (fun u0 => l (some ((W (x.1 + (1 : Int))), ()))) (onRet (L70x0 (x.1, (x.2.1, ((W (x.1 + (1 : Int))), ()))) ((0 : Int), ())) (fun u1 => l (some u1)) (l none))
theorem q70 (x : (a70).den) : runFn Try.prog E0 G70 Try.f70 l70 a70 r70 x = Q70 .leaf .any x := by kernel_rfl
def M70 (x : (a70).den) : Option (r70).den := Q70 (fun r => r) (fun _ _ => none) x
theorem m70 (x : (a70).den) : (runFn Try.prog E0 G70 Try.f70 l70 a70 r70 x).sure = M70 x := by rw [q70]; unfold M70 Q70; simp only [sure_cond, Tree.sure, sure_cl, sure_onExit, sure_onRet, sure_onPanL, sure_onNext, sure_onBrk, sure_onRetO, sure_onPan, sure_onOk, sure_onGPan]
def p70 (x : (a70).den) : Bool := (M70 x).isSome
def v70 (x : (a70).den) : (r70).den := (M70 x).getD (r70).dflt
def k70 : Con := ⟨a70, r70, p70, v70⟩
theorem h70 : Holds Try.prog 70 k70 := holds_of_M' (E := E0) follows_ok g70 eqTy_sound keyTy_sound at70 bd70 (by kernel_rfl) m70 fun G' hlo hF hE => LsOK_kn (by rw [lo70]; exact .cons (loopV_ok hE hF hlo (LsOK_kn (by rw [lo70x0]; exact .nil)) (by kernel_rfl) (by kernel_rfl) sp70x0 (fun _ => rfl) (fun _ _ => rfl) (s70x0) big) (.nil))
/-- (isobar/watch.lists).excluded -/
noncomputable def c72 : Code := Try.f72.body.getD .skip
theorem at72 : Try.prog.funcs[72]? = some Try.f72 := by kernel_rfl
theorem bd72 : Try.f72.body = some c72 := by kernel_rfl
theorem cl72 : Callable Try.prog 72 := callable_of at72 (by kernel_rfl) (by kernel_rfl)
abbrev T16 : Ty := (.cons T5 T1)
abbrev a72 : Ty := T16
abbrev r72 : Ty := T3
noncomputable def G72 : Ctx := Ctx.of [(95, .pure k95)]
theorem g72 : Sound Try.prog (G72) := sound_of (List.forall_mem_cons.2 ⟨⟨cl95, h95⟩, fun _ h => by cases h⟩)
theorem lo72 : loopsOf (c72) = [] := by kernel_rfl
noncomputable def l72 : List Loop := []
def Q72 {α : Type} (l : Option (r72).den → α) (an : α → α → α) (x : (a72).den) : α := cl (r95).dflt (M95 (x.1, ())) (fun u0 => bif (decide ((W ((2 : Int) * x.2.2.1)) = (0 : Int))) then l none else l (some ((decide (x.2.1 ≤ (W (Int.tdiv u0.1 (W ((2 : Int) * x.2.2.1)))))), ()))) (l none)
theorem q72 (x : (a72).den) : runFn Try.prog E0 G72 Try.f72 l72 a72 r72 x = Q72 .leaf .any x := by kernel_rfl
def M72 (x : (a72).den) : Option (r72).den := Q72 (fun r => r) (fun _ _ => none) x
theorem m72 (x : (a72).den) : (runFn Try.prog E0 G72 Try.f72 l72 a72 r72 x).sure = M72 x := by rw [q72]; unfold M72 Q72; simp only [sure_cond, Tree.sure, sure_cl, sure_onExit, sure_onRet, sure_onPanL, sure_onNext, sure_onBrk, sure_onRetO, sure_onPan, sure_onOk, sure_onGPan]
def p72 (x : (a72).den) : Bool := (M72 x).isSome
def v72 (x : (a72).den) : (r72).den := (M72 x).getD (r72).dflt
def k72 : Con := ⟨a72, r72, p72, v72⟩
theorem h72 : Holds Try.prog 72 k72 := holds_of_M' (E := E0) follows_ok g72 eqTy_sound keyTy_sound at72 bd72 (by kernel_rfl) m72 fun G' hlo hF hE => LsOK_kn (by rw [lo72]; exact .nil)
/-- isobar/watch.Need$1 -/
noncomputable def c71 : Code := Try.f71.body.getD .skip
theorem at71 : Try.prog.funcs[71]? = some Try.f71 := by kernel_rfl
theorem bd71 : Try.f71.body = some c71 := by kernel_rfl
theorem cl71 : Callable Try.prog 71 := callable_of at71 (by kernel_rfl) (by kernel_rfl)
abbrev T17 : Ty := (.ptr T9)
abbrev T18 : Ty := (.ptr T1)
abbrev T19 : Ty := (.ptr T0)
abbrev T20 : Ty := (.cons T19 .nil)
abbrev T21 : Ty := (.cons T18 T20)
abbrev T22 : Ty := (.cons T17 T21)
abbrev T23 : Ty := (.cons tI T22)
abbrev a71 : Ty := T23
abbrev r71 : Ty := T3
noncomputable def G71 : Ctx := Ctx.of [(72, .pure k72)]
theorem g71 : Sound Try.prog (G71) := sound_of (List.forall_mem_cons.2 ⟨⟨cl72, h72⟩, fun _ h => by cases h⟩)
theorem lo71 : loopsOf (c71) = [] := by kernel_rfl
noncomputable def l71 : List Loop := []
def Q71 {α : Type} (l : Option (r71).den → α) (an : α → α → α) (x : (a71).den) : α := bif (x.2.1.1 (x.1, ())).1 then cl (r72).dflt (M72 (x.2.2.1, ((x.2.1.1 (x.1, ())).2.1, x.2.2.2.1))) (fun u0 => l (some u0)) (l none) else l none
theorem q71 (x : (a71).den) : runFn Try.prog E0 G71 Try.f71 l71 a71 r71 x = Q71 .leaf .any x := by kernel_rfl
def M71 (x : (a71).den) : Option (r71).den := Q71 (fun r => r) (fun _ _ => none) x
theorem m71 (x : (a71).den) : (runFn Try.prog E0 G71 Try.f71 l71 a71 r71 x).sure = M71 x := by rw [q71]; unfold M71 Q71; simp only [sure_cond, Tree.sure, sure_cl, sure_onExit, sure_onRet, sure_onPanL, sure_onNext, sure_onBrk, sure_onRetO, sure_onPan, sure_onOk, sure_onGPan]
def p71 (x : (a71).den) : Bool := (M71 x).isSome
def v71 (x : (a71).den) : (r71).den := (M71 x).getD (r71).dflt
def k71 : Con := ⟨a71, r71, p71, v71⟩
theorem h71 : Holds Try.prog 71 k71 := holds_of_M' (E := E0) follows_ok g71 eqTy_sound keyTy_sound at71 bd71 (by kernel_rfl) m71 fun G' hlo hF hE => LsOK_kn (by rw [lo71]; exact .nil)
/-- isobar/watch.Need -/
noncomputable def c30 : Code := Try.f30.body.getD .skip
theorem at30 : Try.prog.funcs[30]? = some Try.f30 := by kernel_rfl
theorem bd30 : Try.f30.body = some c30 := by kernel_rfl
theorem cl30 : Callable Try.prog 30 := callable_of at30 (by kernel_rfl) (by kernel_rfl)
abbrev a30 : Ty := T2
abbrev r30 : Ty := T2
noncomputable def G30 : Ctx := Ctx.of [(59, .pure k59), (60, .pure k60), (69, .pure k69), (70, .pure k70), (71, .pure k71)]
theorem g30 : Sound Try.prog (G30) := sound_of (List.forall_mem_cons.2 ⟨⟨cl59, h59⟩, List.forall_mem_cons.2 ⟨⟨cl60, h60⟩, List.forall_mem_cons.2 ⟨⟨cl69, h69⟩, List.forall_mem_cons.2 ⟨⟨cl70, h70⟩, List.forall_mem_cons.2 ⟨⟨cl71, h71⟩, fun _ h => by cases h⟩⟩⟩⟩⟩)
noncomputable def b30x0 : Code := loopBody ((loopsOf (c30))[0]?)
theorem lo30x0 : loopsOf (b30x0) = [] := by kernel_rfl
theorem lo30 : loopsOf (c30) = [.loop b30x0] := by kernel_rfl
noncomputable def l30 : List Loop := [.unroll 3 []]
def Q30 {α : Type} (l : Option (r30).den → α) (an : α → α → α) (x : (a30).den) : α := cl (r59).dflt (M59 (x.1, (x.2.1, ()))) (fun u0 => bif (!u0.1) then l (some ((0 : Int), ((0 : Int), ((2 : Int), ())))) else cl (r60).dflt (M60 (x.2.2.1, ((1 : Int), ((1000000 : Int), ())))) (fun u1 => bif (!u1.1) then l (some ((0 : Int), ((0 : Int), ((2 : Int), ())))) else cl (r69).dflt (M69 ((x.1, (x.2.1, ())), ())) (fun u2 => cl (r70).dflt (M70 (x.2.1, ((fun y1 => ((p71 (y1.1, ((u2.1.1, ()), ((x.1, (x.2.1, ())), (x.2.2, ()))))), (v71 (y1.1, ((u2.1.1, ()), ((x.1, (x.2.1, ())), (x.2.2, ()))))))), ()))) (fun u3 => cl (r70).dflt (M70 (x.2.1, ((fun y1 => ((p71 (y1.1, (u2.1.2, ((x.1, (x.2.1, ())), (x.2.2, ()))))), (v71 (y1.1, (u2.1.2, ((x.1, (x.2.1, ())), (x.2.2, ()))))))), ()))) (fun u4 => l (some (u3.1, (u4.1, ((0 : Int), ()))))) (l none)) (l none)) (l none)) (l none)) (l none)
theorem q30 (x : (a30).den) : runFn Try.prog E0 G30 Try.f30 l30 a30 r30 x = Q30 .leaf .any x := by kernel_rfl
def M30 (x : (a30).den) : Option (r30).den := Q30 (fun r => r) (fun _ _ => none) x
theorem m30 (x : (a30).den) : (runFn Try.prog E0 G30 Try.f30 l30 a30 r30 x).sure = M30 x := by rw [q30]; unfold M30 Q30; simp only [sure_cond, Tree.sure, sure_cl, sure_onExit, sure_onRet, sure_onPanL, sure_onNext, sure_onBrk, sure_onRetO, sure_onPan, sure_onOk, sure_onGPan]
def p30 (x : (a30).den) : Bool := (M30 x).isSome
def v30 (x : (a30).den) : (r30).den := (M30 x).getD (r30).dflt
def k30 : Con := ⟨a30, r30, p30, v30⟩
theorem h30 : Holds Try.prog 30 k30 := holds_of_M' (E := E0) follows_ok g30 eqTy_sound keyTy_sound at30 bd30 (by kernel_rfl) m30 fun G' hlo hF hE => LsOK_kn (by rw [lo30]; exact .unr (LsOK_kn (by rw [lo30x0]; exact .nil)) (.nil))
/-- isobar/watch.valid -/
noncomputable def c74 : Code := Try.f74.body.getD .skip
theorem at74 : Try.prog.funcs[74]? = some Try.f74 := by kernel_rfl
theorem bd74 : Try.f74.body = some c74 := by kernel_rfl
theorem cl74 : Callable Try.prog 74 := callable_of at74 (by kernel_rfl) (by kernel_rfl)
abbrev T24 : Ty := (.cons (.sl T0) T4)
abbrev T25 : Ty := (.cons tI T24)
abbrev T26 : Ty := (.cons tI T25)
abbrev T27 : Ty := (.agg T26)
abbrev T28 : Ty := (.cons T27 .nil)
abbrev a74 : Ty := T28
abbrev r74 : Ty := T3
noncomputable def G74 : Ctx := Ctx.of [(60, .pure k60)]
theorem g74 : Sound Try.prog (G74) := sound_of (List.forall_mem_cons.2 ⟨⟨cl60, h60⟩, fun _ h => by cases h⟩)
noncomputable def b74x0 : Code := loopBody ((loopsOf (c74))[0]?)
theorem lo74x0 : loopsOf (b74x0) = [] := by kernel_rfl
abbrev cs74x0 : List Pat := [.slot 1 (.ptr 1), .slot 31 (.pc (.sl T0)), .slot 32 (.pc tI), .box 1 [.pc tI, .pc tI, .pc (.sl T0), .pc (.sl T0)]]
abbrev vs74x0 : List Pat := [.slot 33 (.pc tI)]
abbrev ps74x0 : List Pat := [.slot 1 (.ptr 1), .slot 31 (.pc (.sl T0)), .slot 32 (.pc tI), .box 1 [.pc tI, .pc tI, .pc (.sl T0), .pc (.sl T0)], .slot 33 (.pc tI)]
def j74x0 : (patsTy cs74x0).den → (patsTy vs74x0).den → (patsTy ps74x0).den := fun c v => (c.1, (c.2.1, (c.2.2.1, (c.2.2.2.1, v))))
def sp74x0 : (patsTy ps74x0).den → (patsTy cs74x0).den × (patsTy vs74x0).den := fun x => ((x.1, (x.2.1, (x.2.2.1, (x.2.2.2.1, ())))), x.2.2.2.2)
abbrev wy74x0 : Ways := ⟨[(0, [])], [.slot 2 (.pc .bool)], []⟩
abbrev wv74x0 : Ways := ⟨[(0, [])], [.slot 2 (.pc .bool)], []⟩
def je74x0 : (id : Nat) → (patsTy cs74x0).den → (patsTy (wayP wv74x0 id)).den → (patsTy (wayP wy74x0 id)).den := fun id => match id with | 0 => fun c y => y | id => fun _ _ => (patsTy (wayP wy74x0 id)).dflt
def jr74x0 : (patsTy cs74x0).den → (patsTy (wv74x0).ret).den → (patsTy (wy74x0).ret).den := fun c y => y
def jp74x0 : (patsTy cs74x0).den → (patsTy (wv74x0).pan).den → (patsTy (wy74x0).pan).den := fun c y => y
def Z74x0 {α : Type} (l : RQ vs74x0 wv74x0 → α) (an : α → α → α) (c : (patsTy cs74x0).den) (v : (patsTy vs74x0).den) : α := bif (decide (v.1 < c.2.2.1)) then bif (decide (((0 : Int) ≤ v.1) ∧ (v.1 < ((c.2.1.n : Nat) : Int)))) then cl (r60).dflt (M60 ((c.2.1.g (Int.toNat v.1)).1, ((-1 : Int), ((W (c.2.2.2.1.1 - (1 : Int))), ())))) (fun u0 => bif (!u0.1) then l (.out (.ret (false, ()))) else bif (decide (((0 : Int) ≤ v.1) ∧ (v.1 < ((c.2.2.2.1.2.2.2.1.n : Nat) : Int)))) then cl (r60).dflt (M60 ((c.2.2.2.1.2.2.2.1.g (Int.toNat v.1)).1, ((-1 : Int), ((W (c.2.2.2.1.1 - (1 : Int))), ())))) (fun u1 => bif (!u1.1) then l (.out (.ret (false, ()))) else l (.next ((W (v.1 + (1 : Int))), ()))) (l .bad) else l .bad) (l .bad) else l .bad else l (.out (.exit 0 ()))
theorem z74x0 (c : (patsTy cs74x0).den) (v : (patsTy vs74x0).den) : roundQ Try.prog E0 G74 0 57 [] ps74x0 wy74x0 b74x0 [] (j74x0 c v) = Z74x0 (fun r => .leaf (r.lift j74x0 je74x0 jr74x0 jp74x0 c)) .any c v := by kernel_rfl
def S74x0 (c : (patsTy cs74x0).den) (v : (patsTy vs74x0).den) : RQ vs74x0 wv74x0 := Z74x0 (fun r => r) (fun _ _ => .bad) c v
theorem s74x0 (c : (patsTy cs74x0).den) (v : (patsTy vs74x0).den) : detQ (roundQ Try.prog E0 G74 0 57 [] ps74x0 wy74x0 b74x0 [] (j74x0 c v)) = (S74x0 c v).lift j74x0 je74x0 jr74x0 jp74x0 c := by rw [z74x0]; unfold S74x0 Z74x0; simp only [detQ_cond, lift_cond, lift_bad, detQ, detQ_cl, detQ_onExit, detQ_onRet, detQ_onPanL, detQ_onNext, detQ_onBrk, detQ_onRetO, detQ_onPan, detQ_onOk, detQ_onGPan, lift_cl, lift_onExit, lift_onRet, lift_onPanL, lift_onNext, lift_onBrk, lift_onRetO, lift_onPan, lift_onOk, lift_onGPan]
def L74x0 (c : (patsTy cs74x0).den) (v : (patsTy vs74x0).den) : LQ wv74x0 := iterQ (S74x0 c) big v
theorem lo74 : loopsOf (c74) = [.loop b74x0] := by kernel_rfl
noncomputable def l74 : List Loop := [.known (loopZ 0 [] ps74x0 fun x => spreadV wy74x0 je74x0 jr74x0 jp74x0 [] true (sp74x0 x).1 (L74x0 (sp74x0 x).1 (sp74x0 x).2) wy74x0.exits)]
def Q74 {α : Type} (l : Option (r74).den → α) (an : α → α → α) (x : (a74).den) : α := cl (r60).dflt (M60 (x.1.1, ((2 : Int), ((10 : Int), ())))) (fun u2 => bif (!u2.1) then l (some (false, ())) else cl (r60).dflt (M60 (x.1.2.1, ((1 : Int), ((1000000 : Int), ())))) (fun u3 => bif (!u3.1) then l (some (false, ())) else bif (!(decide (((x.1.2.2.1.n : Nat) : Int) = ((x.1.2.2.2.1.n : Nat) : Int)))) then l (some (false, ())) else bif (decide ((18 : Int) < ((x.1.2.2.1.n : Nat) : Int))) then l (some (false, ())) else onExit (L74x0 ((), (x.1.2.2.1, (((x.1.2.2.1.n : Nat) : Int), (x.1, ())))) ((0 : Int), ())) 0 (fun u4 => l (some (true, ()))) (onRet (L74x0 ((), (x.1.2.2.1, (((x.1.2.2.1.n : Nat) : Int), (x.1, ())))) ((0 : Int), ())) (fun u5 => l (some u5)) (l none))) (l none)) (l none)
theorem q74 (x : (a74).den) : runFn Try.prog E0 G74 Try.f74 l74 a74 r74 x = Q74 .leaf .any x := by kernel_rfl
def M74 (x : (a74).den) : Option (r74).den := Q74 (fun r => r) (fun _ _ => none) x
theorem m74 (x : (a74).den) : (runFn Try.prog E0 G74 Try.f74 l74 a74 r74 x).sure = M74 x := by rw [q74]; unfold M74 Q74; simp only [sure_cond, Tree.sure, sure_cl, sure_onExit, sure_onRet, sure_onPanL, sure_onNext, sure_onBrk, sure_onRetO, sure_onPan, sure_onOk, sure_onGPan]
def p74 (x : (a74).den) : Bool := (M74 x).isSome
def v74 (x : (a74).den) : (r74).den := (M74 x).getD (r74).dflt
def k74 : Con := ⟨a74, r74, p74, v74⟩
theorem h74 : Holds Try.prog 74 k74 := holds_of_M' (E := E0) follows_ok g74 eqTy_sound keyTy_sound at74 bd74 (by kernel_rfl) m74 fun G' hlo hF hE => LsOK_kn (by rw [lo74]; exact .cons (loopV_ok hE hF hlo (LsOK_kn (by rw [lo74x0]; exact .nil)) (by kernel_rfl) (by kernel_rfl) sp74x0 (fun _ => rfl) (fun _ _ => rfl) (s74x0) big) (.nil))
/-- isobar/watch.counting$1 -/
noncomputable def c103 : Code := Try.f103.body.getD .skip
theorem at103 : Try.prog.funcs[103]? = some Try.f103 := by kernel_rfl
theorem bd103 : Try.f103.body = some c103 := by kernel_rfl
theorem cl103 : Callable Try.prog 103 := callable_of at103 (by kernel_rfl) (by kernel_rfl)
abbrev fst103 : Ty := .nil
abbrev T29 : Ty := (.ptr T26)
abbrev T30 : Ty := (.cons T29 .nil)
abbrev cap103 : Ty := T30
abbrev e103 : Ty := T1
theorem none_sound : Sound Try.prog (fun _ => none) := fun _ _ h => by cases h
abbrev ct_row : Ty := .cons tI .nil
abbrev ct_kf : Ty := .cons tI (.cons tI (.cons (.sl ct_row) (.cons (.sl ct_row) .nil)))
abbrev ct_eF : Ty := .cons tI (.cons tI .nil)
abbrev ct_ps0 : List Pat := [.tr ct_eF, .slot 0 .yld, .slot 1 (.pc (.ptr ct_kf)), .slot 6 (.pc (.sl ct_row)), .slot 7 (.pc tI), .slot 8 (.pc tI)]
abbrev ct_wy0 : Ways := ⟨[(0, [.tr ct_eF])], [.tr ct_eF], [.tr ct_eF]⟩
noncomputable def ct_b0 : Code := ((Try.f103.body).bind bodyOf).getD .skip
def ct_push (tr : Sl ct_eF.den) (i : ct_eF.den) : Sl ct_eF.den := catSl tr ⟨1, fun _ => i⟩
theorem ct_round (tr : Sl ct_eF.den) (k : ct_kf.den) (o : Sl ct_row.den) (n i : Int) :
    roundT true Try.prog E0 (fun _ => none) 0 35 [] ct_ps0 ct_wy0 ct_b0 [] (tr, (), k, o, n, i, ()) =
      bif decide (i < n) then bif decide (((0 : Int) ≤ i) ∧ (i < ((o.n : Nat) : Int))) then bif decide ((0 : Int) ≤ (o.g (Int.toNat i)).1) then bif decide (((0 : Int) ≤ i) ∧ (i < ((k.2.2.2.1.n : Nat) : Int))) then bif decide ((0 : Int) ≤ (k.2.2.2.1.g (Int.toNat i)).1) then bif decide (((0 : Int) ≤ i) ∧ (i < ((k.2.2.2.1.n : Nat) : Int))) then
        .any (.leaf (.next (ct_push tr ((o.g (Int.toNat i)).1, (k.2.2.2.1.g (Int.toNat i))), (), k, o, n, W (i + 1), ())))
          (.any (.leaf (.out (.stop ct_eF (ct_push tr ((o.g (Int.toNat i)).1, (k.2.2.2.1.g (Int.toNat i))))))) (.leaf (.out (.foreign ct_eF (ct_push tr ((o.g (Int.toNat i)).1, (k.2.2.2.1.g (Int.toNat i)))))))) 
        else .leaf (.out .bad) else .leaf (.next (tr, (), k, o, n, W (i + 1), ())) else .leaf (.out .bad) else .leaf (.next (tr, (), k, o, n, W (i + 1), ())) else .leaf (.out .bad)
      else .leaf (.out (.exit 0 [.tr ct_eF] (tr, ()))) := by
  kernel_rfl

def ct_yl (id : Nat) (qs : List Pat) (y : (patsTy qs).den) (T : Sl ct_eF.den) : Tree LO := .any (.leaf (.exit id qs y)) (.any (.leaf (.stop ct_eF T)) (.leaf (.foreign ct_eF T)))
theorem ct_yl_fine {id : Nat} {qs : List Pat} {y : (patsTy qs).den} {T : Sl ct_eF.den} {o : LO} (h : (ct_yl id qs y T).Has o) : o ≠ .bad := by
  rcases h with h | h | h <;> (rw [show o = _ from h]; simp)
theorem ct_yl_self {id : Nat} {qs : List Pat} {y : (patsTy qs).den} {T : Sl ct_eF.den} : ∀ o, (ct_yl id qs y T).Has o → Cov (ct_yl id qs y T) o := fun o h => ⟨o, h, .refl (ct_yl_fine h)⟩
theorem ct_yl_stop {id : Nat} {qs : List Pat} {y : (patsTy qs).den} {T T' : Sl ct_eF.den} (h : T'.list <+: T.list) : Cov (ct_yl id qs y T) (.stop ct_eF T') := ⟨_, .inr (.inl rfl), .stop h⟩
theorem ct_yl_foreign {id : Nat} {qs : List Pat} {y : (patsTy qs).den} {T T' : Sl ct_eF.den} (h : T'.list <+: T.list) : Cov (ct_yl id qs y T) (.foreign ct_eF T') := ⟨_, .inr (.inr rfl), .foreign h⟩
theorem ct_br_true {b : Bool} {l r : Tree LO} (hb : b = true) : (∀ o, (Tree.br b l r).Has o → l.Has o) ∧ ∀ o, Cov l o → Cov (Tree.br b l r) o := by
  subst hb
  exact ⟨fun o h => h, fun o ⟨o', h1, h2⟩ => ⟨o', h1, h2⟩⟩
theorem ct_br_fine {b : Bool} {l : Tree LO} (h : Fine (Tree.br b l (.leaf .bad))) : b = true := by
  cases b with
  | true => rfl
  | false => exact absurd rfl (h .bad rfl)
theorem ct_push_list (tr : Sl ct_eF.den) (i : ct_eF.den) : (ct_push tr i).list = tr.list ++ [i] := list_append tr i

def ct_both (k : ct_kf.den) (o : Sl ct_row.den) (i : Int) : Bool := decide ((0 : Int) ≤ (o.g (Int.toNat i)).1) && decide ((0 : Int) ≤ (k.2.2.2.1.g (Int.toNat i)).1)
def ct_step (k : ct_kf.den) (o : Sl ct_row.den) (i : Int) (tr : Sl ct_eF.den) : Sl ct_eF.den := bif ct_both k o i then ct_push tr ((o.g (Int.toNat i)).1, (k.2.2.2.1.g (Int.toNat i))) else tr
def ct_acc (k : ct_kf.den) (o : Sl ct_row.den) : Nat → Int → Sl ct_eF.den → Sl ct_eF.den
  | 0, _, tr => tr
  | m + 1, i, tr => ct_acc k o m (i + 1) (ct_step k o i tr)
theorem ct_step_pre (k : ct_kf.den) (o : Sl ct_row.den) (i : Int) (tr : Sl ct_eF.den) : tr.list <+: (ct_step k o i tr).list := by
  unfold ct_step
  cases ct_both k o i with
  | true => rw [cond_true, ct_push_list]; exact List.prefix_append _ _
  | false => exact List.prefix_refl _
theorem ct_acc_pre (k : ct_kf.den) (o : Sl ct_row.den) : ∀ (m : Nat) (i : Int) (tr : Sl ct_eF.den), tr.list <+: (ct_acc k o m i tr).list
  | 0, _, tr => List.prefix_refl _
  | m + 1, i, tr => (ct_step_pre k o i tr).trans (ct_acc_pre k o m (i + 1) _)
def ct_ok (k : ct_kf.den) (o : Sl ct_row.den) (n i : Int) : Bool := decide (n = (o.n : Int) ∧ 0 ≤ i ∧ o.n ≤ k.2.2.2.1.n ∧ n ≤ 140737488355328)
def ct_f : (patsTy ct_ps0).den → Tree LO := fun (tr, _, k, o, n, i, _) =>
  .br (ct_ok k o n i) (ct_yl 0 [.tr ct_eF] (ct_acc k o (n - i).toNat i tr, ()) (ct_acc k o (n - i).toNat i tr)) (.leaf .bad)
def ct_m : (patsTy ct_ps0).den → Nat := fun (_, _, _, _, n, i, _) => (n - i).toNat
theorem ct_loop_round' (tr : Sl ct_eF.den) (k : ct_kf.den) (o : Sl ct_row.den) (n i : Int) (hf : Fine (ct_f (tr, (), k, o, n, i, ()))) :
    (roundT true Try.prog E0 (fun _ => none) 0 35 [] ct_ps0 ct_wy0 ct_b0 [] (tr, (), k, o, n, i, ())).All (ResOk ct_m ct_f (tr, (), k, o, n, i, ())) := by
  have hok : ct_ok k o n i = true := ct_br_fine hf
  obtain ⟨_, e0⟩ := ct_br_true (l := ct_yl 0 [.tr ct_eF] (ct_acc k o (n - i).toNat i tr, ()) (ct_acc k o (n - i).toNat i tr)) (r := .leaf .bad) hok
  obtain ⟨h1, h2, h3, h4⟩ : n = (o.n : Int) ∧ 0 ≤ i ∧ o.n ≤ k.2.2.2.1.n ∧ n ≤ 140737488355328 := of_decide_eq_true hok
  rw [ct_round]
  by_cases ht : i < n
  · have hW : W (i + 1) = i + 1 := IntWalk.i64_in _ ⟨by omega, by omega⟩
    have hn : (n - i).toNat = (n - (i + 1)).toNat + 1 := by omega
    have hok' : ct_ok k o n (i + 1) = true := decide_eq_true ⟨h1, by omega, h3, h4⟩
    have b1 : (i < ((o.n : Nat) : Int)) := by omega
    have b2 : (i < ((k.2.2.2.1.n : Nat) : Int)) := by omega
    simp only [ht, h2, b1, b2, and_self, decide_true, cond_true, hW]
    have next : ∀ tr', ct_step k o i tr = tr' → ResOk ct_m ct_f (tr, (), k, o, n, i, ()) (.next (tr', (), k, o, n, i + 1, ())) := fun tr' htr => by
      obtain ⟨e1, _⟩ := ct_br_true (l := ct_yl 0 [.tr ct_eF] (ct_acc k o (n - (i + 1)).toNat (i + 1) tr', ()) (ct_acc k o (n - (i + 1)).toNat (i + 1) tr')) (r := .leaf .bad) hok'
      refine ⟨?_, fun o' ho => ?_⟩
      · show (n - (i + 1)).toNat < (n - i).toNat
        omega
      · have := e1 o' ho
        rw [show ct_acc k o (n - (i + 1)).toNat (i + 1) tr' = ct_acc k o (n - i).toNat i tr by rw [hn, ← htr]; rfl] at this
        exact e0 o' (ct_yl_self o' this)
    cases c1 : decide ((0 : Int) ≤ (o.g (Int.toNat i)).1) with
    | false => exact next tr (by simp [ct_step, ct_both, c1])
    | true =>
      cases c2 : decide ((0 : Int) ≤ (k.2.2.2.1.g (Int.toNat i)).1) with
      | false => exact next tr (by simp [ct_step, ct_both, c1, c2])
      | true =>
        have hs : ct_step k o i tr = ct_push tr ((o.g (Int.toNat i)).1, (k.2.2.2.1.g (Int.toNat i))) := by simp only [ct_step, ct_both, c1, c2, Bool.and_self, cond_true]
        have hp : (ct_push tr ((o.g (Int.toNat i)).1, (k.2.2.2.1.g (Int.toNat i)))).list <+: (ct_acc k o (n - i).toNat i tr).list := by
          rw [hn, ← hs]; exact ct_acc_pre k o _ _ _
        exact ⟨next _ hs, e0 _ (ct_yl_stop hp), e0 _ (ct_yl_foreign hp)⟩
  · have ht' : decide (i < n) = false := decide_eq_false ht
    rw [ht', cond_false]
    have hn : (n - i).toNat = 0 := by omega
    refine e0 _ ⟨_, .inl rfl, ?_⟩
    rw [hn]
    exact .refl (by simp)
theorem ct_loop_round (x : (patsTy ct_ps0).den) (hf : Fine (ct_f x)) : (roundT true Try.prog E0 (fun _ => none) 0 35 [] ct_ps0 ct_wy0 ct_b0 [] x).All (ResOk ct_m ct_f x) := by
  obtain ⟨tr, ⟨⟩, k, o, n, i, ⟨⟩⟩ := x
  exact ct_loop_round' tr k o n i hf
def ct_items (k : ct_kf.den) : Sl ct_eF.den := ct_acc k k.2.2.1 (((k.2.2.1.n : Nat) : Int) - 0).toNat 0 ⟨0, fun _ => ct_eF.dflt⟩
def ip103 (_ : (fst103).den) (y : (cap103).den) : Bool := ct_ok y.1 y.1.2.2.1 (y.1.2.2.1.n : Int) 0
def ii103 (_ : (fst103).den) (y : (cap103).den) : Sl (e103).den := ct_items y.1
def i103 : ICon := ⟨fst103, cap103, e103, ip103, ii103⟩
noncomputable abbrev ct_ls : List Loop := [.known (loopF 0 [] ct_ps0 ct_f)]
theorem ct_run103 (k : ct_kf.den) : runI Try.prog E0 (fun _ => none) Try.f103 ct_ls i103 () (k, ()) =
    bif ct_ok k k.2.2.1 (k.2.2.1.n : Int) 0 then .any (.leaf (.full ⟨ct_eF, true, ct_items k⟩)) (.any (.leaf (.stop ⟨ct_eF, false, ct_items k⟩)) (.leaf (.foreign ⟨ct_eF, false, ct_items k⟩)))
    else .leaf .bad := by
  kernel_rfl
theorem ct_loops103 (G' : Gh) (h0 : G'.lo = 0) (hok : G'.Ok Try.prog) : LsOK Try.prog 35 G' 103 Fence.wide 0 c103 ct_ls := by
  have hE : Env Try.prog E0 (fun _ => none) G' Fence.wide := ⟨follows_ok, none_sound, eqTy_sound, keyTy_sound, hok, .wide, fun _ => rfl⟩
  have l0 : LoopOK Try.prog 35 G' 103 Fence.wide 0 (.loop ct_b0) (loopF 0 [] ct_ps0 ct_f) := by
    have := loop_ok (fid := 103) (r := 0) (N := 35) (dfr := []) hE (tr := true) (.inl rfl) (ps := ct_ps0) (wy := ct_wy0) (body := ct_b0) (ls := []) LsOK_nil (by kernel_rfl) (by kernel_rfl) ct_f ct_m (by rw [h0]; exact ct_loop_round)
    rw [h0] at this; exact this
  exact LsOK_one l0 (by kernel_rfl) (by kernel_rfl)
theorem h103 : IHolds Try.prog 103 i103 := by
  refine iholds_of_run follows_ok none_sound eqTy_sound keyTy_sound (E := E0) at103 bd103 (ls := ct_ls) i103 rfl rfl (Nat.le_of_ble_eq_true (by kernel_rfl)) (by kernel_rfl) (fun G' h0 hok _ => ct_loops103 G' h0 hok) ?_
  rintro ⟨⟩ ⟨k, ⟨⟩⟩ hp
  rw [ct_run103]
  have hp : ct_ok k k.2.2.1 (k.2.2.1.n : Int) 0 = true := hp
  rw [hp, cond_true]
  exact ⟨⟨_, rfl, rfl⟩, ⟨_, rfl, List.prefix_refl _⟩, _, rfl, List.prefix_refl _⟩

/-- isobar/watch.counting -/
noncomputable def c96 : Code := Try.f96.body.getD .skip
theorem at96 : Try.prog.funcs[96]? = some Try.f96 := by kernel_rfl
theorem bd96 : Try.f96.body = some c96 := by kernel_rfl
theorem cl96 : Callable Try.prog 96 := callable_of at96 (by kernel_rfl) (by kernel_rfl)
abbrev T31 : Ty := (.seq T1)
abbrev T32 : Ty := (.cons T31 .nil)
abbrev a96 : Ty := T28
abbrev r96 : Ty := T32
noncomputable def G96 : Ctx := Ctx.of [(103, .iter i103)]
theorem g96 : Sound Try.prog (G96) := sound_of (List.forall_mem_cons.2 ⟨⟨cl103, h103⟩, fun _ h => by cases h⟩)
theorem lo96 : loopsOf (c96) = [] := by kernel_rfl
noncomputable def l96 : List Loop := []
def Q96 {α : Type} (l : Option (r96).den → α) (an : α → α → α) (x : (a96).den) : α := bif (ip103 () (x.1, ())) then l (some ((ii103 () (x.1, ())), ())) else l none
theorem q96 (x : (a96).den) : runFn Try.prog E0 G96 Try.f96 l96 a96 r96 x = Q96 .leaf .any x := by kernel_rfl
def M96 (x : (a96).den) : Option (r96).den := Q96 (fun r => r) (fun _ _ => none) x
theorem m96 (x : (a96).den) : (runFn Try.prog E0 G96 Try.f96 l96 a96 r96 x).sure = M96 x := by rw [q96]; unfold M96 Q96; simp only [sure_cond, Tree.sure, sure_cl, sure_onExit, sure_onRet, sure_onPanL, sure_onNext, sure_onBrk, sure_onRetO, sure_onPan, sure_onOk, sure_onGPan]
def p96 (x : (a96).den) : Bool := (M96 x).isSome
def v96 (x : (a96).den) : (r96).den := (M96 x).getD (r96).dflt
def k96 : Con := ⟨a96, r96, p96, v96⟩
theorem h96 : Holds Try.prog 96 k96 := holds_of_M' (E := E0) follows_ok g96 eqTy_sound keyTy_sound at96 bd96 (by kernel_rfl) m96 fun G' hlo hF hE => LsOK_kn (by rw [lo96]; exact .nil)
/-- isobar/watch.look -/
noncomputable def c75 : Code := Try.f75.body.getD .skip
theorem at75 : Try.prog.funcs[75]? = some Try.f75 := by kernel_rfl
theorem bd75 : Try.f75.body = some c75 := by kernel_rfl
theorem cl75 : Callable Try.prog 75 := callable_of at75 (by kernel_rfl) (by kernel_rfl)
abbrev T33 : Ty := (.cons (.sl T0) T2)
abbrev T34 : Ty := (.cons (.sl T0) T33)
abbrev T35 : Ty := (.cons tI T34)
abbrev T36 : Ty := (.cons tI T35)
abbrev T37 : Ty := (.agg T36)
abbrev T38 : Ty := (.cons T37 .nil)
abbrev a75 : Ty := T28
abbrev r75 : Ty := T38
noncomputable def G75 : Ctx := Ctx.of [(96, .pure k96)]
theorem g75 : Sound Try.prog (G75) := sound_of (List.forall_mem_cons.2 ⟨⟨cl96, h96⟩, fun _ h => by cases h⟩)
noncomputable def b75x0 : Code := rangeBody ((loopsOf (c75))[0]?)
noncomputable def as75x0 : Code := rangeAs ((loopsOf (c75))[0]?)
abbrev mp75x0 : List Pat := [.slot 1 (.ptr 1), .slot 2 (.ptr 2), .slot 3 (.ptr 47), .slot 4 (.ptr 92), .box 1 [.pc tI, .pc tI, .pc (.sl T0), .pc (.sl T0)], .box 2 [.pc tI, .pc tI, .own 1003002 3 T0, .own 1003003 3 T0, .pc tI, .pc tI, .pc tI], .box 47 [.pc tI, .pc tI, .pc (.sl T0), .pc (.sl T0), .pc tI, .pc tI, .pc tI], .box 92 [.pc tI, .pc tI, .pc tI, .pc tI, .pc tI, .pc tI, .pc tI, .pc tI, .pc tI, .pc tI]]
theorem lo75x0 : loopsOf (b75x0) = [] := by kernel_rfl
def Z75x0 {α : Type} (l : RO mp75x0 → α) (an : α → α → α) (x : (patsTy mp75x0).den) (it : Ty.den T1) : α := bif (decide (it.1 = it.2.1)) then bif (decide (((0 : Int) ≤ it.1) ∧ (it.1 < (10 : Int)))) then bif (decide ((0 + ((Int.toNat it.1) * 1)) < 10)) then bif (decide (((0 : Int) ≤ it.1) ∧ (it.1 < (10 : Int)))) then bif (decide ((1 = 1) ∧ (((0 + ((Int.toNat it.1) * 1)) + 1) ≤ 10))) then l (.next ((), ((), ((), ((), (x.2.2.2.2.1, (x.2.2.2.2.2.1, ((x.2.2.2.2.2.2.1.1, (x.2.2.2.2.2.2.1.2.1, (x.2.2.2.2.2.2.1.2.2.1, (x.2.2.2.2.2.2.1.2.2.2.1, ((W (x.2.2.2.2.2.2.1.2.2.2.2.1 + (1 : Int))), ((W (x.2.2.2.2.2.2.1.2.2.2.2.2.1 + (1 : Int))), x.2.2.2.2.2.2.1.2.2.2.2.2.2)))))), (((bif ((Nat.ble (0 + ((Int.toNat it.1) * 1)) 0) && (Nat.blt 0 ((0 + ((Int.toNat it.1) * 1)) + 1))) then (List.getD [(W ((List.getD [x.2.2.2.2.2.2.2.1.1, x.2.2.2.2.2.2.2.1.2.1, x.2.2.2.2.2.2.2.1.2.2.1, x.2.2.2.2.2.2.2.1.2.2.2.1, x.2.2.2.2.2.2.2.1.2.2.2.2.1, x.2.2.2.2.2.2.2.1.2.2.2.2.2.1, x.2.2.2.2.2.2.2.1.2.2.2.2.2.2.1, x.2.2.2.2.2.2.2.1.2.2.2.2.2.2.2.1, x.2.2.2.2.2.2.2.1.2.2.2.2.2.2.2.2.1, x.2.2.2.2.2.2.2.1.2.2.2.2.2.2.2.2.2.1] (0 + ((Int.toNat it.1) * 1)) x.2.2.2.2.2.2.2.1.1) + (1 : Int)))] (0 - (0 + ((Int.toNat it.1) * 1))) x.2.2.2.2.2.2.2.1.1) else x.2.2.2.2.2.2.2.1.1), ((bif ((Nat.ble (0 + ((Int.toNat it.1) * 1)) 1) && (Nat.blt 1 ((0 + ((Int.toNat it.1) * 1)) + 1))) then (List.getD [(W ((List.getD [x.2.2.2.2.2.2.2.1.1, x.2.2.2.2.2.2.2.1.2.1, x.2.2.2.2.2.2.2.1.2.2.1, x.2.2.2.2.2.2.2.1.2.2.2.1, x.2.2.2.2.2.2.2.1.2.2.2.2.1, x.2.2.2.2.2.2.2.1.2.2.2.2.2.1, x.2.2.2.2.2.2.2.1.2.2.2.2.2.2.1, x.2.2.2.2.2.2.2.1.2.2.2.2.2.2.2.1, x.2.2.2.2.2.2.2.1.2.2.2.2.2.2.2.2.1, x.2.2.2.2.2.2.2.1.2.2.2.2.2.2.2.2.2.1] (0 + ((Int.toNat it.1) * 1)) x.2.2.2.2.2.2.2.1.1) + (1 : Int)))] (1 - (0 + ((Int.toNat it.1) * 1))) x.2.2.2.2.2.2.2.1.1) else x.2.2.2.2.2.2.2.1.2.1), ((bif ((Nat.ble (0 + ((Int.toNat it.1) * 1)) 2) && (Nat.blt 2 ((0 + ((Int.toNat it.1) * 1)) + 1))) then (List.getD [(W ((List.getD [x.2.2.2.2.2.2.2.1.1, x.2.2.2.2.2.2.2.1.2.1, x.2.2.2.2.2.2.2.1.2.2.1, x.2.2.2.2.2.2.2.1.2.2.2.1, x.2.2.2.2.2.2.2.1.2.2.2.2.1, x.2.2.2.2.2.2.2.1.2.2.2.2.2.1, x.2.2.2.2.2.2.2.1.2.2.2.2.2.2.1, x.2.2.2.2.2.2.2.1.2.2.2.2.2.2.2.1, x.2.2.2.2.2.2.2.1.2.2.2.2.2.2.2.2.1, x.2.2.2.2.2.2.2.1.2.2.2.2.2.2.2.2.2.1] (0 + ((Int.toNat it.1) * 1)) x.2.2.2.2.2.2.2.1.1) + (1 : Int)))] (2 - (0 + ((Int.toNat it.1) * 1))) x.2.2.2.2.2.2.2.1.1) else x.2.2.2.2.2.2.2.1.2.2.1), ((bif ((Nat.ble (0 + ((Int.toNat it.1) * 1)) 3) && (Nat.blt 3 ((0 + ((Int.toNat it.1) * 1)) + 1))) then (List.getD [(W ((List.getD [x.2.2.2.2.2.2.2.1.1, x.2.2.2.2.2.2.2.1.2.1, x.2.2.2.2.2.2.2.1.2.2.1, x.2.2.2.2.2.2.2.1.2.2.2.1, x.2.2.2.2.2.2.2.1.2.2.2.2.1, x.2.2.2.2.2.2.2.1.2.2.2.2.2.1, x.2.2.2.2.2.2.2.1.2.2.2.2.2.2.1, x.2.2.2.2.2.2.2.1.2.2.2.2.2.2.2.1, x.2.2.2.2.2.2.2.1.2.2.2.2.2.2.2.2.1, x.2.2.2.2.2.2.2.1.2.2.2.2.2.2.2.2.2.1] (0 + ((Int.toNat it.1) * 1)) x.2.2.2.2.2.2.2.1.1) + (1 : Int)))] (3 - (0 + ((Int.toNat it.1) * 1))) x.2.2.2.2.2.2.2.1.1) else x.2.2.2.2.2.2.2.1.2.2.2.1), ((bif ((Nat.ble (0 + ((Int.toNat it.1) * 1)) 4) && (Nat.blt 4 ((0 + ((Int.toNat it.1) * 1)) + 1))) then (List.getD [(W ((List.getD [x.2.2.2.2.2.2.2.1.1, x.2.2.2.2.2.2.2.1.2.1, x.2.2.2.2.2.2.2.1.2.2.1, x.2.2.2.2.2.2.2.1.2.2.2.1, x.2.2.2.2.2.2.2.1.2.2.2.2.1, x.2.2.2.2.2.2.2.1.2.2.2.2.2.1, x.2.2.2.2.2.2.2.1.2.2.2.2.2.2.1, x.2.2.2.2.2.2.2.1.2.2.2.2.2.2.2.1, x.2.2.2.2.2.2.2.1.2.2.2.2.2.2.2.2.1, x.2.2.2.2.2.2.2.1.2.2.2.2.2.2.2.2.2.1] (0 + ((Int.toNat it.1) * 1)) x.2.2.2.2.2.2.2.1.1) + (1 : Int)))] (4 - (0 + ((Int.toNat it.1) * 1))) x.2.2.2.2.2.2.2.1.1) else x.2.2.2.2.2.2.2.1.2.2.2.2.1), ((bif ((Nat.ble (0 + ((Int.toNat it.1) * 1)) 5) && (Nat.blt 5 ((0 + ((Int.toNat it.1) * 1)) + 1))) then (List.getD [(W ((List.getD [x.2.2.2.2.2.2.2.1.1, x.2.2.2.2.2.2.2.1.2.1, x.2.2.2.2.2.2.2.1.2.2.1, x.2.2.2.2.2.2.2.1.2.2.2.1, x.2.2.2.2.2.2.2.1.2.2.2.2.1, x.2.2.2.2.2.2.2.1.2.2.2.2.2.1, x.2.2.2.2.2.2.2.1.2.2.2.2.2.2.1, x.2.2.2.2.2.2.2.1.2.2.2.2.2.2.2.1, x.2.2.2.2.2.2.2.1.2.2.2.2.2.2.2.2.1, x.2.2.2.2.2.2.2.1.2.2.2.2.2.2.2.2.2.1] (0 + ((Int.toNat it.1) * 1)) x.2.2.2.2.2.2.2.1.1) + (1 : Int)))] (5 - (0 + ((Int.toNat it.1) * 1))) x.2.2.2.2.2.2.2.1.1) else x.2.2.2.2.2.2.2.1.2.2.2.2.2.1), ((bif ((Nat.ble (0 + ((Int.toNat it.1) * 1)) 6) && (Nat.blt 6 ((0 + ((Int.toNat it.1) * 1)) + 1))) then (List.getD [(W ((List.getD [x.2.2.2.2.2.2.2.1.1, x.2.2.2.2.2.2.2.1.2.1, x.2.2.2.2.2.2.2.1.2.2.1, x.2.2.2.2.2.2.2.1.2.2.2.1, x.2.2.2.2.2.2.2.1.2.2.2.2.1, x.2.2.2.2.2.2.2.1.2.2.2.2.2.1, x.2.2.2.2.2.2.2.1.2.2.2.2.2.2.1, x.2.2.2.2.2.2.2.1.2.2.2.2.2.2.2.1, x.2.2.2.2.2.2.2.1.2.2.2.2.2.2.2.2.1, x.2.2.2.2.2.2.2.1.2.2.2.2.2.2.2.2.2.1] (0 + ((Int.toNat it.1) * 1)) x.2.2.2.2.2.2.2.1.1) + (1 : Int)))] (6 - (0 + ((Int.toNat it.1) * 1))) x.2.2.2.2.2.2.2.1.1) else x.2.2.2.2.2.2.2.1.2.2.2.2.2.2.1), ((bif ((Nat.ble (0 + ((Int.toNat it.1) * 1)) 7) && (Nat.blt 7 ((0 + ((Int.toNat it.1) * 1)) + 1))) then (List.getD [(W ((List.getD [x.2.2.2.2.2.2.2.1.1, x.2.2.2.2.2.2.2.1.2.1, x.2.2.2.2.2.2.2.1.2.2.1, x.2.2.2.2.2.2.2.1.2.2.2.1, x.2.2.2.2.2.2.2.1.2.2.2.2.1, x.2.2.2.2.2.2.2.1.2.2.2.2.2.1, x.2.2.2.2.2.2.2.1.2.2.2.2.2.2.1, x.2.2.2.2.2.2.2.1.2.2.2.2.2.2.2.1, x.2.2.2.2.2.2.2.1.2.2.2.2.2.2.2.2.1, x.2.2.2.2.2.2.2.1.2.2.2.2.2.2.2.2.2.1] (0 + ((Int.toNat it.1) * 1)) x.2.2.2.2.2.2.2.1.1) + (1 : Int)))] (7 - (0 + ((Int.toNat it.1) * 1))) x.2.2.2.2.2.2.2.1.1) else x.2.2.2.2.2.2.2.1.2.2.2.2.2.2.2.1), ((bif ((Nat.ble (0 + ((Int.toNat it.1) * 1)) 8) && (Nat.blt 8 ((0 + ((Int.toNat it.1) * 1)) + 1))) then (List.getD [(W ((List.getD [x.2.2.2.2.2.2.2.1.1, x.2.2.2.2.2.2.2.1.2.1, x.2.2.2.2.2.2.2.1.2.2.1, x.2.2.2.2.2.2.2.1.2.2.2.1, x.2.2.2.2.2.2.2.1.2.2.2.2.1, x.2.2.2.2.2.2.2.1.2.2.2.2.2.1, x.2.2.2.2.2.2.2.1.2.2.2.2.2.2.1, x.2.2.2.2.2.2.2.1.2.2.2.2.2.2.2.1, x.2.2.2.2.2.2.2.1.2.2.2.2.2.2.2.2.1, x.2.2.2.2.2.2.2.1.2.2.2.2.2.2.2.2.2.1] (0 + ((Int.toNat it.1) * 1)) x.2.2.2.2.2.2.2.1.1) + (1 : Int)))] (8 - (0 + ((Int.toNat it.1) * 1))) x.2.2.2.2.2.2.2.1.1) else x.2.2.2.2.2.2.2.1.2.2.2.2.2.2.2.2.1), ((bif ((Nat.ble (0 + ((Int.toNat it.1) * 1)) 9) && (Nat.blt 9 ((0 + ((Int.toNat it.1) * 1)) + 1))) then (List.getD [(W ((List.getD [x.2.2.2.2.2.2.2.1.1, x.2.2.2.2.2.2.2.1.2.1, x.2.2.2.2.2.2.2.1.2.2.1, x.2.2.2.2.2.2.2.1.2.2.2.1, x.2.2.2.2.2.2.2.1.2.2.2.2.1, x.2.2.2.2.2.2.2.1.2.2.2.2.2.1, x.2.2.2.2.2.2.2.1.2.2.2.2.2.2.1, x.2.2.2.2.2.2.2.1.2.2.2.2.2.2.2.1, x.2.2.2.2.2.2.2.1.2.2.2.2.2.2.2.2.1, x.2.2.2.2.2.2.2.1.2.2.2.2.2.2.2.2.2.1] (0 + ((Int.toNat it.1) * 1)) x.2.2.2.2.2.2.2.1.1) + (1 : Int)))] (9 - (0 + ((Int.toNat it.1) * 1))) x.2.2.2.2.2.2.2.1.1) else x.2.2.2.2.2.2.2.1.2.2.2.2.2.2.2.2.2.1), ())))))))))), ()))))))))) else l .bad else l .bad else l .bad else l .bad else bif (decide (((0 : Int) ≤ it.1) ∧ (it.1 < (10 : Int)))) then bif (decide ((0 + ((Int.toNat it.1) * 1)) < 10)) then bif (decide (((0 : Int) ≤ it.1) ∧ (it.1 < (10 : Int)))) then bif (decide ((1 = 1) ∧ (((0 + ((Int.toNat it.1) * 1)) + 1) ≤ 10))) then l (.next ((), ((), ((), ((), (x.2.2.2.2.1, (x.2.2.2.2.2.1, ((x.2.2.2.2.2.2.1.1, (x.2.2.2.2.2.2.1.2.1, (x.2.2.2.2.2.2.1.2.2.1, (x.2.2.2.2.2.2.1.2.2.2.1, ((W (x.2.2.2.2.2.2.1.2.2.2.2.1 + (1 : Int))), x.2.2.2.2.2.2.1.2.2.2.2.2))))), (((bif ((Nat.ble (0 + ((Int.toNat it.1) * 1)) 0) && (Nat.blt 0 ((0 + ((Int.toNat it.1) * 1)) + 1))) then (List.getD [(W ((List.getD [x.2.2.2.2.2.2.2.1.1, x.2.2.2.2.2.2.2.1.2.1, x.2.2.2.2.2.2.2.1.2.2.1, x.2.2.2.2.2.2.2.1.2.2.2.1, x.2.2.2.2.2.2.2.1.2.2.2.2.1, x.2.2.2.2.2.2.2.1.2.2.2.2.2.1, x.2.2.2.2.2.2.2.1.2.2.2.2.2.2.1, x.2.2.2.2.2.2.2.1.2.2.2.2.2.2.2.1, x.2.2.2.2.2.2.2.1.2.2.2.2.2.2.2.2.1, x.2.2.2.2.2.2.2.1.2.2.2.2.2.2.2.2.2.1] (0 + ((Int.toNat it.1) * 1)) x.2.2.2.2.2.2.2.1.1) + (1 : Int)))] (0 - (0 + ((Int.toNat it.1) * 1))) x.2.2.2.2.2.2.2.1.1) else x.2.2.2.2.2.2.2.1.1), ((bif ((Nat.ble (0 + ((Int.toNat it.1) * 1)) 1) && (Nat.blt 1 ((0 + ((Int.toNat it.1) * 1)) + 1))) then (List.getD [(W ((List.getD [x.2.2.2.2.2.2.2.1.1, x.2.2.2.2.2.2.2.1.2.1, x.2.2.2.2.2.2.2.1.2.2.1, x.2.2.2.2.2.2.2.1.2.2.2.1, x.2.2.2.2.2.2.2.1.2.2.2.2.1, x.2.2.2.2.2.2.2.1.2.2.2.2.2.1, x.2.2.2.2.2.2.2.1.2.2.2.2.2.2.1, x.2.2.2.2.2.2.2.1.2.2.2.2.2.2.2.1, x.2.2.2.2.2.2.2.1.2.2.2.2.2.2.2.2.1, x.2.2.2.2.2.2.2.1.2.2.2.2.2.2.2.2.2.1] (0 + ((Int.toNat it.1) * 1)) x.2.2.2.2.2.2.2.1.1) + (1 : Int)))] (1 - (0 + ((Int.toNat it.1) * 1))) x.2.2.2.2.2.2.2.1.1) else x.2.2.2.2.2.2.2.1.2.1), ((bif ((Nat.ble (0 + ((Int.toNat it.1) * 1)) 2) && (Nat.blt 2 ((0 + ((Int.toNat it.1) * 1)) + 1))) then (List.getD [(W ((List.getD [x.2.2.2.2.2.2.2.1.1, x.2.2.2.2.2.2.2.1.2.1, x.2.2.2.2.2.2.2.1.2.2.1, x.2.2.2.2.2.2.2.1.2.2.2.1, x.2.2.2.2.2.2.2.1.2.2.2.2.1, x.2.2.2.2.2.2.2.1.2.2.2.2.2.1, x.2.2.2.2.2.2.2.1.2.2.2.2.2.2.1, x.2.2.2.2.2.2.2.1.2.2.2.2.2.2.2.1, x.2.2.2.2.2.2.2.1.2.2.2.2.2.2.2.2.1, x.2.2.2.2.2.2.2.1.2.2.2.2.2.2.2.2.2.1] (0 + ((Int.toNat it.1) * 1)) x.2.2.2.2.2.2.2.1.1) + (1 : Int)))] (2 - (0 + ((Int.toNat it.1) * 1))) x.2.2.2.2.2.2.2.1.1) else x.2.2.2.2.2.2.2.1.2.2.1), ((bif ((Nat.ble (0 + ((Int.toNat it.1) * 1)) 3) && (Nat.blt 3 ((0 + ((Int.toNat it.1) * 1)) + 1))) then (List.getD [(W ((List.getD [x.2.2.2.2.2.2.2.1.1, x.2.2.2.2.2.2.2.1.2.1, x.2.2.2.2.2.2.2.1.2.2.1, x.2.2.2.2.2.2.2.1.2.2.2.1, x.2.2.2.2.2.2.2.1.2.2.2.2.1, x.2.2.2.2.2.2.2.1.2.2.2.2.2.1, x.2.2.2.2.2.2.2.1.2.2.2.2.2.2.1, x.2.2.2.2.2.2.2.1.2.2.2.2.2.2.2.1, x.2.2.2.2.2.2.2.1.2.2.2.2.2.2.2.2.1, x.2.2.2.2.2.2.2.1.2.2.2.2.2.2.2.2.2.1] (0 + ((Int.toNat it.1) * 1)) x.2.2.2.2.2.2.2.1.1) + (1 : Int)))] (3 - (0 + ((Int.toNat it.1) * 1))) x.2.2.2.2.2.2.2.1.1) else x.2.2.2.2.2.2.2.1.2.2.2.1), ((bif ((Nat.ble (0 + ((Int.toNat it.1) * 1)) 4) && (Nat.blt 4 ((0 + ((Int.toNat it.1) * 1)) + 1))) then (List.getD [(W ((List.getD [x.2.2.2.2.2.2.2.1.1, x.2.2.2.2.2.2.2.1.2.1, x.2.2.2.2.2.2.2.1.2.2.1, x.2.2.2.2.2.2.2.1.2.2.2.1, x.2.2.2.2.2.2.2.1.2.2.2.2.1, x.2.2.2.2.2.2.2.1.2.2.2.2.2.1, x.2.2.2.2.2.2.2.1.2.2.2.2.2.2.1, x.2.2.2.2.2.2.2.1.2.2.2.2.2.2.2.1, x.2.2.2.2.2.2.2.1.2.2.2.2.2.2.2.2.1, x.2.2.2.2.2.2.2.1.2.2.2.2.2.2.2.2.2.1] (0 + ((Int.toNat it.1) * 1)) x.2.2.2.2.2.2.2.1.1) + (1 : Int)))] (4 - (0 + ((Int.toNat it.1) * 1))) x.2.2.2.2.2.2.2.1.1) else x.2.2.2.2.2.2.2.1.2.2.2.2.1), ((bif ((Nat.ble (0 + ((Int.toNat it.1) * 1)) 5) && (Nat.blt 5 ((0 + ((Int.toNat it.1) * 1)) + 1))) then (List.getD [(W ((List.getD [x.2.2.2.2.2.2.2.1.1, x.2.2.2.2.2.2.2.1.2.1, x.2.2.2.2.2.2.2.1.2.2.1, x.2.2.2.2.2.2.2.1.2.2.2.1, x.2.2.2.2.2.2.2.1.2.2.2.2.1, x.2.2.2.2.2.2.2.1.2.2.2.2.2.1, x.2.2.2.2.2.2.2.1.2.2.2.2.2.2.1, x.2.2.2.2.2.2.2.1.2.2.2.2.2.2.2.1, x.2.2.2.2.2.2.2.1.2.2.2.2.2.2.2.2.1, x.2.2.2.2.2.2.2.1.2.2.2.2.2.2.2.2.2.1] (0 + ((Int.toNat it.1) * 1)) x.2.2.2.2.2.2.2.1.1) + (1 : Int)))] (5 - (0 + ((Int.toNat it.1) * 1))) x.2.2.2.2.2.2.2.1.1) else x.2.2.2.2.2.2.2.1.2.2.2.2.2.1), ((bif ((Nat.ble (0 + ((Int.toNat it.1) * 1)) 6) && (Nat.blt 6 ((0 + ((Int.toNat it.1) * 1)) + 1))) then (List.getD [(W ((List.getD [x.2.2.2.2.2.2.2.1.1, x.2.2.2.2.2.2.2.1.2.1, x.2.2.2.2.2.2.2.1.2.2.1, x.2.2.2.2.2.2.2.1.2.2.2.1, x.2.2.2.2.2.2.2.1.2.2.2.2.1, x.2.2.2.2.2.2.2.1.2.2.2.2.2.1, x.2.2.2.2.2.2.2.1.2.2.2.2.2.2.1, x.2.2.2.2.2.2.2.1.2.2.2.2.2.2.2.1, x.2.2.2.2.2.2.2.1.2.2.2.2.2.2.2.2.1, x.2.2.2.2.2.2.2.1.2.2.2.2.2.2.2.2.2.1] (0 + ((Int.toNat it.1) * 1)) x.2.2.2.2.2.2.2.1.1) + (1 : Int)))] (6 - (0 + ((Int.toNat it.1) * 1))) x.2.2.2.2.2.2.2.1.1) else x.2.2.2.2.2.2.2.1.2.2.2.2.2.2.1), ((bif ((Nat.ble (0 + ((Int.toNat it.1) * 1)) 7) && (Nat.blt 7 ((0 + ((Int.toNat it.1) * 1)) + 1))) then (List.getD [(W ((List.getD [x.2.2.2.2.2.2.2.1.1, x.2.2.2.2.2.2.2.1.2.1, x.2.2.2.2.2.2.2.1.2.2.1, x.2.2.2.2.2.2.2.1.2.2.2.1, x.2.2.2.2.2.2.2.1.2.2.2.2.1, x.2.2.2.2.2.2.2.1.2.2.2.2.2.1, x.2.2.2.2.2.2.2.1.2.2.2.2.2.2.1, x.2.2.2.2.2.2.2.1.2.2.2.2.2.2.2.1, x.2.2.2.2.2.2.2.1.2.2.2.2.2.2.2.2.1, x.2.2.2.2.2.2.2.1.2.2.2.2.2.2.2.2.2.1] (0 + ((Int.toNat it.1) * 1)) x.2.2.2.2.2.2.2.1.1) + (1 : Int)))] (7 - (0 + ((Int.toNat it.1) * 1))) x.2.2.2.2.2.2.2.1.1) else x.2.2.2.2.2.2.2.1.2.2.2.2.2.2.2.1), ((bif ((Nat.ble (0 + ((Int.toNat it.1) * 1)) 8) && (Nat.blt 8 ((0 + ((Int.toNat it.1) * 1)) + 1))) then (List.getD [(W ((List.getD [x.2.2.2.2.2.2.2.1.1, x.2.2.2.2.2.2.2.1.2.1, x.2.2.2.2.2.2.2.1.2.2.1, x.2.2.2.2.2.2.2.1.2.2.2.1, x.2.2.2.2.2.2.2.1.2.2.2.2.1, x.2.2.2.2.2.2.2.1.2.2.2.2.2.1, x.2.2.2.2.2.2.2.1.2.2.2.2.2.2.1, x.2.2.2.2.2.2.2.1.2.2.2.2.2.2.2.1, x.2.2.2.2.2.2.2.1.2.2.2.2.2.2.2.2.1, x.2.2.2.2.2.2.2.1.2.2.2.2.2.2.2.2.2.1] (0 + ((Int.toNat it.1) * 1)) x.2.2.2.2.2.2.2.1.1) + (1 : Int)))] (8 - (0 + ((Int.toNat it.1) * 1))) x.2.2.2.2.2.2.2.1.1) else x.2.2.2.2.2.2.2.1.2.2.2.2.2.2.2.2.1), ((bif ((Nat.ble (0 + ((Int.toNat it.1) * 1)) 9) && (Nat.blt 9 ((0 + ((Int.toNat it.1) * 1)) + 1))) then (List.getD [(W ((List.getD [x.2.2.2.2.2.2.2.1.1, x.2.2.2.2.2.2.2.1.2.1, x.2.2.2.2.2.2.2.1.2.2.1, x.2.2.2.2.2.2.2.1.2.2.2.1, x.2.2.2.2.2.2.2.1.2.2.2.2.1, x.2.2.2.2.2.2.2.1.2.2.2.2.2.1, x.2.2.2.2.2.2.2.1.2.2.2.2.2.2.1, x.2.2.2.2.2.2.2.1.2.2.2.2.2.2.2.1, x.2.2.2.2.2.2.2.1.2.2.2.2.2.2.2.2.1, x.2.2.2.2.2.2.2.1.2.2.2.2.2.2.2.2.2.1] (0 + ((Int.toNat it.1) * 1)) x.2.2.2.2.2.2.2.1.1) + (1 : Int)))] (9 - (0 + ((Int.toNat it.1) * 1))) x.2.2.2.2.2.2.2.1.1) else x.2.2.2.2.2.2.2.1.2.2.2.2.2.2.2.2.2.1), ())))))))))), ()))))))))) else l .bad else l .bad else l .bad else l .bad
theorem z75x0 (x : (patsTy mp75x0).den) (it : Ty.den T1) : stepR Try.prog E0 G75 0 500000 44 [12, 13] as75x0 b75x0 [] [] T1 mp75x0 x it = Z75x0 .leaf .any x it := by kernel_rfl
def S75x0 (x : (patsTy mp75x0).den) (it : Ty.den T1) : RO mp75x0 := Z75x0 (fun r => r) (fun _ _ => .bad) x it
theorem s75x0 (x : (patsTy mp75x0).den) (it : Ty.den T1) : (stepR Try.prog E0 G75 0 500000 44 [12, 13] as75x0 b75x0 [] [] T1 mp75x0 x it).detB .bad = S75x0 x it := by rw [z75x0]; unfold S75x0 Z75x0; simp only [detB_cond, Tree.detB, detB_cl, detB_onExit, detB_onRet, detB_onPanL, detB_onNext, detB_onBrk, detB_onRetO, detB_onPan, detB_onOk, detB_onGPan]
def L75x0 (x : (patsTy mp75x0).den) (l : List (Ty.den T1)) : RO mp75x0 := runAllD S75x0 x l
noncomputable def b75x1 : Code := loopBody ((loopsOf (c75))[1]?)
theorem lo75x1 : loopsOf (b75x1) = [] := by kernel_rfl
abbrev cs75x1 : List Pat := [.slot 2 (.ptr 2), .slot 3 (.ptr 47), .slot 4 (.ptr 92), .slot 31 (.pc tI), .box 2 [.pc tI, .pc tI, .own 1003002 3 T0, .own 1003003 3 T0, .pc tI, .pc tI, .pc tI], .box 92 [.pc tI, .pc tI, .pc tI, .pc tI, .pc tI, .pc tI, .pc tI, .pc tI, .pc tI, .pc tI]]
abbrev vs75x1 : List Pat := [.slot 32 (.pc tI), .box 47 [.pc tI, .pc tI, .pc (.sl T0), .pc (.sl T0), .pc tI, .pc tI, .pc tI]]
abbrev ps75x1 : List Pat := [.slot 2 (.ptr 2), .slot 3 (.ptr 47), .slot 4 (.ptr 92), .slot 31 (.pc tI), .box 2 [.pc tI, .pc tI, .own 1003002 3 T0, .own 1003003 3 T0, .pc tI, .pc tI, .pc tI], .box 92 [.pc tI, .pc tI, .pc tI, .pc tI, .pc tI, .pc tI, .pc tI, .pc tI, .pc tI, .pc tI], .slot 32 (.pc tI), .box 47 [.pc tI, .pc tI, .pc (.sl T0), .pc (.sl T0), .pc tI, .pc tI, .pc tI]]
def j75x1 : (patsTy cs75x1).den → (patsTy vs75x1).den → (patsTy ps75x1).den := fun c v => (c.1, (c.2.1, (c.2.2.1, (c.2.2.2.1, (c.2.2.2.2.1, (c.2.2.2.2.2.1, v))))))
def sp75x1 : (patsTy ps75x1).den → (patsTy cs75x1).den × (patsTy vs75x1).den := fun x => ((x.1, (x.2.1, (x.2.2.1, (x.2.2.2.1, (x.2.2.2.2.1, (x.2.2.2.2.2.1, ())))))), x.2.2.2.2.2.2)
abbrev wy75x1 : Ways := ⟨[(2, [.slot 2 (.ptr 2), .slot 3 (.ptr 47), .box 2 [.pc tI, .pc tI, .own 1003002 3 T0, .own 1003003 3 T0, .pc tI, .pc tI, .pc tI], .box 47 [.pc tI, .pc tI, .pc (.sl T0), .pc (.sl T0), .pc tI, .pc tI, .pc tI]])], [], []⟩
abbrev wv75x1 : Ways := ⟨[(2, [.box 47 [.pc tI, .pc tI, .pc (.sl T0), .pc (.sl T0), .pc tI, .pc tI, .pc tI]])], [], []⟩
def je75x1 : (id : Nat) → (patsTy cs75x1).den → (patsTy (wayP wv75x1 id)).den → (patsTy (wayP wy75x1 id)).den := fun id => match id with | 2 => fun c y => (c.1, (c.2.1, (c.2.2.2.2.1, y))) | id => fun _ _ => (patsTy (wayP wy75x1 id)).dflt
def jr75x1 : (patsTy cs75x1).den → (patsTy (wv75x1).ret).den → (patsTy (wy75x1).ret).den := fun c y => y
def jp75x1 : (patsTy cs75x1).den → (patsTy (wv75x1).pan).den → (patsTy (wy75x1).pan).den := fun c y => y
def Z75x1 {α : Type} (l : RQ vs75x1 wv75x1 → α) (an : α → α → α) (c : (patsTy cs75x1).den) (v : (patsTy vs75x1).den) : α := bif (decide (v.1 < c.2.2.2.1)) then bif (decide (((0 : Int) ≤ v.1) ∧ (v.1 < (10 : Int)))) then bif (decide ((0 + ((Int.toNat v.1) * 1)) < 10)) then l (.next ((W (v.1 + (1 : Int))), ((v.2.1.1, (v.2.1.2.1, (v.2.1.2.2.1, (v.2.1.2.2.2.1, (v.2.1.2.2.2.2.1, (v.2.1.2.2.2.2.2.1, ((mx v.2.1.2.2.2.2.2.2.1 (List.getD [c.2.2.2.2.2.1.1, c.2.2.2.2.2.1.2.1, c.2.2.2.2.2.1.2.2.1, c.2.2.2.2.2.1.2.2.2.1, c.2.2.2.2.2.1.2.2.2.2.1, c.2.2.2.2.2.1.2.2.2.2.2.1, c.2.2.2.2.2.1.2.2.2.2.2.2.1, c.2.2.2.2.2.1.2.2.2.2.2.2.2.1, c.2.2.2.2.2.1.2.2.2.2.2.2.2.2.1, c.2.2.2.2.2.1.2.2.2.2.2.2.2.2.2.1] (0 + ((Int.toNat v.1) * 1)) c.2.2.2.2.2.1.1)), ()))))))), ()))) else l .bad else l .bad else l (.out (.exit 2 (v.2.1, ())))
theorem z75x1 (c : (patsTy cs75x1).den) (v : (patsTy vs75x1).den) : roundQ Try.prog E0 G75 0 44 [.mark] ps75x1 wy75x1 b75x1 [] (j75x1 c v) = Z75x1 (fun r => .leaf (r.lift j75x1 je75x1 jr75x1 jp75x1 c)) .any c v := by kernel_rfl
def S75x1 (c : (patsTy cs75x1).den) (v : (patsTy vs75x1).den) : RQ vs75x1 wv75x1 := Z75x1 (fun r => r) (fun _ _ => .bad) c v
theorem s75x1 (c : (patsTy cs75x1).den) (v : (patsTy vs75x1).den) : detQ (roundQ Try.prog E0 G75 0 44 [.mark] ps75x1 wy75x1 b75x1 [] (j75x1 c v)) = (S75x1 c v).lift j75x1 je75x1 jr75x1 jp75x1 c := by rw [z75x1]; unfold S75x1 Z75x1; simp only [detQ_cond, lift_cond, lift_bad, detQ, detQ_cl, detQ_onExit, detQ_onRet, detQ_onPanL, detQ_onNext, detQ_onBrk, detQ_onRetO, detQ_onPan, detQ_onOk, detQ_onGPan, lift_cl, lift_onExit, lift_onRet, lift_onPanL, lift_onNext, lift_onBrk, lift_onRetO, lift_onPan, lift_onOk, lift_onGPan]
def L75x1 (c : (patsTy cs75x1).den) (v : (patsTy vs75x1).den) : LQ wv75x1 := iterQ (S75x1 c) big v
theorem lo75 : loopsOf (c75) = [.rangeFunc (.tmp 11) #[12, 13] as75x0 b75x0, .loop b75x1] := by kernel_rfl
noncomputable def l75 : List Loop := [.known (rangeD 0 [] 11 T1 mp75x0 [] [] (fun x l => L75x0 x l)), .known (loopZ 0 [.mark] ps75x1 fun x => spreadV wy75x1 je75x1 jr75x1 jp75x1 [] false (sp75x1 x).1 (L75x1 (sp75x1 x).1 (sp75x1 x).2) wy75x1.exits)]
def Q75 {α : Type} (l : Option (r75).den → α) (an : α → α → α) (x : (a75).den) : α := cl (r96).dflt (M96 (x.1, ())) (fun u0 => onNext (L75x0 ((), ((), ((), ((), (x.1, (((0 : Int), ((0 : Int), ((⟨0, fun i => ((0 : Int), ())⟩ : Sl _), ((⟨0, fun i => ((0 : Int), ())⟩ : Sl _), ((0 : Int), ((0 : Int), ((0 : Int), ()))))))), ((x.1.1, (x.1.2.1, (x.1.2.2.1, (x.1.2.2.2.1, ((0 : Int), ((0 : Int), ((0 : Int), ()))))))), (((0 : Int), ((0 : Int), ((0 : Int), ((0 : Int), ((0 : Int), ((0 : Int), ((0 : Int), ((0 : Int), ((0 : Int), ((0 : Int), ())))))))))), ())))))))) (Sl.list u0.1)) (fun u1 => onExit (L75x1 ((), ((), ((), (u1.2.2.2.2.1.1, (u1.2.2.2.2.2.1, (u1.2.2.2.2.2.2.2.1, ())))))) ((0 : Int), (u1.2.2.2.2.2.2.1, ()))) 2 (fun u2 => l (some (u2.1, ()))) (l none)) (onRetO (L75x0 ((), ((), ((), ((), (x.1, (((0 : Int), ((0 : Int), ((⟨0, fun i => ((0 : Int), ())⟩ : Sl _), ((⟨0, fun i => ((0 : Int), ())⟩ : Sl _), ((0 : Int), ((0 : Int), ((0 : Int), ()))))))), ((x.1.1, (x.1.2.1, (x.1.2.2.1, (x.1.2.2.2.1, ((0 : Int), ((0 : Int), ((0 : Int), ()))))))), (((0 : Int), ((0 : Int), ((0 : Int), ((0 : Int), ((0 : Int), ((0 : Int), ((0 : Int), ((0 : Int), ((0 : Int), ((0 : Int), ())))))))))), ())))))))) (Sl.list u0.1)) (fun u3 => l (some (u3.2.2.2.2.2.1, ()))) (l none))) (l none)
theorem q75 (x : (a75).den) : runFn Try.prog E0 G75 Try.f75 l75 a75 r75 x = Q75 .leaf .any x := by kernel_rfl
def M75 (x : (a75).den) : Option (r75).den := Q75 (fun r => r) (fun _ _ => none) x
theorem m75 (x : (a75).den) : (runFn Try.prog E0 G75 Try.f75 l75 a75 r75 x).sure = M75 x := by rw [q75]; unfold M75 Q75; simp only [sure_cond, Tree.sure, sure_cl, sure_onExit, sure_onRet, sure_onPanL, sure_onNext, sure_onBrk, sure_onRetO, sure_onPan, sure_onOk, sure_onGPan]
def p75 (x : (a75).den) : Bool := (M75 x).isSome
def v75 (x : (a75).den) : (r75).den := (M75 x).getD (r75).dflt
def k75 : Con := ⟨a75, r75, p75, v75⟩
theorem h75 : Holds Try.prog 75 k75 := holds_of_M' (E := E0) follows_ok g75 eqTy_sound keyTy_sound at75 bd75 (by kernel_rfl) m75 fun G' hlo hF hE => LsOK_kn (by rw [lo75]; exact .cons (rangeD_ok hE hF hlo at75 (by kernel_rfl) (by kernel_rfl) (by kernel_rfl) (by kernel_rfl) (by kernel_rfl) (fun G' hlo hF l hE => LsOK_nil) (fun G' hlo hF l hE => LsOK_kn (by rw [lo75x0]; exact .nil)) s75x0) (.cons (loopV_ok hE hF hlo (LsOK_kn (by rw [lo75x1]; exact .nil)) (by kernel_rfl) (by kernel_rfl) sp75x1 (fun _ => rfl) (fun _ _ => rfl) (s75x1) big) (.nil)))
/-- isobar/watch.Judge -/
noncomputable def c34 : Code := Try.f34.body.getD .skip
theorem at34 : Try.prog.funcs[34]? = some Try.f34 := by kernel_rfl
theorem bd34 : Try.f34.body = some c34 := by kernel_rfl
theorem cl34 : Callable Try.prog 34 := callable_of at34 (by kernel_rfl) (by kernel_rfl)
abbrev a34 : Ty := T28
abbrev r34 : Ty := T1
noncomputable def G34 : Ctx := Ctx.of [(69, .pure k69), (72, .pure k72), (74, .pure k74), (75, .pure k75)]
theorem g34 : Sound Try.prog (G34) := sound_of (List.forall_mem_cons.2 ⟨⟨cl69, h69⟩, List.forall_mem_cons.2 ⟨⟨cl72, h72⟩, List.forall_mem_cons.2 ⟨⟨cl74, h74⟩, List.forall_mem_cons.2 ⟨⟨cl75, h75⟩, fun _ h => by cases h⟩⟩⟩⟩)
noncomputable def b34x0 : Code := loopBody ((loopsOf (c34))[0]?)
theorem lo34x0 : loopsOf (b34x0) = [] := by kernel_rfl
theorem lo34 : loopsOf (c34) = [.loop b34x0] := by kernel_rfl
noncomputable def l34 : List Loop := [.unroll 3 []]
def Q34 {α : Type} (l : Option (r34).den → α) (an : α → α → α) (x : (a34).den) : α := cl (r74).dflt (M74 (x.1, ())) (fun u0 => bif (!u0.1) then l (some ((0 : Int), ((2 : Int), ()))) else cl (r75).dflt (M75 (x.1, ())) (fun u1 => cl (r69).dflt (M69 ((x.1.1, (u1.1.2.2.2.2.1, ())), ())) (fun u2 => bif (u2.1.1 (u1.1.2.2.2.2.2.1, ())).1 then cl (r72).dflt (M72 ((x.1.1, (u1.1.2.2.2.2.1, ())), ((u2.1.1 (u1.1.2.2.2.2.2.1, ())).2.1, (u1.1.2.1, ())))) (fun u3 => bif u3.1 then l (some ((3 : Int), ((0 : Int), ()))) else bif (u2.1.2.1 u1.1.2.2.2.2.2.2).1 then cl (r72).dflt (M72 ((x.1.1, (u1.1.2.2.2.2.1, ())), ((u2.1.2.1 u1.1.2.2.2.2.2.2).2.1, (u1.1.2.1, ())))) (fun u4 => bif u4.1 then l (some ((2 : Int), ((0 : Int), ()))) else l (some ((1 : Int), ((0 : Int), ())))) (l none) else l none) (l none) else l none) (l none)) (l none)) (l none)
theorem q34 (x : (a34).den) : runFn Try.prog E0 G34 Try.f34 l34 a34 r34 x = Q34 .leaf .any x := by kernel_rfl
def M34 (x : (a34).den) : Option (r34).den := Q34 (fun r => r) (fun _ _ => none) x
theorem m34 (x : (a34).den) : (runFn Try.prog E0 G34 Try.f34 l34 a34 r34 x).sure = M34 x := by rw [q34]; unfold M34 Q34; simp only [sure_cond, Tree.sure, sure_cl, sure_onExit, sure_onRet, sure_onPanL, sure_onNext, sure_onBrk, sure_onRetO, sure_onPan, sure_onOk, sure_onGPan]
def p34 (x : (a34).den) : Bool := (M34 x).isSome
def v34 (x : (a34).den) : (r34).den := (M34 x).getD (r34).dflt
def k34 : Con := ⟨a34, r34, p34, v34⟩
theorem h34 : Holds Try.prog 34 k34 := holds_of_M' (E := E0) follows_ok g34 eqTy_sound keyTy_sound at34 bd34 (by kernel_rfl) m34 fun G' hlo hF hE => LsOK_kn (by rw [lo34]; exact .unr (LsOK_kn (by rw [lo34x0]; exact .nil)) (.nil))
/-- isobar/watch.Agree -/
noncomputable def c37 : Code := Try.f37.body.getD .skip
theorem at37 : Try.prog.funcs[37]? = some Try.f37 := by kernel_rfl
theorem bd37 : Try.f37.body = some c37 := by kernel_rfl
theorem cl37 : Callable Try.prog 37 := callable_of at37 (by kernel_rfl) (by kernel_rfl)
abbrev T39 : Ty := (.cons tI T2)
abbrev a37 : Ty := T28
abbrev r37 : Ty := T39
noncomputable def G37 : Ctx := Ctx.of [(74, .pure k74), (75, .pure k75)]
theorem g37 : Sound Try.prog (G37) := sound_of (List.forall_mem_cons.2 ⟨⟨cl74, h74⟩, List.forall_mem_cons.2 ⟨⟨cl75, h75⟩, fun _ h => by cases h⟩⟩)
theorem lo37 : loopsOf (c37) = [] := by kernel_rfl
noncomputable def l37 : List Loop := []
def Q37 {α : Type} (l : Option (r37).den → α) (an : α → α → α) (x : (a37).den) : α := cl (r74).dflt (M74 (x.1, ())) (fun u0 => bif (!u0.1) then l (some ((0 : Int), ((0 : Int), ((0 : Int), ((2 : Int), ()))))) else cl (r75).dflt (M75 (x.1, ())) (fun u1 => l (some (u1.1.2.2.2.2.1, (u1.1.2.2.2.2.2.1, (u1.1.2.2.2.2.2.2.1, ((0 : Int), ())))))) (l none)) (l none)
theorem q37 (x : (a37).den) : runFn Try.prog E0 G37 Try.f37 l37 a37 r37 x = Q37 .leaf .any x := by kernel_rfl
def M37 (x : (a37).den) : Option (r37).den := Q37 (fun r => r) (fun _ _ => none) x
theorem m37 (x : (a37).den) : (runFn Try.prog E0 G37 Try.f37 l37 a37 r37 x).sure = M37 x := by rw [q37]; unfold M37 Q37; simp only [sure_cond, Tree.sure, sure_cl, sure_onExit, sure_onRet, sure_onPanL, sure_onNext, sure_onBrk, sure_onRetO, sure_onPan, sure_onOk, sure_onGPan]
def p37 (x : (a37).den) : Bool := (M37 x).isSome
def v37 (x : (a37).den) : (r37).den := (M37 x).getD (r37).dflt
def k37 : Con := ⟨a37, r37, p37, v37⟩
theorem h37 : Holds Try.prog 37 k37 := holds_of_M' (E := E0) follows_ok g37 eqTy_sound keyTy_sound at37 bd37 (by kernel_rfl) m37 fun G' hlo hF hE => LsOK_kn (by rw [lo37]; exact .nil)
/-- slices.IndexFunc[[]isobar/api.Span,isobar/api.Span] -/
noncomputable def c104 : Code := Try.f104.body.getD .skip
theorem at104 : Try.prog.funcs[104]? = some Try.f104 := by kernel_rfl
theorem bd104 : Try.f104.body = some c104 := by kernel_rfl
theorem cl104 : Callable Try.prog 104 := callable_of at104 (by kernel_rfl) (by kernel_rfl)
abbrev T40 : Ty := (.fn T7 T3)
abbrev T41 : Ty := (.cons T40 .nil)
abbrev T42 : Ty := (.cons (.sl T1) T41)
abbrev a104 : Ty := T42
abbrev r104 : Ty := T0
noncomputable def G104 : Ctx := Ctx.of []
theorem g104 : Sound Try.prog (G104) := sound_of (fun _ h => by cases h)
noncomputable def b104x0 : Code := loopBody ((loopsOf (c104))[0]?)
theorem lo104x0 : loopsOf (b104x0) = [] := by kernel_rfl
abbrev cs104x0 : List Pat := [.slot 0 (.pc (.sl T1)), .slot 1 (.pc T40), .slot 7 (.pc tI)]
abbrev vs104x0 : List Pat := [.slot 8 (.pc tI)]
abbrev ps104x0 : List Pat := [.slot 0 (.pc (.sl T1)), .slot 1 (.pc T40), .slot 7 (.pc tI), .slot 8 (.pc tI)]
def j104x0 : (patsTy cs104x0).den → (patsTy vs104x0).den → (patsTy ps104x0).den := fun c v => (c.1, (c.2.1, (c.2.2.1, v)))
def sp104x0 : (patsTy ps104x0).den → (patsTy cs104x0).den × (patsTy vs104x0).den := fun x => ((x.1, (x.2.1, (x.2.2.1, ()))), x.2.2.2)
abbrev wy104x0 : Ways := ⟨[(0, [])], [.slot 4 (.pc tI)], []⟩
abbrev wv104x0 : Ways := ⟨[(0, [])], [.slot 4 (.pc tI)], []⟩
def je104x0 : (id : Nat) → (patsTy cs104x0).den → (patsTy (wayP wv104x0 id)).den → (patsTy (wayP wy104x0 id)).den := fun id => match id with | 0 => fun c y => y | id => fun _ _ => (patsTy (wayP wy104x0 id)).dflt
def jr104x0 : (patsTy cs104x0).den → (patsTy (wv104x0).ret).den → (patsTy (wy104x0).ret).den := fun c y => y
def jp104x0 : (patsTy cs104x0).den → (patsTy (wv104x0).pan).den → (patsTy (wy104x0).pan).den := fun c y => y
def Z104x0 {α : Type} (l : RQ vs104x0 wv104x0 → α) (an : α → α → α) (c : (patsTy cs104x0).den) (v : (patsTy vs104x0).den) : α := bif (decide (v.1 < c.2.2.1)) then bif (decide (((0 : Int) ≤ v.1) ∧ (v.1 < ((c.1.n : Nat) : Int)))) then bif (c.2.1 ((c.1.g (Int.toNat v.1)), ())).1 then bif (c.2.1 ((c.1.g (Int.toNat v.1)), ())).2.1 then l (.out (.ret v)) else l (.next ((W (v.1 + (1 : Int))), ())) else l .bad else l .bad else l (.out (.exit 0 ()))
theorem z104x0 (c : (patsTy cs104x0).den) (v : (patsTy vs104x0).den) : roundQ Try.prog E0 G104 0 19 [] ps104x0 wy104x0 b104x0 [] (j104x0 c v) = Z104x0 (fun r => .leaf (r.lift j104x0 je104x0 jr104x0 jp104x0 c)) .any c v := by kernel_rfl
def S104x0 (c : (patsTy cs104x0).den) (v : (patsTy vs104x0).den) : RQ vs104x0 wv104x0 := Z104x0 (fun r => r) (fun _ _ => .bad) c v
theorem s104x0 (c : (patsTy cs104x0).den) (v : (patsTy vs104x0).den) : detQ (roundQ Try.prog E0 G104 0 19 [] ps104x0 wy104x0 b104x0 [] (j104x0 c v)) = (S104x0 c v).lift j104x0 je104x0 jr104x0 jp104x0 c := by rw [z104x0]; unfold S104x0 Z104x0; simp only [detQ_cond, lift_cond, lift_bad, detQ, detQ_cl, detQ_onExit, detQ_onRet, detQ_onPanL, detQ_onNext, detQ_onBrk, detQ_onRetO, detQ_onPan, detQ_onOk, detQ_onGPan, lift_cl, lift_onExit, lift_onRet, lift_onPanL, lift_onNext, lift_onBrk, lift_onRetO, lift_onPan, lift_onOk, lift_onGPan]
def L104x0 (c : (patsTy cs104x0).den) (v : (patsTy vs104x0).den) : LQ wv104x0 := iterQ (S104x0 c) big v
theorem lo104 : loopsOf (c104) = [.loop b104x0] := by kernel_rfl
noncomputable def l104 : List Loop := [.known (loopZ 0 [] ps104x0 fun x => spreadV wy104x0 je104x0 jr104x0 jp104x0 [] true (sp104x0 x).1 (L104x0 (sp104x0 x).1 (sp104x0 x).2) wy104x0.exits)]
def Q104 {α : Type} (l : Option (r104).den → α) (an : α → α → α) (x : (a104).den) : α := onExit (L104x0 (x.1, (x.2.1, (((x.1.n : Nat) : Int), ()))) ((0 : Int), ())) 0 (fun u0 => l (some ((-1 : Int), ()))) (onRet (L104x0 (x.1, (x.2.1, (((x.1.n : Nat) : Int), ()))) ((0 : Int), ())) (fun u1 => l (some u1)) (l none))
theorem q104 (x : (a104).den) : runFn Try.prog E0 G104 Try.f104 l104 a104 r104 x = Q104 .leaf .any x := by kernel_rfl
def M104 (x : (a104).den) : Option (r104).den := Q104 (fun r => r) (fun _ _ => none) x
theorem m104 (x : (a104).den) : (runFn Try.prog E0 G104 Try.f104 l104 a104 r104 x).sure = M104 x := by rw [q104]; unfold M104 Q104; simp only [sure_cond, Tree.sure, sure_cl, sure_onExit, sure_onRet, sure_onPanL, sure_onNext, sure_onBrk, sure_onRetO, sure_onPan, sure_onOk, sure_onGPan]
def p104 (x : (a104).den) : Bool := (M104 x).isSome
def v104 (x : (a104).den) : (r104).den := (M104 x).getD (r104).dflt
def k104 : Con := ⟨a104, r104, p104, v104⟩
theorem h104 : Holds Try.prog 104 k104 := holds_of_M' (E := E0) follows_ok g104 eqTy_sound keyTy_sound at104 bd104 (by kernel_rfl) m104 fun G' hlo hF hE => LsOK_kn (by rw [lo104]; exact .cons (loopV_ok hE hF hlo (LsOK_kn (by rw [lo104x0]; exact .nil)) (by kernel_rfl) (by kernel_rfl) sp104x0 (fun _ => rfl) (fun _ _ => rfl) (s104x0) big) (.nil))
/-- slices.ContainsFunc[[]isobar/api.Span,isobar/api.Span] -/
noncomputable def c97 : Code := Try.f97.body.getD .skip
theorem at97 : Try.prog.funcs[97]? = some Try.f97 := by kernel_rfl
theorem bd97 : Try.f97.body = some c97 := by kernel_rfl
theorem cl97 : Callable Try.prog 97 := callable_of at97 (by kernel_rfl) (by kernel_rfl)
abbrev a97 : Ty := T42
abbrev r97 : Ty := T3
noncomputable def G97 : Ctx := Ctx.of [(104, .pure k104)]
theorem g97 : Sound Try.prog (G97) := sound_of (List.forall_mem_cons.2 ⟨⟨cl104, h104⟩, fun _ h => by cases h⟩)
theorem lo97 : loopsOf (c97) = [] := by kernel_rfl
noncomputable def l97 : List Loop := []
def Q97 {α : Type} (l : Option (r97).den → α) (an : α → α → α) (x : (a97).den) : α := cl (r104).dflt (M104 x) (fun u0 => l (some ((decide ((0 : Int) ≤ u0.1)), ()))) (l none)
theorem q97 (x : (a97).den) : runFn Try.prog E0 G97 Try.f97 l97 a97 r97 x = Q97 .leaf .any x := by kernel_rfl
def M97 (x : (a97).den) : Option (r97).den := Q97 (fun r => r) (fun _ _ => none) x
theorem m97 (x : (a97).den) : (runFn Try.prog E0 G97 Try.f97 l97 a97 r97 x).sure = M97 x := by rw [q97]; unfold M97 Q97; simp only [sure_cond, Tree.sure, sure_cl, sure_onExit, sure_onRet, sure_onPanL, sure_onNext, sure_onBrk, sure_onRetO, sure_onPan, sure_onOk, sure_onGPan]
def p97 (x : (a97).den) : Bool := (M97 x).isSome
def v97 (x : (a97).den) : (r97).den := (M97 x).getD (r97).dflt
def k97 : Con := ⟨a97, r97, p97, v97⟩
theorem h97 : Holds Try.prog 97 k97 := holds_of_M' (E := E0) follows_ok g97 eqTy_sound keyTy_sound at97 bd97 (by kernel_rfl) m97 fun G' hlo hF hE => LsOK_kn (by rw [lo97]; exact .nil)
/-- isobar/watch.validRound$1 -/
noncomputable def c98 : Code := Try.f98.body.getD .skip
theorem at98 : Try.prog.funcs[98]? = some Try.f98 := by kernel_rfl
theorem bd98 : Try.f98.body = some c98 := by kernel_rfl
theorem cl98 : Callable Try.prog 98 := callable_of at98 (by kernel_rfl) (by kernel_rfl)
abbrev a98 : Ty := T7
abbrev r98 : Ty := T3
noncomputable def G98 : Ctx := Ctx.of []
theorem g98 : Sound Try.prog (G98) := sound_of (fun _ h => by cases h)
theorem lo98 : loopsOf (c98) = [] := by kernel_rfl
noncomputable def l98 : List Loop := []
def Q98 {α : Type} (l : Option (r98).den → α) (an : α → α → α) (x : (a98).den) : α := bif (decide (x.1.1 < (0 : Int))) then l (some (true, ())) else bif (decide (x.1.2.1 < x.1.1)) then l (some (true, ())) else l (some ((decide ((60 : Int) < x.1.2.1)), ()))
theorem q98 (x : (a98).den) : runFn Try.prog E0 G98 Try.f98 l98 a98 r98 x = Q98 .leaf .any x := by kernel_rfl
def M98 (x : (a98).den) : Option (r98).den := Q98 (fun r => r) (fun _ _ => none) x
theorem m98 (x : (a98).den) : (runFn Try.prog E0 G98 Try.f98 l98 a98 r98 x).sure = M98 x := by rw [q98]; unfold M98 Q98; simp only [sure_cond, Tree.sure, sure_cl, sure_onExit, sure_onRet, sure_onPanL, sure_onNext, sure_onBrk, sure_onRetO, sure_onPan, sure_onOk, sure_onGPan]
def p98 (x : (a98).den) : Bool := (M98 x).isSome
def v98 (x : (a98).den) : (r98).den := (M98 x).getD (r98).dflt
def k98 : Con := ⟨a98, r98, p98, v98⟩
theorem h98 : Holds Try.prog 98 k98 := holds_of_M' (E := E0) follows_ok g98 eqTy_sound keyTy_sound at98 bd98 (by kernel_rfl) m98 fun G' hlo hF hE => LsOK_kn (by rw [lo98]; exact .nil)
/-- isobar/watch.validRound -/
noncomputable def c77 : Code := Try.f77.body.getD .skip
theorem at77 : Try.prog.funcs[77]? = some Try.f77 := by kernel_rfl
theorem bd77 : Try.f77.body = some c77 := by kernel_rfl
theorem cl77 : Callable Try.prog 77 := callable_of at77 (by kernel_rfl) (by kernel_rfl)
abbrev T43 : Ty := (.cons (.sl T1) .nil)
abbrev T44 : Ty := (.sl T43)
abbrev T45 : Ty := (.cons T44 .nil)
abbrev T46 : Ty := (.cons (.sl T1) T45)
abbrev T47 : Ty := (.cons tI T46)
abbrev T48 : Ty := (.agg T47)
abbrev T49 : Ty := (.cons T48 .nil)
abbrev a77 : Ty := T49
abbrev r77 : Ty := T3
noncomputable def G77 : Ctx := Ctx.of [(60, .pure k60), (97, .pure k97), (98, .pure k98)]
theorem g77 : Sound Try.prog (G77) := sound_of (List.forall_mem_cons.2 ⟨⟨cl60, h60⟩, List.forall_mem_cons.2 ⟨⟨cl97, h97⟩, List.forall_mem_cons.2 ⟨⟨cl98, h98⟩, fun _ h => by cases h⟩⟩⟩)
noncomputable def b77x0 : Code := loopBody ((loopsOf (c77))[0]?)
theorem lo77x0 : loopsOf (b77x0) = [] := by kernel_rfl
abbrev cs77x0 : List Pat := [.slot 1 (.ptr 1), .slot 29 (.pc (.sl T1)), .slot 30 (.pc tI), .box 1 [.pc tI, .pc (.sl T1), .pc T44]]
abbrev vs77x0 : List Pat := [.slot 31 (.pc tI)]
abbrev ps77x0 : List Pat := [.slot 1 (.ptr 1), .slot 29 (.pc (.sl T1)), .slot 30 (.pc tI), .box 1 [.pc tI, .pc (.sl T1), .pc T44], .slot 31 (.pc tI)]
def j77x0 : (patsTy cs77x0).den → (patsTy vs77x0).den → (patsTy ps77x0).den := fun c v => (c.1, (c.2.1, (c.2.2.1, (c.2.2.2.1, v))))
def sp77x0 : (patsTy ps77x0).den → (patsTy cs77x0).den × (patsTy vs77x0).den := fun x => ((x.1, (x.2.1, (x.2.2.1, (x.2.2.2.1, ())))), x.2.2.2.2)
abbrev wy77x0 : Ways := ⟨[(0, [.slot 1 (.ptr 1), .box 1 [.pc tI, .pc (.sl T1), .pc T44]])], [.slot 2 (.pc .bool)], []⟩
abbrev wv77x0 : Ways := ⟨[(0, [])], [.slot 2 (.pc .bool)], []⟩
def je77x0 : (id : Nat) → (patsTy cs77x0).den → (patsTy (wayP wv77x0 id)).den → (patsTy (wayP wy77x0 id)).den := fun id => match id with | 0 => fun c y => (c.1, (c.2.2.2.1, y)) | id => fun _ _ => (patsTy (wayP wy77x0 id)).dflt
def jr77x0 : (patsTy cs77x0).den → (patsTy (wv77x0).ret).den → (patsTy (wy77x0).ret).den := fun c y => y
def jp77x0 : (patsTy cs77x0).den → (patsTy (wv77x0).pan).den → (patsTy (wy77x0).pan).den := fun c y => y
def Z77x0 {α : Type} (l : RQ vs77x0 wv77x0 → α) (an : α → α → α) (c : (patsTy cs77x0).den) (v : (patsTy vs77x0).den) : α := bif (decide (v.1 < c.2.2.1)) then bif (decide (((0 : Int) ≤ v.1) ∧ (v.1 < ((c.2.1.n : Nat) : Int)))) then cl (r60).dflt (M60 ((c.2.1.g (Int.toNat v.1)).1, ((0 : Int), ((10 : Int), ())))) (fun u0 => bif (!u0.1) then l (.out (.ret (false, ()))) else cl (r60).dflt (M60 ((c.2.1.g (Int.toNat v.1)).2.1, ((0 : Int), ((400 : Int), ())))) (fun u1 => bif (!u1.1) then l (.out (.ret (false, ()))) else l (.next ((W (v.1 + (1 : Int))), ()))) (l .bad)) (l .bad) else l .bad else l (.out (.exit 0 ()))
theorem z77x0 (c : (patsTy cs77x0).den) (v : (patsTy vs77x0).den) : roundQ Try.prog E0 G77 0 64 [] ps77x0 wy77x0 b77x0 [] (j77x0 c v) = Z77x0 (fun r => .leaf (r.lift j77x0 je77x0 jr77x0 jp77x0 c)) .any c v := by kernel_rfl
def S77x0 (c : (patsTy cs77x0).den) (v : (patsTy vs77x0).den) : RQ vs77x0 wv77x0 := Z77x0 (fun r => r) (fun _ _ => .bad) c v
theorem s77x0 (c : (patsTy cs77x0).den) (v : (patsTy vs77x0).den) : detQ (roundQ Try.prog E0 G77 0 64 [] ps77x0 wy77x0 b77x0 [] (j77x0 c v)) = (S77x0 c v).lift j77x0 je77x0 jr77x0 jp77x0 c := by rw [z77x0]; unfold S77x0 Z77x0; simp only [detQ_cond, lift_cond, lift_bad, detQ, detQ_cl, detQ_onExit, detQ_onRet, detQ_onPanL, detQ_onNext, detQ_onBrk, detQ_onRetO, detQ_onPan, detQ_onOk, detQ_onGPan, lift_cl, lift_onExit, lift_onRet, lift_onPanL, lift_onNext, lift_onBrk, lift_onRetO, lift_onPan, lift_onOk, lift_onGPan]
def L77x0 (c : (patsTy cs77x0).den) (v : (patsTy vs77x0).den) : LQ wv77x0 := iterQ (S77x0 c) big v
noncomputable def b77x1 : Code := loopBody ((loopsOf (c77))[1]?)
theorem lo77x1 : loopsOf (b77x1) = [] := by kernel_rfl
abbrev cs77x1 : List Pat := [.slot 1 (.ptr 1), .slot 47 (.pc T44), .slot 48 (.pc tI), .box 1 [.pc tI, .pc (.sl T1), .pc T44]]
abbrev vs77x1 : List Pat := [.slot 49 (.pc tI)]
abbrev ps77x1 : List Pat := [.slot 1 (.ptr 1), .slot 47 (.pc T44), .slot 48 (.pc tI), .box 1 [.pc tI, .pc (.sl T1), .pc T44], .slot 49 (.pc tI)]
def j77x1 : (patsTy cs77x1).den → (patsTy vs77x1).den → (patsTy ps77x1).den := fun c v => (c.1, (c.2.1, (c.2.2.1, (c.2.2.2.1, v))))
def sp77x1 : (patsTy ps77x1).den → (patsTy cs77x1).den × (patsTy vs77x1).den := fun x => ((x.1, (x.2.1, (x.2.2.1, (x.2.2.2.1, ())))), x.2.2.2.2)
abbrev wy77x1 : Ways := ⟨[(2, [])], [.slot 2 (.pc .bool)], []⟩
abbrev wv77x1 : Ways := ⟨[(2, [])], [.slot 2 (.pc .bool)], []⟩
def je77x1 : (id : Nat) → (patsTy cs77x1).den → (patsTy (wayP wv77x1 id)).den → (patsTy (wayP wy77x1 id)).den := fun id => match id with | 2 => fun c y => y | id => fun _ _ => (patsTy (wayP wy77x1 id)).dflt
def jr77x1 : (patsTy cs77x1).den → (patsTy (wv77x1).ret).den → (patsTy (wy77x1).ret).den := fun c y => y
def jp77x1 : (patsTy cs77x1).den → (patsTy (wv77x1).pan).den → (patsTy (wy77x1).pan).den := fun c y => y
def Z77x1 {α : Type} (l : RQ vs77x1 wv77x1 → α) (an : α → α → α) (c : (patsTy cs77x1).den) (v : (patsTy vs77x1).den) : α := bif (decide (v.1 < c.2.2.1)) then bif (decide (((0 : Int) ≤ v.1) ∧ (v.1 < ((c.2.1.n : Nat) : Int)))) then bif (!(decide ((((c.2.1.g (Int.toNat v.1)).1.n : Nat) : Int) = ((c.2.2.2.1.2.2.1.n : Nat) : Int)))) then l (.out (.ret (false, ()))) else cl (r97).dflt (M97 ((c.2.1.g (Int.toNat v.1)).1, ((fun y2 => ((p98 y2), (v98 y2))), ()))) (fun u2 => bif (v97 ((c.2.1.g (Int.toNat v.1)).1, ((fun y3 => ((p98 y3), (v98 y3))), ()))).1 then l (.out (.ret (false, ()))) else l (.next ((W (v.1 + (1 : Int))), ()))) (l .bad) else l .bad else l (.out (.exit 2 ()))
theorem z77x1 (c : (patsTy cs77x1).den) (v : (patsTy vs77x1).den) : roundQ Try.prog E0 G77 0 64 [] ps77x1 wy77x1 b77x1 [] (j77x1 c v) = Z77x1 (fun r => .leaf (r.lift j77x1 je77x1 jr77x1 jp77x1 c)) .any c v := by kernel_rfl
def S77x1 (c : (patsTy cs77x1).den) (v : (patsTy vs77x1).den) : RQ vs77x1 wv77x1 := Z77x1 (fun r => r) (fun _ _ => .bad) c v
theorem s77x1 (c : (patsTy cs77x1).den) (v : (patsTy vs77x1).den) : detQ (roundQ Try.prog E0 G77 0 64 [] ps77x1 wy77x1 b77x1 [] (j77x1 c v)) = (S77x1 c v).lift j77x1 je77x1 jr77x1 jp77x1 c := by rw [z77x1]; unfold S77x1 Z77x1; simp only [detQ_cond, lift_cond, lift_bad, detQ, detQ_cl, detQ_onExit, detQ_onRet, detQ_onPanL, detQ_onNext, detQ_onBrk, detQ_onRetO, detQ_onPan, detQ_onOk, detQ_onGPan, lift_cl, lift_onExit, lift_onRet, lift_onPanL, lift_onNext, lift_onBrk, lift_onRetO, lift_onPan, lift_onOk, lift_onGPan]
def L77x1 (c : (patsTy cs77x1).den) (v : (patsTy vs77x1).den) : LQ wv77x1 := iterQ (S77x1 c) big v
theorem lo77 : loopsOf (c77) = [.loop b77x0, .loop b77x1] := by kernel_rfl
noncomputable def l77 : List Loop := [.known (loopZ 0 [] ps77x0 fun x => spreadV wy77x0 je77x0 jr77x0 jp77x0 [] true (sp77x0 x).1 (L77x0 (sp77x0 x).1 (sp77x0 x).2) wy77x0.exits), .known (loopZ 0 [] ps77x1 fun x => spreadV wy77x1 je77x1 jr77x1 jp77x1 [] true (sp77x1 x).1 (L77x1 (sp77x1 x).1 (sp77x1 x).2) wy77x1.exits)]
def Q77 {α : Type} (l : Option (r77).den → α) (an : α → α → α) (x : (a77).den) : α := cl (r60).dflt (M60 (x.1.1, ((0 : Int), ((400 : Int), ())))) (fun u3 => bif (!u3.1) then l (some (false, ())) else cl (r60).dflt (M60 (((x.1.2.1.n : Nat) : Int), ((1 : Int), ((6 : Int), ())))) (fun u4 => bif (!u4.1) then l (some (false, ())) else bif (!(decide (((x.1.2.2.1.n : Nat) : Int) = (W (((x.1.2.1.n : Nat) : Int) + (1 : Int)))))) then l (some (false, ())) else onExit (L77x0 ((), (x.1.2.1, (((x.1.2.1.n : Nat) : Int), (x.1, ())))) ((0 : Int), ())) 0 (fun u5 => onExit (L77x1 ((), (x.1.2.2.1, (((x.1.2.2.1.n : Nat) : Int), (x.1, ())))) ((0 : Int), ())) 2 (fun u6 => l (some (true, ()))) (onRet (L77x1 ((), (x.1.2.2.1, (((x.1.2.2.1.n : Nat) : Int), (x.1, ())))) ((0 : Int), ())) (fun u7 => l (some u7)) (l none))) (onRet (L77x0 ((), (x.1.2.1, (((x.1.2.1.n : Nat) : Int), (x.1, ())))) ((0 : Int), ())) (fun u8 => l (some u8)) (l none))) (l none)) (l none)
theorem q77 (x : (a77).den) : runFn Try.prog E0 G77 Try.f77 l77 a77 r77 x = Q77 .leaf .any x := by kernel_rfl
def M77 (x : (a77).den) : Option (r77).den := Q77 (fun r => r) (fun _ _ => none) x
theorem m77 (x : (a77).den) : (runFn Try.prog E0 G77 Try.f77 l77 a77 r77 x).sure = M77 x := by rw [q77]; unfold M77 Q77; simp only [sure_cond, Tree.sure, sure_cl, sure_onExit, sure_onRet, sure_onPanL, sure_onNext, sure_onBrk, sure_onRetO, sure_onPan, sure_onOk, sure_onGPan]
def p77 (x : (a77).den) : Bool := (M77 x).isSome
def v77 (x : (a77).den) : (r77).den := (M77 x).getD (r77).dflt
def k77 : Con := ⟨a77, r77, p77, v77⟩
theorem h77 : Holds Try.prog 77 k77 := holds_of_M' (E := E0) follows_ok g77 eqTy_sound keyTy_sound at77 bd77 (by kernel_rfl) m77 fun G' hlo hF hE => LsOK_kn (by rw [lo77]; exact .cons (loopV_ok hE hF hlo (LsOK_kn (by rw [lo77x0]; exact .nil)) (by kernel_rfl) (by kernel_rfl) sp77x0 (fun _ => rfl) (fun _ _ => rfl) (s77x0) big) (.cons (loopV_ok hE hF hlo (LsOK_kn (by rw [lo77x1]; exact .nil)) (by kernel_rfl) (by kernel_rfl) sp77x1 (fun _ => rfl) (fun _ _ => rfl) (s77x1) big) (.nil)))
/-- isobar/watch.sure$1 -/
noncomputable def c99 : Code := Try.f99.body.getD .skip
theorem at99 : Try.prog.funcs[99]? = some Try.f99 := by kernel_rfl
theorem bd99 : Try.f99.body = some c99 := by kernel_rfl
theorem cl99 : Callable Try.prog 99 := callable_of at99 (by kernel_rfl) (by kernel_rfl)
abbrev ps99 : List Pat := [.slot 0 (.ptr 4), .slot 1 (.ptr 5), .box 4 [.pc tI], .box 5 [.pc .bool]]
noncomputable def G99 : Ctx := Ctx.of []
theorem g99 : Sound Try.prog (G99) := sound_of (fun _ h => by cases h)
noncomputable def rest99 : Code := match c99 with | .seq _ r => r | _ => .skip
theorem gbad99 : GHolds Try.prog 99 (fun _ _ _ _ => .leaf .bad) := fun _ _ _ _ _ _ _ _ _ _ _ _ _ _ _ _ hall => absurd rfl (hall .bad rfl)
noncomputable def d99 : DApp := dapp Try.f99.ntmps ps99 (runD Try.prog E0 G99 Try.f99.ntmps rest99 [] 100 ps99 5)
noncomputable def op99 : Oper := match c99 with | .seq (.region _ ops _) _ => ops.toList.headD default | _ => default
noncomputable def rid99 : Nat := match c99 with | .seq (.region r _ _) _ => r | _ => 0
noncomputable def cal99 : Call := match op99.op with | .call c => c | _ => default
theorem dh99 : DHolds Try.prog 99 d99 := dholds_of_run (E := E0) (o := op99) (rid := rid99) (c := cal99) follows_ok g99 eqTy_sound keyTy_sound at99 (rest := rest99) (by kernel_rfl) (by kernel_rfl) (by kernel_rfl) (by kernel_rfl) (by kernel_rfl) (by kernel_rfl) (by kernel_rfl) (by kernel_rfl) (by kernel_rfl) fun G' _ _ _ => LsOK_nil
/-- isobar/watch.roads -/
noncomputable def c89 : Code := Try.f89.body.getD .skip
theorem at89 : Try.prog.funcs[89]? = some Try.f89 := by kernel_rfl
theorem bd89 : Try.f89.body = some c89 := by kernel_rfl
theorem cl89 : Callable Try.prog 89 := callable_of at89 (by kernel_rfl) (by kernel_rfl)
abbrev T50 : Ty := (.cons T48 T4)
abbrev a89 : Ty := T50
abbrev r89 : Ty := T43
noncomputable def G89 : Ctx := Ctx.of []
theorem g89 : Sound Try.prog (G89) := sound_of (fun _ h => by cases h)
noncomputable def b89x0 : Code := loopBody ((loopsOf (c89))[0]?)
theorem lo89x0 : loopsOf (b89x0) = [] := by kernel_rfl
abbrev cs89x0 : List Pat := [.slot 2 (.ptr 2), .slot 9 (.pc (.sl T0)), .slot 10 (.pc tI), .box 2 [.pc tI, .pc (.sl T1), .pc T44]]
abbrev vs89x0 : List Pat := [.slot 5 (.own 1000005 65 T1), .slot 6 (.pc tI), .slot 11 (.pc tI)]
abbrev ps89x0 : List Pat := [.slot 2 (.ptr 2), .slot 9 (.pc (.sl T0)), .slot 10 (.pc tI), .box 2 [.pc tI, .pc (.sl T1), .pc T44], .slot 5 (.own 1000005 65 T1), .slot 6 (.pc tI), .slot 11 (.pc tI)]
def j89x0 : (patsTy cs89x0).den → (patsTy vs89x0).den → (patsTy ps89x0).den := fun c v => (c.1, (c.2.1, (c.2.2.1, (c.2.2.2.1, v))))
def sp89x0 : (patsTy ps89x0).den → (patsTy cs89x0).den × (patsTy vs89x0).den := fun x => ((x.1, (x.2.1, (x.2.2.1, (x.2.2.2.1, ())))), x.2.2.2.2)
abbrev wy89x0 : Ways := ⟨[(0, [.slot 5 (.pc (.sl T1))])], [], []⟩
abbrev wv89x0 : Ways := ⟨[(0, [.slot 5 (.pc (.sl T1))])], [], []⟩
def je89x0 : (id : Nat) → (patsTy cs89x0).den → (patsTy (wayP wv89x0 id)).den → (patsTy (wayP wy89x0 id)).den := fun id => match id with | 0 => fun c y => y | id => fun _ _ => (patsTy (wayP wy89x0 id)).dflt
def jr89x0 : (patsTy cs89x0).den → (patsTy (wv89x0).ret).den → (patsTy (wy89x0).ret).den := fun c y => y
def jp89x0 : (patsTy cs89x0).den → (patsTy (wv89x0).pan).den → (patsTy (wy89x0).pan).den := fun c y => y
def Z89x0 {α : Type} (l : RQ vs89x0 wv89x0 → α) (an : α → α → α) (c : (patsTy cs89x0).den) (v : (patsTy vs89x0).den) : α := bif (decide (v.2.2.1 < c.2.2.1)) then bif (decide (((0 : Int) ≤ v.2.2.1) ∧ (v.2.2.1 < ((c.2.1.n : Nat) : Int)))) then bif (decide (((0 : Int) ≤ v.2.1) ∧ (v.2.1 < ((c.2.2.2.1.2.2.1.n : Nat) : Int)))) then bif (decide (((0 : Int) ≤ (W ((c.2.1.g (Int.toNat v.2.2.1)).1 + (1 : Int)))) ∧ ((W ((c.2.1.g (Int.toNat v.2.2.1)).1 + (1 : Int))) < (((c.2.2.2.1.2.2.1.g (Int.toNat v.2.1)).1.n : Nat) : Int)))) then bif (decide (((v.1.n + 1) * 16) ≤ 140737488355328)) then l (.next ((catSl v.1 (⟨1, fun i => List.getD [((c.2.2.2.1.2.2.1.g (Int.toNat v.2.1)).1.g (Int.toNat (W ((c.2.1.g (Int.toNat v.2.2.1)).1 + (1 : Int)))))] i ((c.2.2.2.1.2.2.1.g (Int.toNat v.2.1)).1.g (Int.toNat (W ((c.2.1.g (Int.toNat v.2.2.1)).1 + (1 : Int)))))⟩ : Sl (Ty.den T1))), ((W ((c.2.1.g (Int.toNat v.2.2.1)).1 + (1 : Int))), ((W (v.2.2.1 + (1 : Int))), ())))) else l .bad else l .bad else l .bad else l .bad else l (.out (.exit 0 (v.1, ())))
theorem z89x0 (c : (patsTy cs89x0).den) (v : (patsTy vs89x0).den) : roundQ Try.prog E0 G89 0 31 [] ps89x0 wy89x0 b89x0 [] (j89x0 c v) = Z89x0 (fun r => .leaf (r.lift j89x0 je89x0 jr89x0 jp89x0 c)) .any c v := by kernel_rfl
def S89x0 (c : (patsTy cs89x0).den) (v : (patsTy vs89x0).den) : RQ vs89x0 wv89x0 := Z89x0 (fun r => r) (fun _ _ => .bad) c v
theorem s89x0 (c : (patsTy cs89x0).den) (v : (patsTy vs89x0).den) : detQ (roundQ Try.prog E0 G89 0 31 [] ps89x0 wy89x0 b89x0 [] (j89x0 c v)) = (S89x0 c v).lift j89x0 je89x0 jr89x0 jp89x0 c := by rw [z89x0]; unfold S89x0 Z89x0; simp only [detQ_cond, lift_cond, lift_bad, detQ, detQ_cl, detQ_onExit, detQ_onRet, detQ_onPanL, detQ_onNext, detQ_onBrk, detQ_onRetO, detQ_onPan, detQ_onOk, detQ_onGPan, lift_cl, lift_onExit, lift_onRet, lift_onPanL, lift_onNext, lift_onBrk, lift_onRetO, lift_onPan, lift_onOk, lift_onGPan]
def L89x0 (c : (patsTy cs89x0).den) (v : (patsTy vs89x0).den) : LQ wv89x0 := iterQ (S89x0 c) big v
theorem lo89 : loopsOf (c89) = [.loop b89x0] := by kernel_rfl
noncomputable def l89 : List Loop := [.known (loopZ 0 [] ps89x0 fun x => spreadV wy89x0 je89x0 jr89x0 jp89x0 [] false (sp89x0 x).1 (L89x0 (sp89x0 x).1 (sp89x0 x).2) wy89x0.exits)]
def Q89 {α : Type} (l : Option (r89).den → α) (an : α → α → α) (x : (a89).den) : α := onExit (L89x0 ((), (x.2.1, (((x.2.1.n : Nat) : Int), (x.1, ())))) ((⟨0, fun i => ((0 : Int), ((0 : Int), ()))⟩ : Sl _), ((0 : Int), ((0 : Int), ())))) 0 (fun u0 => l (some u0)) (l none)
theorem q89 (x : (a89).den) : runFn Try.prog E0 G89 Try.f89 l89 a89 r89 x = Q89 .leaf .any x := by kernel_rfl
def M89 (x : (a89).den) : Option (r89).den := Q89 (fun r => r) (fun _ _ => none) x
theorem m89 (x : (a89).den) : (runFn Try.prog E0 G89 Try.f89 l89 a89 r89 x).sure = M89 x := by rw [q89]; unfold M89 Q89; simp only [sure_cond, Tree.sure, sure_cl, sure_onExit, sure_onRet, sure_onPanL, sure_onNext, sure_onBrk, sure_onRetO, sure_onPan, sure_onOk, sure_onGPan]
def p89 (x : (a89).den) : Bool := (M89 x).isSome
def v89 (x : (a89).den) : (r89).den := (M89 x).getD (r89).dflt
def k89 : Con := ⟨a89, r89, p89, v89⟩
theorem h89 : Holds Try.prog 89 k89 := holds_of_M' (E := E0) follows_ok g89 eqTy_sound keyTy_sound at89 bd89 (by kernel_rfl) m89 fun G' hlo hF hE => LsOK_kn (by rw [lo89]; exact .cons (loopV_ok hE hF hlo (LsOK_kn (by rw [lo89x0]; exact .nil)) (by kernel_rfl) (by kernel_rfl) sp89x0 (fun _ => rfl) (fun _ _ => rfl) (s89x0) big) (.nil))
/-- isobar/watch.ends -/
noncomputable def c86 : Code := Try.f86.body.getD .skip
theorem at86 : Try.prog.funcs[86]? = some Try.f86 := by kernel_rfl
theorem bd86 : Try.f86.body = some c86 := by kernel_rfl
theorem cl86 : Callable Try.prog 86 := callable_of at86 (by kernel_rfl) (by kernel_rfl)
abbrev T51 : Ty := (.agg T24)
abbrev T52 : Ty := (.cons T51 .nil)
abbrev a86 : Ty := T50
abbrev r86 : Ty := T52
noncomputable def G86 : Ctx := Ctx.of [(89, .pure k89)]
theorem g86 : Sound Try.prog (G86) := sound_of (List.forall_mem_cons.2 ⟨⟨cl89, h89⟩, fun _ h => by cases h⟩)
noncomputable def b86x0 : Code := loopBody ((loopsOf (c86))[0]?)
theorem lo86x0 : loopsOf (b86x0) = [] := by kernel_rfl
abbrev cs86x0 : List Pat := [.slot 4 (.ptr 4), .slot 5 (.ptr 37), .slot 10 (.pc (.sl T1)), .slot 11 (.pc tI), .box 4 [.own 1005000 3 T0, .own 1005001 3 T0]]
abbrev vs86x0 : List Pat := [.slot 12 (.pc tI), .box 37 [.own 1038000 3 T0, .own 1038001 3 T0]]
abbrev ps86x0 : List Pat := [.slot 4 (.ptr 4), .slot 5 (.ptr 37), .slot 10 (.pc (.sl T1)), .slot 11 (.pc tI), .box 4 [.own 1005000 3 T0, .own 1005001 3 T0], .slot 12 (.pc tI), .box 37 [.own 1038000 3 T0, .own 1038001 3 T0]]
def j86x0 : (patsTy cs86x0).den → (patsTy vs86x0).den → (patsTy ps86x0).den := fun c v => (c.1, (c.2.1, (c.2.2.1, (c.2.2.2.1, (c.2.2.2.2.1, v)))))
def sp86x0 : (patsTy ps86x0).den → (patsTy cs86x0).den × (patsTy vs86x0).den := fun x => ((x.1, (x.2.1, (x.2.2.1, (x.2.2.2.1, (x.2.2.2.2.1, ()))))), x.2.2.2.2.2)
abbrev wy86x0 : Ways := ⟨[(0, [.slot 4 (.ptr 4), .slot 5 (.ptr 37), .box 4 [.own 1005000 3 T0, .own 1005001 3 T0], .box 37 [.own 1038000 3 T0, .own 1038001 3 T0]])], [], []⟩
abbrev wv86x0 : Ways := ⟨[(0, [.box 37 [.own 1038000 3 T0, .own 1038001 3 T0]])], [], []⟩
def je86x0 : (id : Nat) → (patsTy cs86x0).den → (patsTy (wayP wv86x0 id)).den → (patsTy (wayP wy86x0 id)).den := fun id => match id with | 0 => fun c y => (c.1, (c.2.1, (c.2.2.2.2.1, y))) | id => fun _ _ => (patsTy (wayP wy86x0 id)).dflt
def jr86x0 : (patsTy cs86x0).den → (patsTy (wv86x0).ret).den → (patsTy (wy86x0).ret).den := fun c y => y
def jp86x0 : (patsTy cs86x0).den → (patsTy (wv86x0).pan).den → (patsTy (wy86x0).pan).den := fun c y => y
def Z86x0 {α : Type} (l : RQ vs86x0 wv86x0 → α) (an : α → α → α) (c : (patsTy cs86x0).den) (v : (patsTy vs86x0).den) : α := bif (decide (v.1 < c.2.2.2.1)) then bif (decide (((0 : Int) ≤ v.1) ∧ (v.1 < ((c.2.2.1.n : Nat) : Int)))) then bif (decide (((v.2.1.1.n + 1) * 8) ≤ 140737488355328)) then bif (decide (((v.2.1.2.1.n + 1) * 8) ≤ 140737488355328)) then l (.next ((W (v.1 + (1 : Int))), (((catSl v.2.1.1 (⟨1, fun i => List.getD [((c.2.2.1.g (Int.toNat v.1)).1, ())] i ((c.2.2.1.g (Int.toNat v.1)).1, ())⟩ : Sl (Ty.den T0))), ((catSl v.2.1.2.1 (⟨1, fun i => List.getD [(c.2.2.1.g (Int.toNat v.1)).2] i (c.2.2.1.g (Int.toNat v.1)).2⟩ : Sl (Ty.den T0))), ())), ()))) else l .bad else l .bad else l .bad else l (.out (.exit 0 (v.2.1, ())))
theorem z86x0 (c : (patsTy cs86x0).den) (v : (patsTy vs86x0).den) : roundQ Try.prog E0 G86 0 32 [] ps86x0 wy86x0 b86x0 [] (j86x0 c v) = Z86x0 (fun r => .leaf (r.lift j86x0 je86x0 jr86x0 jp86x0 c)) .any c v := by kernel_rfl
def S86x0 (c : (patsTy cs86x0).den) (v : (patsTy vs86x0).den) : RQ vs86x0 wv86x0 := Z86x0 (fun r => r) (fun _ _ => .bad) c v
theorem s86x0 (c : (patsTy cs86x0).den) (v : (patsTy vs86x0).den) : detQ (roundQ Try.prog E0 G86 0 32 [] ps86x0 wy86x0 b86x0 [] (j86x0 c v)) = (S86x0 c v).lift j86x0 je86x0 jr86x0 jp86x0 c := by rw [z86x0]; unfold S86x0 Z86x0; simp only [detQ_cond, lift_cond, lift_bad, detQ, detQ_cl, detQ_onExit, detQ_onRet, detQ_onPanL, detQ_onNext, detQ_onBrk, detQ_onRetO, detQ_onPan, detQ_onOk, detQ_onGPan, lift_cl, lift_onExit, lift_onRet, lift_onPanL, lift_onNext, lift_onBrk, lift_onRetO, lift_onPan, lift_onOk, lift_onGPan]
def L86x0 (c : (patsTy cs86x0).den) (v : (patsTy vs86x0).den) : LQ wv86x0 := iterQ (S86x0 c) big v
theorem lo86 : loopsOf (c86) = [.loop b86x0] := by kernel_rfl
noncomputable def l86 : List Loop := [.known (loopZ 0 [] ps86x0 fun x => spreadV wy86x0 je86x0 jr86x0 jp86x0 [] false (sp86x0 x).1 (L86x0 (sp86x0 x).1 (sp86x0 x).2) wy86x0.exits)]
def Q86 {α : Type} (l : Option (r86).den → α) (an : α → α → α) (x : (a86).den) : α := cl (r89).dflt (M89 (x.1, x.2)) (fun u0 => onExit (L86x0 ((), ((), (u0.1, (((u0.1.n : Nat) : Int), (((⟨0, fun i => ((0 : Int), ())⟩ : Sl _), ((⟨0, fun i => ((0 : Int), ())⟩ : Sl _), ())), ()))))) ((0 : Int), (((⟨0, fun i => ((0 : Int), ())⟩ : Sl _), ((⟨0, fun i => ((0 : Int), ())⟩ : Sl _), ())), ()))) 0 (fun u1 => l (some (u1.1, ()))) (l none)) (l none)
theorem q86 (x : (a86).den) : runFn Try.prog E0 G86 Try.f86 l86 a86 r86 x = Q86 .leaf .any x := by kernel_rfl
def M86 (x : (a86).den) : Option (r86).den := Q86 (fun r => r) (fun _ _ => none) x
theorem m86 (x : (a86).den) : (runFn Try.prog E0 G86 Try.f86 l86 a86 r86 x).sure = M86 x := by rw [q86]; unfold M86 Q86; simp only [sure_cond, Tree.sure, sure_cl, sure_onExit, sure_onRet, sure_onPanL, sure_onNext, sure_onBrk, sure_onRetO, sure_onPan, sure_onOk, sure_onGPan]
def p86 (x : (a86).den) : Bool := (M86 x).isSome
def v86 (x : (a86).den) : (r86).den := (M86 x).getD (r86).dflt
def k86 : Con := ⟨a86, r86, p86, v86⟩
theorem h86 : Holds Try.prog 86 k86 := holds_of_M' (E := E0) follows_ok g86 eqTy_sound keyTy_sound at86 bd86 (by kernel_rfl) m86 fun G' hlo hF hE => LsOK_kn (by rw [lo86]; exact .cons (loopV_ok hE hF hlo (LsOK_kn (by rw [lo86x0]; exact .nil)) (by kernel_rfl) (by kernel_rfl) sp86x0 (fun _ => rfl) (fun _ _ => rfl) (s86x0) big) (.nil))
/-- isobar/watch.travel -/
noncomputable def c87 : Code := Try.f87.body.getD .skip
theorem at87 : Try.prog.funcs[87]? = some Try.f87 := by kernel_rfl
theorem bd87 : Try.f87.body = some c87 := by kernel_rfl
theorem cl87 : Callable Try.prog 87 := callable_of at87 (by kernel_rfl) (by kernel_rfl)
abbrev T53 : Ty := (.cons T48 T24)
abbrev T54 : Ty := (.cons (.sl T0) T0)
abbrev a87 : Ty := T53
abbrev r87 : Ty := T54
noncomputable def G87 : Ctx := Ctx.of []
theorem g87 : Sound Try.prog (G87) := sound_of (fun _ h => by cases h)
noncomputable def b87x0 : Code := loopBody ((loopsOf (c87))[0]?)
theorem lo87x0 : loopsOf (b87x0) = [] := by kernel_rfl
abbrev cs87x0 : List Pat := [.slot 2 (.pc (.sl T0)), .slot 3 (.ptr 3), .slot 14 (.pc (.sl T0)), .slot 15 (.pc tI), .box 3 [.pc tI, .pc (.sl T1), .pc T44]]
abbrev vs87x0 : List Pat := [.slot 8 (.own 1000008 3 T0), .slot 9 (.pc tI), .slot 16 (.pc tI)]
abbrev ps87x0 : List Pat := [.slot 2 (.pc (.sl T0)), .slot 3 (.ptr 3), .slot 14 (.pc (.sl T0)), .slot 15 (.pc tI), .box 3 [.pc tI, .pc (.sl T1), .pc T44], .slot 8 (.own 1000008 3 T0), .slot 9 (.pc tI), .slot 16 (.pc tI)]
def j87x0 : (patsTy cs87x0).den → (patsTy vs87x0).den → (patsTy ps87x0).den := fun c v => (c.1, (c.2.1, (c.2.2.1, (c.2.2.2.1, (c.2.2.2.2.1, v)))))
def sp87x0 : (patsTy ps87x0).den → (patsTy cs87x0).den × (patsTy vs87x0).den := fun x => ((x.1, (x.2.1, (x.2.2.1, (x.2.2.2.1, (x.2.2.2.2.1, ()))))), x.2.2.2.2.2)
abbrev wy87x0 : Ways := ⟨[(0, [.slot 8 (.pc (.sl T0)), .slot 9 (.pc tI)])], [], []⟩
abbrev wv87x0 : Ways := ⟨[(0, [.slot 8 (.pc (.sl T0)), .slot 9 (.pc tI)])], [], []⟩
def je87x0 : (id : Nat) → (patsTy cs87x0).den → (patsTy (wayP wv87x0 id)).den → (patsTy (wayP wy87x0 id)).den := fun id => match id with | 0 => fun c y => y | id => fun _ _ => (patsTy (wayP wy87x0 id)).dflt
def jr87x0 : (patsTy cs87x0).den → (patsTy (wv87x0).ret).den → (patsTy (wy87x0).ret).den := fun c y => y
def jp87x0 : (patsTy cs87x0).den → (patsTy (wv87x0).pan).den → (patsTy (wy87x0).pan).den := fun c y => y
def Z87x0 {α : Type} (l : RQ vs87x0 wv87x0 → α) (an : α → α → α) (c : (patsTy cs87x0).den) (v : (patsTy vs87x0).den) : α := bif (decide (v.2.2.1 < c.2.2.2.1)) then bif (decide (((0 : Int) ≤ v.2.2.1) ∧ (v.2.2.1 < ((c.2.2.1.n : Nat) : Int)))) then bif (decide (((0 : Int) ≤ v.2.2.1) ∧ (v.2.2.1 < ((c.1.n : Nat) : Int)))) then bif (decide (((v.1.n + 1) * 8) ≤ 140737488355328)) then bif (decide (((0 : Int) ≤ (c.2.2.1.g (Int.toNat v.2.2.1)).1) ∧ ((c.2.2.1.g (Int.toNat v.2.2.1)).1 < ((c.2.2.2.2.1.2.1.n : Nat) : Int)))) then l (.next ((catSl v.1 (⟨1, fun i => List.getD [((W (v.2.1 + (c.1.g (Int.toNat v.2.2.1)).1)), ())] i ((W (v.2.1 + (c.1.g (Int.toNat v.2.2.1)).1)), ())⟩ : Sl (Ty.den T0))), ((W ((W (v.2.1 + (c.1.g (Int.toNat v.2.2.1)).1)) + (c.2.2.2.2.1.2.1.g (Int.toNat (c.2.2.1.g (Int.toNat v.2.2.1)).1)).1)), ((W (v.2.2.1 + (1 : Int))), ())))) else l .bad else l .bad else l .bad else l .bad else l (.out (.exit 0 (v.1, (v.2.1, ()))))
theorem z87x0 (c : (patsTy cs87x0).den) (v : (patsTy vs87x0).den) : roundQ Try.prog E0 G87 0 42 [] ps87x0 wy87x0 b87x0 [] (j87x0 c v) = Z87x0 (fun r => .leaf (r.lift j87x0 je87x0 jr87x0 jp87x0 c)) .any c v := by kernel_rfl
def S87x0 (c : (patsTy cs87x0).den) (v : (patsTy vs87x0).den) : RQ vs87x0 wv87x0 := Z87x0 (fun r => r) (fun _ _ => .bad) c v
theorem s87x0 (c : (patsTy cs87x0).den) (v : (patsTy vs87x0).den) : detQ (roundQ Try.prog E0 G87 0 42 [] ps87x0 wy87x0 b87x0 [] (j87x0 c v)) = (S87x0 c v).lift j87x0 je87x0 jr87x0 jp87x0 c := by rw [z87x0]; unfold S87x0 Z87x0; simp only [detQ_cond, lift_cond, lift_bad, detQ, detQ_cl, detQ_onExit, detQ_onRet, detQ_onPanL, detQ_onNext, detQ_onBrk, detQ_onRetO, detQ_onPan, detQ_onOk, detQ_onGPan, lift_cl, lift_onExit, lift_onRet, lift_onPanL, lift_onNext, lift_onBrk, lift_onRetO, lift_onPan, lift_onOk, lift_onGPan]
def L87x0 (c : (patsTy cs87x0).den) (v : (patsTy vs87x0).den) : LQ wv87x0 := iterQ (S87x0 c) big v
theorem lo87 : loopsOf (c87) = [.loop b87x0] := by kernel_rfl
noncomputable def l87 : List Loop := [.known (loopZ 0 [] ps87x0 fun x => spreadV wy87x0 je87x0 jr87x0 jp87x0 [] false (sp87x0 x).1 (L87x0 (sp87x0 x).1 (sp87x0 x).2) wy87x0.exits)]
def Q87 {α : Type} (l : Option (r87).den → α) (an : α → α → α) (x : (a87).den) : α := onExit (L87x0 (x.2.2.1, ((), (x.2.1, (((x.2.1.n : Nat) : Int), (x.1, ()))))) ((⟨0, fun i => ((0 : Int), ())⟩ : Sl _), (x.1.1, ((0 : Int), ())))) 0 (fun u0 => l (some u0)) (l none)
theorem q87 (x : (a87).den) : runFn Try.prog E0 G87 Try.f87 l87 a87 r87 x = Q87 .leaf .any x := by kernel_rfl
def M87 (x : (a87).den) : Option (r87).den := Q87 (fun r => r) (fun _ _ => none) x
theorem m87 (x : (a87).den) : (runFn Try.prog E0 G87 Try.f87 l87 a87 r87 x).sure = M87 x := by rw [q87]; unfold M87 Q87; simp only [sure_cond, Tree.sure, sure_cl, sure_onExit, sure_onRet, sure_onPanL, sure_onNext, sure_onBrk, sure_onRetO, sure_onPan, sure_onOk, sure_onGPan]
def p87 (x : (a87).den) : Bool := (M87 x).isSome
def v87 (x : (a87).den) : (r87).den := (M87 x).getD (r87).dflt
def k87 : Con := ⟨a87, r87, p87, v87⟩
theorem h87 : Holds Try.prog 87 k87 := holds_of_M' (E := E0) follows_ok g87 eqTy_sound keyTy_sound at87 bd87 (by kernel_rfl) m87 fun G' hlo hF hE => LsOK_kn (by rw [lo87]; exact .cons (loopV_ok hE hF hlo (LsOK_kn (by rw [lo87x0]; exact .nil)) (by kernel_rfl) (by kernel_rfl) sp87x0 (fun _ => rfl) (fun _ _ => rfl) (s87x0) big) (.nil))
/-- isobar/watch.must -/
noncomputable def c100 : Code := Try.f100.body.getD .skip
theorem at100 : Try.prog.funcs[100]? = some Try.f100 := by kernel_rfl
theorem bd100 : Try.f100.body = some c100 := by kernel_rfl
theorem cl100 : Callable Try.prog 100 := callable_of at100 (by kernel_rfl) (by kernel_rfl)
abbrev r100 : Ty := T0
abbrev ps100 : List Pat := [.agg 0 (.cons tI (.cons (.sl tII) (.cons (.sl (.cons (.sl tII) .nil)) .nil))), .slot 1 (.pc tL)]
abbrev pans100 : List (Nat × Ty) := [(124, .agg (.cons tI .nil))]
noncomputable def G100 : Ctx := Ctx.of [(86, .pure k86), (87, .pure k87)]
theorem g100 : Sound Try.prog (G100) := sound_of (List.forall_mem_cons.2 ⟨⟨cl86, h86⟩, List.forall_mem_cons.2 ⟨⟨cl87, h87⟩, fun _ h => by cases h⟩⟩)
noncomputable def b100x0 : Code := loopBody ((loopsOf (c100))[0]?)
theorem lo100x0 : loopsOf (b100x0) = [] := by kernel_rfl
abbrev cs100x0 : List Pat := [.slot 1 (.pc (.sl T0)), .slot 2 (.ptr 3), .slot 7 (.pc tI), .slot 21 (.pc (.sl T0)), .slot 22 (.pc tI), .box 3 [.pc tI, .pc (.sl T1), .pc T44]]
abbrev vs100x0 : List Pat := [.slot 23 (.pc tI)]
abbrev ps100x0 : List Pat := [.slot 1 (.pc (.sl T0)), .slot 2 (.ptr 3), .slot 7 (.pc tI), .slot 21 (.pc (.sl T0)), .slot 22 (.pc tI), .box 3 [.pc tI, .pc (.sl T1), .pc T44], .slot 23 (.pc tI)]
def j100x0 : (patsTy cs100x0).den → (patsTy vs100x0).den → (patsTy ps100x0).den := fun c v => (c.1, (c.2.1, (c.2.2.1, (c.2.2.2.1, (c.2.2.2.2.1, (c.2.2.2.2.2.1, v))))))
def sp100x0 : (patsTy ps100x0).den → (patsTy cs100x0).den × (patsTy vs100x0).den := fun x => ((x.1, (x.2.1, (x.2.2.1, (x.2.2.2.1, (x.2.2.2.2.1, (x.2.2.2.2.2.1, ())))))), x.2.2.2.2.2.2)
abbrev T55 : Ty := (.agg T0)
abbrev wy100x0 : Ways := ⟨[(0, [.slot 7 (.pc tI)])], [], []⟩
abbrev wv100x0 : Ways := ⟨[(0, [])], [], []⟩
def je100x0 : (id : Nat) → (patsTy cs100x0).den → (patsTy (wayP wv100x0 id)).den → (patsTy (wayP wy100x0 id)).den := fun id => match id with | 0 => fun c y => (c.2.2.1, y) | id => fun _ _ => (patsTy (wayP wy100x0 id)).dflt
def jr100x0 : (patsTy cs100x0).den → (patsTy (wv100x0).ret).den → (patsTy (wy100x0).ret).den := fun c y => y
def jp100x0 : (patsTy cs100x0).den → (patsTy (wv100x0).pan).den → (patsTy (wy100x0).pan).den := fun c y => y
def Z100x0 {α : Type} (l : RQ vs100x0 wv100x0 → α) (an : α → α → α) (c : (patsTy cs100x0).den) (v : (patsTy vs100x0).den) : α := bif (decide (v.1 < c.2.2.2.2.1)) then bif (decide (((0 : Int) ≤ v.1) ∧ (v.1 < ((c.2.2.2.1.n : Nat) : Int)))) then bif (decide (((0 : Int) ≤ v.1) ∧ (v.1 < ((c.1.n : Nat) : Int)))) then bif (decide (((0 : Int) ≤ (c.1.g (Int.toNat v.1)).1) ∧ ((c.1.g (Int.toNat v.1)).1 < ((c.2.2.2.2.2.1.2.1.n : Nat) : Int)))) then bif (decide ((c.2.2.2.2.2.1.2.1.g (Int.toNat (c.1.g (Int.toNat v.1)).1)).2.1 < (c.2.2.2.1.g (Int.toNat v.1)).1)) then bif (decide (((0 : Int) ≤ v.1) ∧ (v.1 < ((c.1.n : Nat) : Int)))) then l (.out (.pan 124 T55 (c.1.g (Int.toNat v.1)) ())) else l .bad else l (.next ((W (v.1 + (1 : Int))), ())) else l .bad else l .bad else l .bad else l (.out (.exit 0 ()))
theorem z100x0 (c : (patsTy cs100x0).den) (v : (patsTy vs100x0).den) : roundQ Try.prog E0 G100 0 47 [] ps100x0 wy100x0 b100x0 [] (j100x0 c v) = Z100x0 (fun r => .leaf (r.lift j100x0 je100x0 jr100x0 jp100x0 c)) .any c v := by kernel_rfl
def S100x0 (c : (patsTy cs100x0).den) (v : (patsTy vs100x0).den) : RQ vs100x0 wv100x0 := Z100x0 (fun r => r) (fun _ _ => .bad) c v
theorem s100x0 (c : (patsTy cs100x0).den) (v : (patsTy vs100x0).den) : detQ (roundQ Try.prog E0 G100 0 47 [] ps100x0 wy100x0 b100x0 [] (j100x0 c v)) = (S100x0 c v).lift j100x0 je100x0 jr100x0 jp100x0 c := by rw [z100x0]; unfold S100x0 Z100x0; simp only [detQ_cond, lift_cond, lift_bad, detQ, detQ_cl, detQ_onExit, detQ_onRet, detQ_onPanL, detQ_onNext, detQ_onBrk, detQ_onRetO, detQ_onPan, detQ_onOk, detQ_onGPan, lift_cl, lift_onExit, lift_onRet, lift_onPanL, lift_onNext, lift_onBrk, lift_onRetO, lift_onPan, lift_onOk, lift_onGPan]
def L100x0 (c : (patsTy cs100x0).den) (v : (patsTy vs100x0).den) : LQ wv100x0 := iterQ (S100x0 c) big v
theorem lo100 : loopsOf (c100) = [.loop b100x0] := by kernel_rfl
noncomputable def l100 : List Loop := [.known (loopZ 0 [] ps100x0 fun x => spreadV wy100x0 je100x0 jr100x0 jp100x0 [(124, T55)] false (sp100x0 x).1 (L100x0 (sp100x0 x).1 (sp100x0 x).2) wy100x0.exits)]
def Q100 {α : Type} (l : GO r100 (objPats ps100) → α) (an : α → α → α) (x : (patsTy ps100).den) : α := cl (r86).dflt (M86 (x.1, x.2)) (fun u0 => cl (r87).dflt (M87 (x.1, (x.2.1, u0.1.2))) (fun u1 => onExit (L100x0 (x.2.1, ((), (u1.2.1, (u1.1, (((u1.1.n : Nat) : Int), (x.1, ())))))) ((0 : Int), ())) 0 (fun u2 => l (.ok u1.2 ())) (onPanL (L100x0 (x.2.1, ((), (u1.2.1, (u1.1, (((u1.1.n : Nat) : Int), (x.1, ())))))) ((0 : Int), ())) 124 T55 (fun u3 => l (.pan 124 T55 u3.1 ())) (l .bad))) (l .bad)) (l .bad)
theorem q100 (x : (patsTy ps100).den) : runG Try.prog E0 G100 Try.f100 l100 0 r100 ps100 x = Q100 .leaf .any x := by kernel_rfl
def U100 (x : (patsTy ps100).den) : GO r100 (objPats ps100) := Q100 (fun r => r) (fun _ _ => .bad) x
theorem m100 (x : (patsTy ps100).den) : (runG Try.prog E0 G100 Try.f100 l100 0 r100 ps100 x).detB .bad = U100 x := by rw [q100]; unfold U100 Q100; simp only [detB_cond, Tree.detB, detB_cl, detB_onExit, detB_onRet, detB_onPanL, detB_onNext, detB_onBrk, detB_onRetO, detB_onPan, detB_onOk, detB_onGPan]
theorem h100 : GHolds Try.prog 100 (gappD Try.f100.ntmps r100 ps100 pans100 U100) := gappD_holds (E := E0) follows_ok g100 eqTy_sound keyTy_sound at100 bd100 (by kernel_rfl) (fun G' hlo hF hE => LsOK_kn (by rw [lo100]; exact .cons (loopV_ok hE hF hlo (LsOK_kn (by rw [lo100x0]; exact .nil)) (by kernel_rfl) (by kernel_rfl) sp100x0 (fun _ => rfl) (fun _ _ => rfl) (s100x0) big) (.nil))) pans100 m100
/-- isobar/watch.sure -/
noncomputable def c79 : Code := Try.f79.body.getD .skip
theorem at79 : Try.prog.funcs[79]? = some Try.f79 := by kernel_rfl
theorem bd79 : Try.f79.body = some c79 := by kernel_rfl
theorem cl79 : Callable Try.prog 79 := callable_of at79 (by kernel_rfl) (by kernel_rfl)
abbrev T56 : Ty := (.cons tI T3)
abbrev a79 : Ty := T50
abbrev r79 : Ty := T56
noncomputable def G79 : Ctx := Ctx.of [(99, .gen (fun _ _ _ _ => .leaf .bad)), (100, .gen (gappD Try.f100.ntmps r100 ps100 pans100 U100))]
theorem g79 : Sound Try.prog (G79) := sound_of (List.forall_mem_cons.2 ⟨⟨cl99, gbad99⟩, List.forall_mem_cons.2 ⟨⟨cl100, h100⟩, fun _ h => by cases h⟩⟩)
theorem lo79 : loopsOf (c79) = [] := by kernel_rfl
noncomputable def l79 : List Loop := []
noncomputable def D79 : DCtx := DCtx.of [(99, d99)]
theorem ds79 : DSound Try.prog D79 := dsound_of (List.forall_mem_cons.2 ⟨⟨cl99, dh99⟩, fun _ h => by cases h⟩)
def Q79 {α : Type} (l : Option (r79).den → α) (an : α → α → α) (x : (a79).den) : α := onGPan (U100 (x.1, x.2)) 124 T55 (fun u0 => l (some ((0 : Int), (false, ())))) (onOk (U100 (x.1, x.2)) (fun u1 => l (some (u1.1.1, (true, ())))) (l none))
theorem q79 (x : (a79).den) : runFnD Try.prog E0 G79 D79 Try.f79 l79 a79 r79 x = Q79 .leaf .any x := by kernel_rfl
def M79 (x : (a79).den) : Option (r79).den := Q79 (fun r => r) (fun _ _ => none) x
theorem m79 (x : (a79).den) : (runFnD Try.prog E0 G79 D79 Try.f79 l79 a79 r79 x).sure = M79 x := by rw [q79]; unfold M79 Q79; simp only [sure_cond, Tree.sure, sure_cl, sure_onExit, sure_onRet, sure_onPanL, sure_onNext, sure_onBrk, sure_onRetO, sure_onPan, sure_onOk, sure_onGPan]
def p79 (x : (a79).den) : Bool := (M79 x).isSome
def v79 (x : (a79).den) : (r79).den := (M79 x).getD (r79).dflt
def k79 : Con := ⟨a79, r79, p79, v79⟩
theorem h79 : Holds Try.prog 79 k79 := holds_of_MD (E := E0) follows_ok g79 ds79 eqTy_sound keyTy_sound at79 bd79 (by kernel_rfl) m79 fun G' hlo hF hE => LsOK_kn (by rw [lo79]; exact .nil)
/-- slices.Index[[]int,int] -/
noncomputable def c101 : Code := Try.f101.body.getD .skip
theorem at101 : Try.prog.funcs[101]? = some Try.f101 := by kernel_rfl
theorem bd101 : Try.f101.body = some c101 := by kernel_rfl
theorem cl101 : Callable Try.prog 101 := callable_of at101 (by kernel_rfl) (by kernel_rfl)
abbrev a101 : Ty := T54
abbrev r101 : Ty := T0
noncomputable def G101 : Ctx := Ctx.of []
theorem g101 : Sound Try.prog (G101) := sound_of (fun _ h => by cases h)
noncomputable def b101x0 : Code := loopBody ((loopsOf (c101))[0]?)
theorem lo101x0 : loopsOf (b101x0) = [] := by kernel_rfl
abbrev cs101x0 : List Pat := [.slot 0 (.pc (.sl T0)), .slot 1 (.pc tI), .slot 7 (.pc tI)]
abbrev vs101x0 : List Pat := [.slot 8 (.pc tI)]
abbrev ps101x0 : List Pat := [.slot 0 (.pc (.sl T0)), .slot 1 (.pc tI), .slot 7 (.pc tI), .slot 8 (.pc tI)]
def j101x0 : (patsTy cs101x0).den → (patsTy vs101x0).den → (patsTy ps101x0).den := fun c v => (c.1, (c.2.1, (c.2.2.1, v)))
def sp101x0 : (patsTy ps101x0).den → (patsTy cs101x0).den × (patsTy vs101x0).den := fun x => ((x.1, (x.2.1, (x.2.2.1, ()))), x.2.2.2)
abbrev wy101x0 : Ways := ⟨[(0, [])], [.slot 4 (.pc tI)], []⟩
abbrev wv101x0 : Ways := ⟨[(0, [])], [.slot 4 (.pc tI)], []⟩
def je101x0 : (id : Nat) → (patsTy cs101x0).den → (patsTy (wayP wv101x0 id)).den → (patsTy (wayP wy101x0 id)).den := fun id => match id with | 0 => fun c y => y | id => fun _ _ => (patsTy (wayP wy101x0 id)).dflt
def jr101x0 : (patsTy cs101x0).den → (patsTy (wv101x0).ret).den → (patsTy (wy101x0).ret).den := fun c y => y
def jp101x0 : (patsTy cs101x0).den → (patsTy (wv101x0).pan).den → (patsTy (wy101x0).pan).den := fun c y => y
def Z101x0 {α : Type} (l : RQ vs101x0 wv101x0 → α) (an : α → α → α) (c : (patsTy cs101x0).den) (v : (patsTy vs101x0).den) : α := bif (decide (v.1 < c.2.2.1)) then bif (decide (((0 : Int) ≤ v.1) ∧ (v.1 < ((c.1.n : Nat) : Int)))) then bif (decide (c.2.1 = (c.1.g (Int.toNat v.1)).1)) then l (.out (.ret v)) else l (.next ((W (v.1 + (1 : Int))), ())) else l .bad else l (.out (.exit 0 ()))
theorem z101x0 (c : (patsTy cs101x0).den) (v : (patsTy vs101x0).den) : roundQ Try.prog E0 G101 0 19 [] ps101x0 wy101x0 b101x0 [] (j101x0 c v) = Z101x0 (fun r => .leaf (r.lift j101x0 je101x0 jr101x0 jp101x0 c)) .any c v := by kernel_rfl
def S101x0 (c : (patsTy cs101x0).den) (v : (patsTy vs101x0).den) : RQ vs101x0 wv101x0 := Z101x0 (fun r => r) (fun _ _ => .bad) c v
theorem s101x0 (c : (patsTy cs101x0).den) (v : (patsTy vs101x0).den) : detQ (roundQ Try.prog E0 G101 0 19 [] ps101x0 wy101x0 b101x0 [] (j101x0 c v)) = (S101x0 c v).lift j101x0 je101x0 jr101x0 jp101x0 c := by rw [z101x0]; unfold S101x0 Z101x0; simp only [detQ_cond, lift_cond, lift_bad, detQ, detQ_cl, detQ_onExit, detQ_onRet, detQ_onPanL, detQ_onNext, detQ_onBrk, detQ_onRetO, detQ_onPan, detQ_onOk, detQ_onGPan, lift_cl, lift_onExit, lift_onRet, lift_onPanL, lift_onNext, lift_onBrk, lift_onRetO, lift_onPan, lift_onOk, lift_onGPan]
def L101x0 (c : (patsTy cs101x0).den) (v : (patsTy vs101x0).den) : LQ wv101x0 := iterQ (S101x0 c) big v
theorem lo101 : loopsOf (c101) = [.loop b101x0] := by kernel_rfl
noncomputable def l101 : List Loop := [.known (loopZ 0 [] ps101x0 fun x => spreadV wy101x0 je101x0 jr101x0 jp101x0 [] true (sp101x0 x).1 (L101x0 (sp101x0 x).1 (sp101x0 x).2) wy101x0.exits)]
def Q101 {α : Type} (l : Option (r101).den → α) (an : α → α → α) (x : (a101).den) : α := onExit (L101x0 (x.1, (x.2.1, (((x.1.n : Nat) : Int), ()))) ((0 : Int), ())) 0 (fun u0 => l (some ((-1 : Int), ()))) (onRet (L101x0 (x.1, (x.2.1, (((x.1.n : Nat) : Int), ()))) ((0 : Int), ())) (fun u1 => l (some u1)) (l none))
theorem q101 (x : (a101).den) : runFn Try.prog E0 G101 Try.f101 l101 a101 r101 x = Q101 .leaf .any x := by kernel_rfl
def M101 (x : (a101).den) : Option (r101).den := Q101 (fun r => r) (fun _ _ => none) x
theorem m101 (x : (a101).den) : (runFn Try.prog E0 G101 Try.f101 l101 a101 r101 x).sure = M101 x := by rw [q101]; unfold M101 Q101; simp only [sure_cond, Tree.sure, sure_cl, sure_onExit, sure_onRet, sure_onPanL, sure_onNext, sure_onBrk, sure_onRetO, sure_onPan, sure_onOk, sure_onGPan]
def p101 (x : (a101).den) : Bool := (M101 x).isSome
def v101 (x : (a101).den) : (r101).den := (M101 x).getD (r101).dflt
def k101 : Con := ⟨a101, r101, p101, v101⟩
theorem h101 : Holds Try.prog 101 k101 := holds_of_M' (E := E0) follows_ok g101 eqTy_sound keyTy_sound at101 bd101 (by kernel_rfl) m101 fun G' hlo hF hE => LsOK_kn (by rw [lo101]; exact .cons (loopV_ok hE hF hlo (LsOK_kn (by rw [lo101x0]; exact .nil)) (by kernel_rfl) (by kernel_rfl) sp101x0 (fun _ => rfl) (fun _ _ => rfl) (s101x0) big) (.nil))
/-- slices.Contains[[]int,int] -/
noncomputable def c81 : Code := Try.f81.body.getD .skip
theorem at81 : Try.prog.funcs[81]? = some Try.f81 := by kernel_rfl
theorem bd81 : Try.f81.body = some c81 := by kernel_rfl
theorem cl81 : Callable Try.prog 81 := callable_of at81 (by kernel_rfl) (by kernel_rfl)
abbrev a81 : Ty := T54
abbrev r81 : Ty := T3
noncomputable def G81 : Ctx := Ctx.of [(101, .pure k101)]
theorem g81 : Sound Try.prog (G81) := sound_of (List.forall_mem_cons.2 ⟨⟨cl101, h101⟩, fun _ h => by cases h⟩)
theorem lo81 : loopsOf (c81) = [] := by kernel_rfl
noncomputable def l81 : List Loop := []
def Q81 {α : Type} (l : Option (r81).den → α) (an : α → α → α) (x : (a81).den) : α := cl (r101).dflt (M101 x) (fun u0 => l (some ((decide ((0 : Int) ≤ u0.1)), ()))) (l none)
theorem q81 (x : (a81).den) : runFn Try.prog E0 G81 Try.f81 l81 a81 r81 x = Q81 .leaf .any x := by kernel_rfl
def M81 (x : (a81).den) : Option (r81).den := Q81 (fun r => r) (fun _ _ => none) x
theorem m81 (x : (a81).den) : (runFn Try.prog E0 G81 Try.f81 l81 a81 r81 x).sure = M81 x := by rw [q81]; unfold M81 Q81; simp only [sure_cond, Tree.sure, sure_cl, sure_onExit, sure_onRet, sure_onPanL, sure_onNext, sure_onBrk, sure_onRetO, sure_onPan, sure_onOk, sure_onGPan]
def p81 (x : (a81).den) : Bool := (M81 x).isSome
def v81 (x : (a81).den) : (r81).den := (M81 x).getD (r81).dflt
def k81 : Con := ⟨a81, r81, p81, v81⟩
theorem h81 : Holds Try.prog 81 k81 := holds_of_M' (E := E0) follows_ok g81 eqTy_sound keyTy_sound at81 bd81 (by kernel_rfl) m81 fun G' hlo hF hE => LsOK_kn (by rw [lo81]; exact .nil)
/-- cmp.isNaN[int] -/
noncomputable def c106 : Code := Try.f106.body.getD .skip
theorem at106 : Try.prog.funcs[106]? = some Try.f106 := by kernel_rfl
theorem bd106 : Try.f106.body = some c106 := by kernel_rfl
theorem cl106 : Callable Try.prog 106 := callable_of at106 (by kernel_rfl) (by kernel_rfl)
abbrev a106 : Ty := T0
abbrev r106 : Ty := T3
noncomputable def G106 : Ctx := Ctx.of []
theorem g106 : Sound Try.prog (G106) := sound_of (fun _ h => by cases h)
theorem lo106 : loopsOf (c106) = [] := by kernel_rfl
noncomputable def l106 : List Loop := []
def Q106 {α : Type} (l : Option (r106).den → α) (an : α → α → α) (x : (a106).den) : α := l (some ((!(decide (x.1 = x.1))), ()))
theorem q106 (x : (a106).den) : runFn Try.prog E0 G106 Try.f106 l106 a106 r106 x = Q106 .leaf .any x := by kernel_rfl
def M106 (x : (a106).den) : Option (r106).den := Q106 (fun r => r) (fun _ _ => none) x
theorem m106 (x : (a106).den) : (runFn Try.prog E0 G106 Try.f106 l106 a106 r106 x).sure = M106 x := by rw [q106]; unfold M106 Q106; simp only [sure_cond, Tree.sure, sure_cl, sure_onExit, sure_onRet, sure_onPanL, sure_onNext, sure_onBrk, sure_onRetO, sure_onPan, sure_onOk, sure_onGPan]
def p106 (x : (a106).den) : Bool := (M106 x).isSome
def v106 (x : (a106).den) : (r106).den := (M106 x).getD (r106).dflt
def k106 : Con := ⟨a106, r106, p106, v106⟩
theorem h106 : Holds Try.prog 106 k106 := holds_of_M' (E := E0) follows_ok g106 eqTy_sound keyTy_sound at106 bd106 (by kernel_rfl) m106 fun G' hlo hF hE => LsOK_kn (by rw [lo106]; exact .nil)
/-- cmp.Compare[int] -/
noncomputable def c105 : Code := Try.f105.body.getD .skip
theorem at105 : Try.prog.funcs[105]? = some Try.f105 := by kernel_rfl
theorem bd105 : Try.f105.body = some c105 := by kernel_rfl
theorem cl105 : Callable Try.prog 105 := callable_of at105 (by kernel_rfl) (by kernel_rfl)
abbrev a105 : Ty := T1
abbrev r105 : Ty := T0
noncomputable def G105 : Ctx := Ctx.of [(106, .pure k106)]
theorem g105 : Sound Try.prog (G105) := sound_of (List.forall_mem_cons.2 ⟨⟨cl106, h106⟩, fun _ h => by cases h⟩)
theorem lo105 : loopsOf (c105) = [] := by kernel_rfl
noncomputable def l105 : List Loop := []
def Q105 {α : Type} (l : Option (r105).den → α) (an : α → α → α) (x : (a105).den) : α := cl (r106).dflt (M106 (x.1, ())) (fun u0 => cl (r106).dflt (M106 x.2) (fun u1 => bif u0.1 then bif u1.1 then l (some ((0 : Int), ())) else l (some ((-1 : Int), ())) else bif u1.1 then l (some ((1 : Int), ())) else bif (decide (x.1 < x.2.1)) then l (some ((-1 : Int), ())) else bif (decide (x.2.1 < x.1)) then l (some ((1 : Int), ())) else l (some ((0 : Int), ()))) (l none)) (l none)
theorem q105 (x : (a105).den) : runFn Try.prog E0 G105 Try.f105 l105 a105 r105 x = Q105 .leaf .any x := by kernel_rfl
def M105 (x : (a105).den) : Option (r105).den := Q105 (fun r => r) (fun _ _ => none) x
theorem m105 (x : (a105).den) : (runFn Try.prog E0 G105 Try.f105 l105 a105 r105 x).sure = M105 x := by rw [q105]; unfold M105 Q105; simp only [sure_cond, Tree.sure, sure_cl, sure_onExit, sure_onRet, sure_onPanL, sure_onNext, sure_onBrk, sure_onRetO, sure_onPan, sure_onOk, sure_onGPan]
def p105 (x : (a105).den) : Bool := (M105 x).isSome
def v105 (x : (a105).den) : (r105).den := (M105 x).getD (r105).dflt
def k105 : Con := ⟨a105, r105, p105, v105⟩
theorem h105 : Holds Try.prog 105 k105 := holds_of_M' (E := E0) follows_ok g105 eqTy_sound keyTy_sound at105 bd105 (by kernel_rfl) m105 fun G' hlo hF hE => LsOK_kn (by rw [lo105]; exact .nil)
/-- slices.Compare[[]int,int] -/
noncomputable def c102 : Code := Try.f102.body.getD .skip
theorem at102 : Try.prog.funcs[102]? = some Try.f102 := by kernel_rfl
theorem bd102 : Try.f102.body = some c102 := by kernel_rfl
theorem cl102 : Callable Try.prog 102 := callable_of at102 (by kernel_rfl) (by kernel_rfl)
abbrev a102 : Ty := T24
abbrev r102 : Ty := T0
noncomputable def G102 : Ctx := Ctx.of [(105, .pure k105)]
theorem g102 : Sound Try.prog (G102) := sound_of (List.forall_mem_cons.2 ⟨⟨cl105, h105⟩, fun _ h => by cases h⟩)
noncomputable def b102x0 : Code := loopBody ((loopsOf (c102))[0]?)
theorem lo102x0 : loopsOf (b102x0) = [] := by kernel_rfl
abbrev cs102x0 : List Pat := [.slot 0 (.pc (.sl T0)), .slot 1 (.pc (.sl T0)), .slot 9 (.pc (.sl T0)), .slot 10 (.pc tI)]
abbrev vs102x0 : List Pat := [.slot 11 (.pc tI)]
abbrev ps102x0 : List Pat := [.slot 0 (.pc (.sl T0)), .slot 1 (.pc (.sl T0)), .slot 9 (.pc (.sl T0)), .slot 10 (.pc tI), .slot 11 (.pc tI)]
def j102x0 : (patsTy cs102x0).den → (patsTy vs102x0).den → (patsTy ps102x0).den := fun c v => (c.1, (c.2.1, (c.2.2.1, (c.2.2.2.1, v))))
def sp102x0 : (patsTy ps102x0).den → (patsTy cs102x0).den × (patsTy vs102x0).den := fun x => ((x.1, (x.2.1, (x.2.2.1, (x.2.2.2.1, ())))), x.2.2.2.2)
abbrev wy102x0 : Ways := ⟨[(0, [.slot 0 (.pc (.sl T0)), .slot 1 (.pc (.sl T0))])], [.slot 4 (.pc tI)], []⟩
abbrev wv102x0 : Ways := ⟨[(0, [])], [.slot 4 (.pc tI)], []⟩
def je102x0 : (id : Nat) → (patsTy cs102x0).den → (patsTy (wayP wv102x0 id)).den → (patsTy (wayP wy102x0 id)).den := fun id => match id with | 0 => fun c y => (c.1, (c.2.1, y)) | id => fun _ _ => (patsTy (wayP wy102x0 id)).dflt
def jr102x0 : (patsTy cs102x0).den → (patsTy (wv102x0).ret).den → (patsTy (wy102x0).ret).den := fun c y => y
def jp102x0 : (patsTy cs102x0).den → (patsTy (wv102x0).pan).den → (patsTy (wy102x0).pan).den := fun c y => y
def Z102x0 {α : Type} (l : RQ vs102x0 wv102x0 → α) (an : α → α → α) (c : (patsTy cs102x0).den) (v : (patsTy vs102x0).den) : α := bif (decide (v.1 < c.2.2.2.1)) then bif (decide (((0 : Int) ≤ v.1) ∧ (v.1 < ((c.2.2.1.n : Nat) : Int)))) then bif (decide (((c.2.1.n : Nat) : Int) ≤ v.1)) then l (.out (.ret ((1 : Int), ()))) else bif (decide (((0 : Int) ≤ v.1) ∧ (v.1 < ((c.2.1.n : Nat) : Int)))) then cl (r105).dflt (M105 ((c.2.2.1.g (Int.toNat v.1)).1, (c.2.1.g (Int.toNat v.1)))) (fun u0 => bif (!(decide (u0.1 = (0 : Int)))) then l (.out (.ret u0)) else l (.next ((W (v.1 + (1 : Int))), ()))) (l .bad) else l .bad else l .bad else l (.out (.exit 0 ()))
theorem z102x0 (c : (patsTy cs102x0).den) (v : (patsTy vs102x0).den) : roundQ Try.prog E0 G102 0 36 [] ps102x0 wy102x0 b102x0 [] (j102x0 c v) = Z102x0 (fun r => .leaf (r.lift j102x0 je102x0 jr102x0 jp102x0 c)) .any c v := by kernel_rfl
def S102x0 (c : (patsTy cs102x0).den) (v : (patsTy vs102x0).den) : RQ vs102x0 wv102x0 := Z102x0 (fun r => r) (fun _ _ => .bad) c v
theorem s102x0 (c : (patsTy cs102x0).den) (v : (patsTy vs102x0).den) : detQ (roundQ Try.prog E0 G102 0 36 [] ps102x0 wy102x0 b102x0 [] (j102x0 c v)) = (S102x0 c v).lift j102x0 je102x0 jr102x0 jp102x0 c := by rw [z102x0]; unfold S102x0 Z102x0; simp only [detQ_cond, lift_cond, lift_bad, detQ, detQ_cl, detQ_onExit, detQ_onRet, detQ_onPanL, detQ_onNext, detQ_onBrk, detQ_onRetO, detQ_onPan, detQ_onOk, detQ_onGPan, lift_cl, lift_onExit, lift_onRet, lift_onPanL, lift_onNext, lift_onBrk, lift_onRetO, lift_onPan, lift_onOk, lift_onGPan]
def L102x0 (c : (patsTy cs102x0).den) (v : (patsTy vs102x0).den) : LQ wv102x0 := iterQ (S102x0 c) big v
theorem lo102 : loopsOf (c102) = [.loop b102x0] := by kernel_rfl
noncomputable def l102 : List Loop := [.known (loopZ 0 [] ps102x0 fun x => spreadV wy102x0 je102x0 jr102x0 jp102x0 [] true (sp102x0 x).1 (L102x0 (sp102x0 x).1 (sp102x0 x).2) wy102x0.exits)]
def Q102 {α : Type} (l : Option (r102).den → α) (an : α → α → α) (x : (a102).den) : α := onExit (L102x0 (x.1, (x.2.1, (x.1, (((x.1.n : Nat) : Int), ())))) ((0 : Int), ())) 0 (fun u1 => bif (decide (((x.1.n : Nat) : Int) < ((x.2.1.n : Nat) : Int))) then l (some ((-1 : Int), ())) else l (some ((0 : Int), ()))) (onRet (L102x0 (x.1, (x.2.1, (x.1, (((x.1.n : Nat) : Int), ())))) ((0 : Int), ())) (fun u2 => l (some u2)) (l none))
theorem q102 (x : (a102).den) : runFn Try.prog E0 G102 Try.f102 l102 a102 r102 x = Q102 .leaf .any x := by kernel_rfl
def M102 (x : (a102).den) : Option (r102).den := Q102 (fun r => r) (fun _ _ => none) x
theorem m102 (x : (a102).den) : (runFn Try.prog E0 G102 Try.f102 l102 a102 r102 x).sure = M102 x := by rw [q102]; unfold M102 Q102; simp only [sure_cond, Tree.sure, sure_cl, sure_onExit, sure_onRet, sure_onPanL, sure_onNext, sure_onBrk, sure_onRetO, sure_onPan, sure_onOk, sure_onGPan]
def p102 (x : (a102).den) : Bool := (M102 x).isSome
def v102 (x : (a102).den) : (r102).den := (M102 x).getD (r102).dflt
def k102 : Con := ⟨a102, r102, p102, v102⟩
theorem h102 : Holds Try.prog 102 k102 := holds_of_M' (E := E0) follows_ok g102 eqTy_sound keyTy_sound at102 bd102 (by kernel_rfl) m102 fun G' hlo hF hE => LsOK_kn (by rw [lo102]; exact .cons (loopV_ok hE hF hlo (LsOK_kn (by rw [lo102x0]; exact .nil)) (by kernel_rfl) (by kernel_rfl) sp102x0 (fun _ => rfl) (fun _ _ => rfl) (s102x0) big) (.nil))
/-- isobar/watch.better -/
noncomputable def c83 : Code := Try.f83.body.getD .skip
theorem at83 : Try.prog.funcs[83]? = some Try.f83 := by kernel_rfl
theorem bd83 : Try.f83.body = some c83 := by kernel_rfl
theorem cl83 : Callable Try.prog 83 := callable_of at83 (by kernel_rfl) (by kernel_rfl)
abbrev T57 : Ty := (.agg T54)
abbrev T58 : Ty := (.cons T57 .nil)
abbrev T59 : Ty := (.cons T57 T58)
abbrev a83 : Ty := T59
abbrev r83 : Ty := T3
noncomputable def G83 : Ctx := Ctx.of [(102, .pure k102)]
theorem g83 : Sound Try.prog (G83) := sound_of (List.forall_mem_cons.2 ⟨⟨cl102, h102⟩, fun _ h => by cases h⟩)
theorem lo83 : loopsOf (c83) = [] := by kernel_rfl
noncomputable def l83 : List Loop := []
def Q83 {α : Type} (l : Option (r83).den → α) (an : α → α → α) (x : (a83).den) : α := bif (!(decide (((x.1.1.n : Nat) : Int) = ((x.2.1.1.n : Nat) : Int)))) then l (some ((decide (((x.2.1.1.n : Nat) : Int) < ((x.1.1.n : Nat) : Int))), ())) else bif (!(decide (x.1.2.1 = x.2.1.2.1))) then l (some ((decide (x.1.2.1 < x.2.1.2.1)), ())) else cl (r102).dflt (M102 (x.1.1, (x.2.1.1, ()))) (fun u0 => l (some ((decide (u0.1 < (0 : Int))), ()))) (l none)
theorem q83 (x : (a83).den) : runFn Try.prog E0 G83 Try.f83 l83 a83 r83 x = Q83 .leaf .any x := by kernel_rfl
def M83 (x : (a83).den) : Option (r83).den := Q83 (fun r => r) (fun _ _ => none) x
theorem m83 (x : (a83).den) : (runFn Try.prog E0 G83 Try.f83 l83 a83 r83 x).sure = M83 x := by rw [q83]; unfold M83 Q83; simp only [sure_cond, Tree.sure, sure_cl, sure_onExit, sure_onRet, sure_onPanL, sure_onNext, sure_onBrk, sure_onRetO, sure_onPan, sure_onOk, sure_onGPan]
def p83 (x : (a83).den) : Bool := (M83 x).isSome
def v83 (x : (a83).den) : (r83).den := (M83 x).getD (r83).dflt
def k83 : Con := ⟨a83, r83, p83, v83⟩
theorem h83 : Holds Try.prog 83 k83 := holds_of_M' (E := E0) follows_ok g83 eqTy_sound keyTy_sound at83 bd83 (by kernel_rfl) m83 fun G' hlo hF hE => LsOK_kn (by rw [lo83]; exact .nil)
/-- isobar/isobarref09.Same -/
noncomputable def c42 : Code := Try.f42.body.getD .skip
theorem at42 : Try.prog.funcs[42]? = some Try.f42 := by kernel_rfl
theorem bd42 : Try.f42.body = some c42 := by kernel_rfl
theorem cl42 : Callable Try.prog 42 := callable_of at42 (by kernel_rfl) (by kernel_rfl)
abbrev a42 : Ty := T24
abbrev r42 : Ty := T3
noncomputable def G42 : Ctx := Ctx.of []
theorem g42 : Sound Try.prog (G42) := sound_of (fun _ h => by cases h)
noncomputable def b42x0 : Code := loopBody ((loopsOf (c42))[0]?)
theorem lo42x0 : loopsOf (b42x0) = [] := by kernel_rfl
abbrev cs42x0 : List Pat := [.slot 0 (.pc (.sl T0)), .slot 1 (.pc (.sl T0))]
abbrev vs42x0 : List Pat := [.slot 5 (.pc tI)]
abbrev ps42x0 : List Pat := [.slot 0 (.pc (.sl T0)), .slot 1 (.pc (.sl T0)), .slot 5 (.pc tI)]
def j42x0 : (patsTy cs42x0).den → (patsTy vs42x0).den → (patsTy ps42x0).den := fun c v => (c.1, (c.2.1, v))
def sp42x0 : (patsTy ps42x0).den → (patsTy cs42x0).den × (patsTy vs42x0).den := fun x => ((x.1, (x.2.1, ())), x.2.2)
abbrev wy42x0 : Ways := ⟨[(0, [])], [.slot 4 (.pc .bool)], []⟩
abbrev wv42x0 : Ways := ⟨[(0, [])], [.slot 4 (.pc .bool)], []⟩
def je42x0 : (id : Nat) → (patsTy cs42x0).den → (patsTy (wayP wv42x0 id)).den → (patsTy (wayP wy42x0 id)).den := fun id => match id with | 0 => fun c y => y | id => fun _ _ => (patsTy (wayP wy42x0 id)).dflt
def jr42x0 : (patsTy cs42x0).den → (patsTy (wv42x0).ret).den → (patsTy (wy42x0).ret).den := fun c y => y
def jp42x0 : (patsTy cs42x0).den → (patsTy (wv42x0).pan).den → (patsTy (wy42x0).pan).den := fun c y => y
def Z42x0 {α : Type} (l : RQ vs42x0 wv42x0 → α) (an : α → α → α) (c : (patsTy cs42x0).den) (v : (patsTy vs42x0).den) : α := bif (decide (v.1 < ((c.1.n : Nat) : Int))) then bif (decide (((0 : Int) ≤ v.1) ∧ (v.1 < ((c.1.n : Nat) : Int)))) then bif (decide (((0 : Int) ≤ v.1) ∧ (v.1 < ((c.2.1.n : Nat) : Int)))) then bif (!(decide ((c.1.g (Int.toNat v.1)).1 = (c.2.1.g (Int.toNat v.1)).1))) then l (.out (.ret (false, ()))) else l (.next ((W (v.1 + (1 : Int))), ())) else l .bad else l .bad else l (.out (.exit 0 ()))
theorem z42x0 (c : (patsTy cs42x0).den) (v : (patsTy vs42x0).den) : roundQ Try.prog E0 G42 0 26 [] ps42x0 wy42x0 b42x0 [] (j42x0 c v) = Z42x0 (fun r => .leaf (r.lift j42x0 je42x0 jr42x0 jp42x0 c)) .any c v := by kernel_rfl
def S42x0 (c : (patsTy cs42x0).den) (v : (patsTy vs42x0).den) : RQ vs42x0 wv42x0 := Z42x0 (fun r => r) (fun _ _ => .bad) c v
theorem s42x0 (c : (patsTy cs42x0).den) (v : (patsTy vs42x0).den) : detQ (roundQ Try.prog E0 G42 0 26 [] ps42x0 wy42x0 b42x0 [] (j42x0 c v)) = (S42x0 c v).lift j42x0 je42x0 jr42x0 jp42x0 c := by rw [z42x0]; unfold S42x0 Z42x0; simp only [detQ_cond, lift_cond, lift_bad, detQ, detQ_cl, detQ_onExit, detQ_onRet, detQ_onPanL, detQ_onNext, detQ_onBrk, detQ_onRetO, detQ_onPan, detQ_onOk, detQ_onGPan, lift_cl, lift_onExit, lift_onRet, lift_onPanL, lift_onNext, lift_onBrk, lift_onRetO, lift_onPan, lift_onOk, lift_onGPan]
def L42x0 (c : (patsTy cs42x0).den) (v : (patsTy vs42x0).den) : LQ wv42x0 := iterQ (S42x0 c) big v
theorem lo42 : loopsOf (c42) = [.loop b42x0] := by kernel_rfl
noncomputable def l42 : List Loop := [.known (loopZ 0 [] ps42x0 fun x => spreadV wy42x0 je42x0 jr42x0 jp42x0 [] true (sp42x0 x).1 (L42x0 (sp42x0 x).1 (sp42x0 x).2) wy42x0.exits)]
def Q42 {α : Type} (l : Option (r42).den → α) (an : α → α → α) (x : (a42).den) : α := bif (!(decide (((x.1.n : Nat) : Int) = ((x.2.1.n : Nat) : Int)))) then l (some (false, ())) else onExit (L42x0 x ((0 : Int), ())) 0 (fun u0 => l (some (true, ()))) (onRet (L42x0 x ((0 : Int), ())) (fun u1 => l (some u1)) (l none))
theorem q42 (x : (a42).den) : runFn Try.prog E0 G42 Try.f42 l42 a42 r42 x = Q42 .leaf .any x := by kernel_rfl
def M42 (x : (a42).den) : Option (r42).den := Q42 (fun r => r) (fun _ _ => none) x
theorem m42 (x : (a42).den) : (runFn Try.prog E0 G42 Try.f42 l42 a42 r42 x).sure = M42 x := by rw [q42]; unfold M42 Q42; simp only [sure_cond, Tree.sure, sure_cl, sure_onExit, sure_onRet, sure_onPanL, sure_onNext, sure_onBrk, sure_onRetO, sure_onPan, sure_onOk, sure_onGPan]
def p42 (x : (a42).den) : Bool := (M42 x).isSome
def v42 (x : (a42).den) : (r42).den := (M42 x).getD (r42).dflt
def k42 : Con := ⟨a42, r42, p42, v42⟩
theorem h42 : Holds Try.prog 42 k42 := holds_of_M' (E := E0) follows_ok g42 eqTy_sound keyTy_sound at42 bd42 (by kernel_rfl) m42 fun G' hlo hF hE => LsOK_kn (by rw [lo42]; exact .cons (loopV_ok hE hF hlo (LsOK_kn (by rw [lo42x0]; exact .nil)) (by kernel_rfl) (by kernel_rfl) sp42x0 (fun _ => rfl) (fun _ _ => rfl) (s42x0) big) (.nil))
/-- isobar/watch.ordered -/
noncomputable def c85 : Code := Try.f85.body.getD .skip
theorem at85 : Try.prog.funcs[85]? = some Try.f85 := by kernel_rfl
theorem bd85 : Try.f85.body = some c85 := by kernel_rfl
theorem cl85 : Callable Try.prog 85 := callable_of at85 (by kernel_rfl) (by kernel_rfl)
abbrev a85 : Ty := T50
abbrev r85 : Ty := T3
noncomputable def G85 : Ctx := Ctx.of [(60, .pure k60), (81, .pure k81)]
theorem g85 : Sound Try.prog (G85) := sound_of (List.forall_mem_cons.2 ⟨⟨cl60, h60⟩, List.forall_mem_cons.2 ⟨⟨cl81, h81⟩, fun _ h => by cases h⟩⟩)
noncomputable def b85x0 : Code := loopBody ((loopsOf (c85))[0]?)
theorem lo85x0 : loopsOf (b85x0) = [] := by kernel_rfl
abbrev cs85x0 : List Pat := [.slot 1 (.pc (.sl T0)), .slot 2 (.ptr 2), .slot 13 (.pc (.sl T0)), .slot 14 (.pc tI), .box 2 [.pc tI, .pc (.sl T1), .pc T44]]
abbrev vs85x0 : List Pat := [.slot 15 (.pc tI)]
abbrev ps85x0 : List Pat := [.slot 1 (.pc (.sl T0)), .slot 2 (.ptr 2), .slot 13 (.pc (.sl T0)), .slot 14 (.pc tI), .box 2 [.pc tI, .pc (.sl T1), .pc T44], .slot 15 (.pc tI)]
def j85x0 : (patsTy cs85x0).den → (patsTy vs85x0).den → (patsTy ps85x0).den := fun c v => (c.1, (c.2.1, (c.2.2.1, (c.2.2.2.1, (c.2.2.2.2.1, v)))))
def sp85x0 : (patsTy ps85x0).den → (patsTy cs85x0).den × (patsTy vs85x0).den := fun x => ((x.1, (x.2.1, (x.2.2.1, (x.2.2.2.1, (x.2.2.2.2.1, ()))))), x.2.2.2.2.2)
abbrev wy85x0 : Ways := ⟨[(0, [])], [.slot 4 (.pc .bool)], []⟩
abbrev wv85x0 : Ways := ⟨[(0, [])], [.slot 4 (.pc .bool)], []⟩
def je85x0 : (id : Nat) → (patsTy cs85x0).den → (patsTy (wayP wv85x0 id)).den → (patsTy (wayP wy85x0 id)).den := fun id => match id with | 0 => fun c y => y | id => fun _ _ => (patsTy (wayP wy85x0 id)).dflt
def jr85x0 : (patsTy cs85x0).den → (patsTy (wv85x0).ret).den → (patsTy (wy85x0).ret).den := fun c y => y
def jp85x0 : (patsTy cs85x0).den → (patsTy (wv85x0).pan).den → (patsTy (wy85x0).pan).den := fun c y => y
def Z85x0 {α : Type} (l : RQ vs85x0 wv85x0 → α) (an : α → α → α) (c : (patsTy cs85x0).den) (v : (patsTy vs85x0).den) : α := bif (decide (v.1 < c.2.2.2.1)) then bif (decide (((0 : Int) ≤ v.1) ∧ (v.1 < ((c.2.2.1.n : Nat) : Int)))) then cl (r60).dflt (M60 ((c.2.2.1.g (Int.toNat v.1)).1, ((0 : Int), ((W (((c.2.2.2.2.1.2.1.n : Nat) : Int) - (1 : Int))), ())))) (fun u0 => bif (!u0.1) then l (.out (.ret (false, ()))) else bif (decide (((0 : Int) ≤ (0 : Int)) ∧ (((0 : Int) ≤ v.1) ∧ (v.1 ≤ ((c.1.n : Nat) : Int))))) then cl (r81).dflt (M81 ((⟨(Int.toNat (v.1 - (0 : Int))), fun i => (c.1.g (i + 0))⟩ : Sl _), (c.2.2.1.g (Int.toNat v.1)))) (fun u1 => bif u1.1 then l (.out (.ret (false, ()))) else l (.next ((W (v.1 + (1 : Int))), ()))) (l .bad) else l .bad) (l .bad) else l .bad else l (.out (.exit 0 ()))
theorem z85x0 (c : (patsTy cs85x0).den) (v : (patsTy vs85x0).den) : roundQ Try.prog E0 G85 0 35 [] ps85x0 wy85x0 b85x0 [] (j85x0 c v) = Z85x0 (fun r => .leaf (r.lift j85x0 je85x0 jr85x0 jp85x0 c)) .any c v := by kernel_rfl
def S85x0 (c : (patsTy cs85x0).den) (v : (patsTy vs85x0).den) : RQ vs85x0 wv85x0 := Z85x0 (fun r => r) (fun _ _ => .bad) c v
theorem s85x0 (c : (patsTy cs85x0).den) (v : (patsTy vs85x0).den) : detQ (roundQ Try.prog E0 G85 0 35 [] ps85x0 wy85x0 b85x0 [] (j85x0 c v)) = (S85x0 c v).lift j85x0 je85x0 jr85x0 jp85x0 c := by rw [z85x0]; unfold S85x0 Z85x0; simp only [detQ_cond, lift_cond, lift_bad, detQ, detQ_cl, detQ_onExit, detQ_onRet, detQ_onPanL, detQ_onNext, detQ_onBrk, detQ_onRetO, detQ_onPan, detQ_onOk, detQ_onGPan, lift_cl, lift_onExit, lift_onRet, lift_onPanL, lift_onNext, lift_onBrk, lift_onRetO, lift_onPan, lift_onOk, lift_onGPan]
def L85x0 (c : (patsTy cs85x0).den) (v : (patsTy vs85x0).den) : LQ wv85x0 := iterQ (S85x0 c) big v
theorem lo85 : loopsOf (c85) = [.loop b85x0] := by kernel_rfl
noncomputable def l85 : List Loop := [.known (loopZ 0 [] ps85x0 fun x => spreadV wy85x0 je85x0 jr85x0 jp85x0 [] true (sp85x0 x).1 (L85x0 (sp85x0 x).1 (sp85x0 x).2) wy85x0.exits)]
def Q85 {α : Type} (l : Option (r85).den → α) (an : α → α → α) (x : (a85).den) : α := bif (decide (((x.1.2.1.n : Nat) : Int) < ((x.2.1.n : Nat) : Int))) then l (some (false, ())) else onExit (L85x0 (x.2.1, ((), (x.2.1, (((x.2.1.n : Nat) : Int), (x.1, ()))))) ((0 : Int), ())) 0 (fun u2 => l (some (true, ()))) (onRet (L85x0 (x.2.1, ((), (x.2.1, (((x.2.1.n : Nat) : Int), (x.1, ()))))) ((0 : Int), ())) (fun u3 => l (some u3)) (l none))
theorem q85 (x : (a85).den) : runFn Try.prog E0 G85 Try.f85 l85 a85 r85 x = Q85 .leaf .any x := by kernel_rfl
def M85 (x : (a85).den) : Option (r85).den := Q85 (fun r => r) (fun _ _ => none) x
theorem m85 (x : (a85).den) : (runFn Try.prog E0 G85 Try.f85 l85 a85 r85 x).sure = M85 x := by rw [q85]; unfold M85 Q85; simp only [sure_cond, Tree.sure, sure_cl, sure_onExit, sure_onRet, sure_onPanL, sure_onNext, sure_onBrk, sure_onRetO, sure_onPan, sure_onOk, sure_onGPan]
def p85 (x : (a85).den) : Bool := (M85 x).isSome
def v85 (x : (a85).den) : (r85).den := (M85 x).getD (r85).dflt
def k85 : Con := ⟨a85, r85, p85, v85⟩
theorem h85 : Holds Try.prog 85 k85 := holds_of_M' (E := E0) follows_ok g85 eqTy_sound keyTy_sound at85 bd85 (by kernel_rfl) m85 fun G' hlo hF hE => LsOK_kn (by rw [lo85]; exact .cons (loopV_ok hE hF hlo (LsOK_kn (by rw [lo85x0]; exact .nil)) (by kernel_rfl) (by kernel_rfl) sp85x0 (fun _ => rfl) (fun _ _ => rfl) (s85x0) big) (.nil))
/-- isobar/watch.Known -/
noncomputable def c49 : Code := Try.f49.body.getD .skip
theorem at49 : Try.prog.funcs[49]? = some Try.f49 := by kernel_rfl
theorem bd49 : Try.f49.body = some c49 := by kernel_rfl
theorem cl49 : Callable Try.prog 49 := callable_of at49 (by kernel_rfl) (by kernel_rfl)
abbrev T60 : Ty := (.cons (.sl T1) T6)
abbrev a49 : Ty := T50
abbrev r49 : Ty := T60
noncomputable def G49 : Ctx := Ctx.of [(77, .pure k77), (85, .pure k85), (86, .pure k86), (87, .pure k87)]
theorem g49 : Sound Try.prog (G49) := sound_of (List.forall_mem_cons.2 ⟨⟨cl77, h77⟩, List.forall_mem_cons.2 ⟨⟨cl85, h85⟩, List.forall_mem_cons.2 ⟨⟨cl86, h86⟩, List.forall_mem_cons.2 ⟨⟨cl87, h87⟩, fun _ h => by cases h⟩⟩⟩⟩)
noncomputable def b49x0 : Code := loopBody ((loopsOf (c49))[0]?)
theorem lo49x0 : loopsOf (b49x0) = [] := by kernel_rfl
abbrev cs49x0 : List Pat := [.slot 5 (.ptr 5), .slot 8 (.pc (.sl T0)), .slot 9 (.pc tI), .slot 10 (.pc (.sl T0)), .slot 11 (.pc tI), .slot 44 (.pc tI), .box 5 [.pc tI, .pc tI]]
abbrev vs49x0 : List Pat := [.slot 12 (.own 1000012 65 T1), .slot 45 (.pc tI)]
abbrev ps49x0 : List Pat := [.slot 5 (.ptr 5), .slot 8 (.pc (.sl T0)), .slot 9 (.pc tI), .slot 10 (.pc (.sl T0)), .slot 11 (.pc tI), .slot 44 (.pc tI), .box 5 [.pc tI, .pc tI], .slot 12 (.own 1000012 65 T1), .slot 45 (.pc tI)]
def j49x0 : (patsTy cs49x0).den → (patsTy vs49x0).den → (patsTy ps49x0).den := fun c v => (c.1, (c.2.1, (c.2.2.1, (c.2.2.2.1, (c.2.2.2.2.1, (c.2.2.2.2.2.1, (c.2.2.2.2.2.2.1, v)))))))
def sp49x0 : (patsTy ps49x0).den → (patsTy cs49x0).den × (patsTy vs49x0).den := fun x => ((x.1, (x.2.1, (x.2.2.1, (x.2.2.2.1, (x.2.2.2.2.1, (x.2.2.2.2.2.1, (x.2.2.2.2.2.2.1, ()))))))), x.2.2.2.2.2.2.2)
abbrev wy49x0 : Ways := ⟨[(0, [.slot 5 (.ptr 5), .slot 9 (.pc tI), .slot 11 (.pc tI), .box 5 [.pc tI, .pc tI], .slot 12 (.pc (.sl T1))])], [], []⟩
abbrev wv49x0 : Ways := ⟨[(0, [.slot 12 (.pc (.sl T1))])], [], []⟩
def je49x0 : (id : Nat) → (patsTy cs49x0).den → (patsTy (wayP wv49x0 id)).den → (patsTy (wayP wy49x0 id)).den := fun id => match id with | 0 => fun c y => (c.1, (c.2.2.1, (c.2.2.2.2.1, (c.2.2.2.2.2.2.1, y)))) | id => fun _ _ => (patsTy (wayP wy49x0 id)).dflt
def jr49x0 : (patsTy cs49x0).den → (patsTy (wv49x0).ret).den → (patsTy (wy49x0).ret).den := fun c y => y
def jp49x0 : (patsTy cs49x0).den → (patsTy (wv49x0).pan).den → (patsTy (wy49x0).pan).den := fun c y => y
def Z49x0 {α : Type} (l : RQ vs49x0 wv49x0 → α) (an : α → α → α) (c : (patsTy cs49x0).den) (v : (patsTy vs49x0).den) : α := bif (decide (v.2.1 < c.2.2.2.2.2.1)) then bif (decide (((0 : Int) ≤ v.2.1) ∧ (v.2.1 < ((c.2.1.n : Nat) : Int)))) then bif (decide (((0 : Int) ≤ v.2.1) ∧ (v.2.1 < ((c.2.2.2.1.n : Nat) : Int)))) then bif (decide (((v.1.n + 1) * 16) ≤ 140737488355328)) then l (.next ((catSl v.1 (⟨1, fun i => List.getD [((c.2.1.g (Int.toNat v.2.1)).1, (c.2.2.2.1.g (Int.toNat v.2.1)))] i ((c.2.1.g (Int.toNat v.2.1)).1, (c.2.2.2.1.g (Int.toNat v.2.1)))⟩ : Sl (Ty.den T1))), ((W (v.2.1 + (1 : Int))), ()))) else l .bad else l .bad else l .bad else l (.out (.exit 0 (v.1, ())))
theorem z49x0 (c : (patsTy cs49x0).den) (v : (patsTy vs49x0).den) : roundQ Try.prog E0 G49 0 65 [] ps49x0 wy49x0 b49x0 [] (j49x0 c v) = Z49x0 (fun r => .leaf (r.lift j49x0 je49x0 jr49x0 jp49x0 c)) .any c v := by kernel_rfl
def S49x0 (c : (patsTy cs49x0).den) (v : (patsTy vs49x0).den) : RQ vs49x0 wv49x0 := Z49x0 (fun r => r) (fun _ _ => .bad) c v
theorem s49x0 (c : (patsTy cs49x0).den) (v : (patsTy vs49x0).den) : detQ (roundQ Try.prog E0 G49 0 65 [] ps49x0 wy49x0 b49x0 [] (j49x0 c v)) = (S49x0 c v).lift j49x0 je49x0 jr49x0 jp49x0 c := by rw [z49x0]; unfold S49x0 Z49x0; simp only [detQ_cond, lift_cond, lift_bad, detQ, detQ_cl, detQ_onExit, detQ_onRet, detQ_onPanL, detQ_onNext, detQ_onBrk, detQ_onRetO, detQ_onPan, detQ_onOk, detQ_onGPan, lift_cl, lift_onExit, lift_onRet, lift_onPanL, lift_onNext, lift_onBrk, lift_onRetO, lift_onPan, lift_onOk, lift_onGPan]
def L49x0 (c : (patsTy cs49x0).den) (v : (patsTy vs49x0).den) : LQ wv49x0 := iterQ (S49x0 c) big v
theorem lo49 : loopsOf (c49) = [.loop b49x0] := by kernel_rfl
noncomputable def l49 : List Loop := [.known (loopZ 0 [] ps49x0 fun x => spreadV wy49x0 je49x0 jr49x0 jp49x0 [] false (sp49x0 x).1 (L49x0 (sp49x0 x).1 (sp49x0 x).2) wy49x0.exits)]
def Q49 {α : Type} (l : Option (r49).den → α) (an : α → α → α) (x : (a49).den) : α := cl (r77).dflt (M77 (x.1, ())) (fun u0 => bif (!u0.1) then l (some ((⟨0, fun i => ((0 : Int), ((0 : Int), ()))⟩ : Sl _), (((0 : Int), ((0 : Int), ())), ((2 : Int), ())))) else cl (r85).dflt (M85 (x.1, x.2)) (fun u1 => bif (!u1.1) then l (some ((⟨0, fun i => ((0 : Int), ((0 : Int), ()))⟩ : Sl _), (((0 : Int), ((0 : Int), ())), ((2 : Int), ())))) else cl (r86).dflt (M86 (x.1, x.2)) (fun u2 => cl (r87).dflt (M87 (x.1, (x.2.1, (u2.1.1, ())))) (fun u3 => cl (r87).dflt (M87 (x.1, (x.2.1, u2.1.2))) (fun u4 => onExit (L49x0 ((), (u3.1, (u3.2.1, (u4.1, (u4.2.1, (((x.2.1.n : Nat) : Int), (((0 : Int), ((0 : Int), ())), ()))))))) ((⟨0, fun i => ((0 : Int), ((0 : Int), ()))⟩ : Sl _), ((0 : Int), ()))) 0 (fun u5 => l (some (u5.1, ((u3.2.1, u4.2), ((0 : Int), ()))))) (l none)) (l none)) (l none)) (l none)) (l none)) (l none)
theorem q49 (x : (a49).den) : runFn Try.prog E0 G49 Try.f49 l49 a49 r49 x = Q49 .leaf .any x := by kernel_rfl
def M49 (x : (a49).den) : Option (r49).den := Q49 (fun r => r) (fun _ _ => none) x
theorem m49 (x : (a49).den) : (runFn Try.prog E0 G49 Try.f49 l49 a49 r49 x).sure = M49 x := by rw [q49]; unfold M49 Q49; simp only [sure_cond, Tree.sure, sure_cl, sure_onExit, sure_onRet, sure_onPanL, sure_onNext, sure_onBrk, sure_onRetO, sure_onPan, sure_onOk, sure_onGPan]
def p49 (x : (a49).den) : Bool := (M49 x).isSome
def v49 (x : (a49).den) : (r49).den := (M49 x).getD (r49).dflt
def k49 : Con := ⟨a49, r49, p49, v49⟩
theorem h49 : Holds Try.prog 49 k49 := holds_of_M' (E := E0) follows_ok g49 eqTy_sound keyTy_sound at49 bd49 (by kernel_rfl) m49 fun G' hlo hF hE => LsOK_kn (by rw [lo49]; exact .cons (loopV_ok hE hF hlo (LsOK_kn (by rw [lo49x0]; exact .nil)) (by kernel_rfl) (by kernel_rfl) sp49x0 (fun _ => rfl) (fun _ _ => rfl) (s49x0) big) (.nil))
/-- isobar/isobarref09.SameSpans -/
noncomputable def c51 : Code := Try.f51.body.getD .skip
theorem at51 : Try.prog.funcs[51]? = some Try.f51 := by kernel_rfl
theorem bd51 : Try.f51.body = some c51 := by kernel_rfl
theorem cl51 : Callable Try.prog 51 := callable_of at51 (by kernel_rfl) (by kernel_rfl)
abbrev T61 : Ty := (.cons (.sl T1) T43)
abbrev a51 : Ty := T61
abbrev r51 : Ty := T3
noncomputable def G51 : Ctx := Ctx.of []
theorem g51 : Sound Try.prog (G51) := sound_of (fun _ h => by cases h)
noncomputable def b51x0 : Code := loopBody ((loopsOf (c51))[0]?)
theorem lo51x0 : loopsOf (b51x0) = [] := by kernel_rfl
abbrev cs51x0 : List Pat := [.slot 0 (.pc (.sl T1)), .slot 1 (.pc (.sl T1))]
abbrev vs51x0 : List Pat := [.slot 5 (.pc tI)]
abbrev ps51x0 : List Pat := [.slot 0 (.pc (.sl T1)), .slot 1 (.pc (.sl T1)), .slot 5 (.pc tI)]
def j51x0 : (patsTy cs51x0).den → (patsTy vs51x0).den → (patsTy ps51x0).den := fun c v => (c.1, (c.2.1, v))
def sp51x0 : (patsTy ps51x0).den → (patsTy cs51x0).den × (patsTy vs51x0).den := fun x => ((x.1, (x.2.1, ())), x.2.2)
abbrev wy51x0 : Ways := ⟨[(0, [])], [.slot 4 (.pc .bool)], []⟩
abbrev wv51x0 : Ways := ⟨[(0, [])], [.slot 4 (.pc .bool)], []⟩
def je51x0 : (id : Nat) → (patsTy cs51x0).den → (patsTy (wayP wv51x0 id)).den → (patsTy (wayP wy51x0 id)).den := fun id => match id with | 0 => fun c y => y | id => fun _ _ => (patsTy (wayP wy51x0 id)).dflt
def jr51x0 : (patsTy cs51x0).den → (patsTy (wv51x0).ret).den → (patsTy (wy51x0).ret).den := fun c y => y
def jp51x0 : (patsTy cs51x0).den → (patsTy (wv51x0).pan).den → (patsTy (wy51x0).pan).den := fun c y => y
def Z51x0 {α : Type} (l : RQ vs51x0 wv51x0 → α) (an : α → α → α) (c : (patsTy cs51x0).den) (v : (patsTy vs51x0).den) : α := bif (decide (v.1 < ((c.1.n : Nat) : Int))) then bif (decide (((0 : Int) ≤ v.1) ∧ (v.1 < ((c.1.n : Nat) : Int)))) then bif (decide (((0 : Int) ≤ v.1) ∧ (v.1 < ((c.2.1.n : Nat) : Int)))) then bif (!((decide ((c.1.g (Int.toNat v.1)).1 = (c.2.1.g (Int.toNat v.1)).1)) && ((decide ((c.1.g (Int.toNat v.1)).2.1 = (c.2.1.g (Int.toNat v.1)).2.1)) && true))) then l (.out (.ret (false, ()))) else l (.next ((W (v.1 + (1 : Int))), ())) else l .bad else l .bad else l (.out (.exit 0 ()))
theorem z51x0 (c : (patsTy cs51x0).den) (v : (patsTy vs51x0).den) : roundQ Try.prog E0 G51 0 26 [] ps51x0 wy51x0 b51x0 [] (j51x0 c v) = Z51x0 (fun r => .leaf (r.lift j51x0 je51x0 jr51x0 jp51x0 c)) .any c v := by kernel_rfl
def S51x0 (c : (patsTy cs51x0).den) (v : (patsTy vs51x0).den) : RQ vs51x0 wv51x0 := Z51x0 (fun r => r) (fun _ _ => .bad) c v
theorem s51x0 (c : (patsTy cs51x0).den) (v : (patsTy vs51x0).den) : detQ (roundQ Try.prog E0 G51 0 26 [] ps51x0 wy51x0 b51x0 [] (j51x0 c v)) = (S51x0 c v).lift j51x0 je51x0 jr51x0 jp51x0 c := by rw [z51x0]; unfold S51x0 Z51x0; simp only [detQ_cond, lift_cond, lift_bad, detQ, detQ_cl, detQ_onExit, detQ_onRet, detQ_onPanL, detQ_onNext, detQ_onBrk, detQ_onRetO, detQ_onPan, detQ_onOk, detQ_onGPan, lift_cl, lift_onExit, lift_onRet, lift_onPanL, lift_onNext, lift_onBrk, lift_onRetO, lift_onPan, lift_onOk, lift_onGPan]
def L51x0 (c : (patsTy cs51x0).den) (v : (patsTy vs51x0).den) : LQ wv51x0 := iterQ (S51x0 c) big v
theorem lo51 : loopsOf (c51) = [.loop b51x0] := by kernel_rfl
noncomputable def l51 : List Loop := [.known (loopZ 0 [] ps51x0 fun x => spreadV wy51x0 je51x0 jr51x0 jp51x0 [] true (sp51x0 x).1 (L51x0 (sp51x0 x).1 (sp51x0 x).2) wy51x0.exits)]
def Q51 {α : Type} (l : Option (r51).den → α) (an : α → α → α) (x : (a51).den) : α := bif (!(decide (((x.1.n : Nat) : Int) = ((x.2.1.n : Nat) : Int)))) then l (some (false, ())) else onExit (L51x0 x ((0 : Int), ())) 0 (fun u0 => l (some (true, ()))) (onRet (L51x0 x ((0 : Int), ())) (fun u1 => l (some u1)) (l none))
theorem q51 (x : (a51).den) : runFn Try.prog E0 G51 Try.f51 l51 a51 r51 x = Q51 .leaf .any x := by kernel_rfl
def M51 (x : (a51).den) : Option (r51).den := Q51 (fun r => r) (fun _ _ => none) x
theorem m51 (x : (a51).den) : (runFn Try.prog E0 G51 Try.f51 l51 a51 r51 x).sure = M51 x := by rw [q51]; unfold M51 Q51; simp only [sure_cond, Tree.sure, sure_cl, sure_onExit, sure_onRet, sure_onPanL, sure_onNext, sure_onBrk, sure_onRetO, sure_onPan, sure_onOk, sure_onGPan]
def p51 (x : (a51).den) : Bool := (M51 x).isSome
def v51 (x : (a51).den) : (r51).den := (M51 x).getD (r51).dflt
def k51 : Con := ⟨a51, r51, p51, v51⟩
theorem h51 : Holds Try.prog 51 k51 := holds_of_M' (E := E0) follows_ok g51 eqTy_sound keyTy_sound at51 bd51 (by kernel_rfl) m51 fun G' hlo hF hE => LsOK_kn (by rw [lo51]; exact .cons (loopV_ok hE hF hlo (LsOK_kn (by rw [lo51x0]; exact .nil)) (by kernel_rfl) (by kernel_rfl) sp51x0 (fun _ => rfl) (fun _ _ => rfl) (s51x0) big) (.nil))
/-- isobar/isobarlaw09.L -/
noncomputable def c64 : Code := Try.f64.body.getD .skip
theorem at64 : Try.prog.funcs[64]? = some Try.f64 := by kernel_rfl
theorem bd64 : Try.f64.body = some c64 := by kernel_rfl
theorem cl64 : Callable Try.prog 64 := callable_of at64 (by kernel_rfl) (by kernel_rfl)
abbrev a64 : Ty := .nil
abbrev r64 : Ty := T28
noncomputable def G64 : Ctx := Ctx.of []
theorem g64 : Sound Try.prog (G64) := sound_of (fun _ h => by cases h)
theorem lo64 : loopsOf (c64) = [] := by kernel_rfl
noncomputable def l64 : List Loop := []
def Q64 {α : Type} (l : Option (r64).den → α) (an : α → α → α) (x : (a64).den) : α := l (some (((10 : Int), ((1000 : Int), ((⟨6, fun i => List.getD [((3 : Int), ()), ((1 : Int), ()), ((4 : Int), ()), ((1 : Int), ()), ((5 : Int), ()), ((9 : Int), ())] i ((3 : Int), ())⟩ : Sl _), ((⟨6, fun i => List.getD [((3 : Int), ()), ((1 : Int), ()), ((4 : Int), ()), ((1 : Int), ()), ((5 : Int), ()), ((2 : Int), ())] i ((3 : Int), ())⟩ : Sl _), ())))), ()))
theorem q64 (x : (a64).den) : runFn Try.prog E0 G64 Try.f64 l64 a64 r64 x = Q64 .leaf .any x := by kernel_rfl
def M64 (x : (a64).den) : Option (r64).den := Q64 (fun r => r) (fun _ _ => none) x
theorem m64 (x : (a64).den) : (runFn Try.prog E0 G64 Try.f64 l64 a64 r64 x).sure = M64 x := by rw [q64]; unfold M64 Q64; simp only [sure_cond, Tree.sure, sure_cl, sure_onExit, sure_onRet, sure_onPanL, sure_onNext, sure_onBrk, sure_onRetO, sure_onPan, sure_onOk, sure_onGPan]
def p64 (x : (a64).den) : Bool := (M64 x).isSome
def v64 (x : (a64).den) : (r64).den := (M64 x).getD (r64).dflt
def k64 : Con := ⟨a64, r64, p64, v64⟩
theorem h64 : Holds Try.prog 64 k64 := holds_of_M' (E := E0) follows_ok g64 eqTy_sound keyTy_sound at64 bd64 (by kernel_rfl) m64 fun G' hlo hF hE => LsOK_kn (by rw [lo64]; exact .nil)
/-- isobar/isobarlaw09.M -/
noncomputable def c65 : Code := Try.f65.body.getD .skip
theorem at65 : Try.prog.funcs[65]? = some Try.f65 := by kernel_rfl
theorem bd65 : Try.f65.body = some c65 := by kernel_rfl
theorem cl65 : Callable Try.prog 65 := callable_of at65 (by kernel_rfl) (by kernel_rfl)
abbrev a65 : Ty := .nil
abbrev r65 : Ty := T28
noncomputable def G65 : Ctx := Ctx.of []
theorem g65 : Sound Try.prog (G65) := sound_of (fun _ h => by cases h)
theorem lo65 : loopsOf (c65) = [] := by kernel_rfl
noncomputable def l65 : List Loop := []
def Q65 {α : Type} (l : Option (r65).den → α) (an : α → α → α) (x : (a65).den) : α := l (some (((10 : Int), ((1000 : Int), ((⟨6, fun i => List.getD [((7 : Int), ()), ((7 : Int), ()), ((7 : Int), ()), ((7 : Int), ()), ((7 : Int), ()), ((7 : Int), ())] i ((7 : Int), ())⟩ : Sl _), ((⟨6, fun i => List.getD [((1 : Int), ()), ((2 : Int), ()), ((3 : Int), ()), ((4 : Int), ()), ((5 : Int), ()), ((6 : Int), ())] i ((1 : Int), ())⟩ : Sl _), ())))), ()))
theorem q65 (x : (a65).den) : runFn Try.prog E0 G65 Try.f65 l65 a65 r65 x = Q65 .leaf .any x := by kernel_rfl
def M65 (x : (a65).den) : Option (r65).den := Q65 (fun r => r) (fun _ _ => none) x
theorem m65 (x : (a65).den) : (runFn Try.prog E0 G65 Try.f65 l65 a65 r65 x).sure = M65 x := by rw [q65]; unfold M65 Q65; simp only [sure_cond, Tree.sure, sure_cl, sure_onExit, sure_onRet, sure_onPanL, sure_onNext, sure_onBrk, sure_onRetO, sure_onPan, sure_onOk, sure_onGPan]
def p65 (x : (a65).den) : Bool := (M65 x).isSome
def v65 (x : (a65).den) : (r65).den := (M65 x).getD (r65).dflt
def k65 : Con := ⟨a65, r65, p65, v65⟩
theorem h65 : Holds Try.prog 65 k65 := holds_of_M' (E := E0) follows_ok g65 eqTy_sound keyTy_sound at65 bd65 (by kernel_rfl) m65 fun G' hlo hF hE => LsOK_kn (by rw [lo65]; exact .nil)
/-- isobar/isobarlaw09.days -/
noncomputable def c67 : Code := Try.f67.body.getD .skip
theorem at67 : Try.prog.funcs[67]? = some Try.f67 := by kernel_rfl
theorem bd67 : Try.f67.body = some c67 := by kernel_rfl
theorem cl67 : Callable Try.prog 67 := callable_of at67 (by kernel_rfl) (by kernel_rfl)
abbrev a67 : Ty := T4
abbrev r67 : Ty := T43
noncomputable def G67 : Ctx := Ctx.of []
theorem g67 : Sound Try.prog (G67) := sound_of (fun _ h => by cases h)
noncomputable def b67x0 : Code := loopBody ((loopsOf (c67))[0]?)
theorem lo67x0 : loopsOf (b67x0) = [] := by kernel_rfl
abbrev cs67x0 : List Pat := [.slot 0 (.pc (.sl T0))]
abbrev vs67x0 : List Pat := [.slot 3 (.own 1000003 65 T1), .slot 4 (.pc tI)]
abbrev ps67x0 : List Pat := [.slot 0 (.pc (.sl T0)), .slot 3 (.own 1000003 65 T1), .slot 4 (.pc tI)]
def j67x0 : (patsTy cs67x0).den → (patsTy vs67x0).den → (patsTy ps67x0).den := fun c v => (c.1, v)
def sp67x0 : (patsTy ps67x0).den → (patsTy cs67x0).den × (patsTy vs67x0).den := fun x => ((x.1, ()), x.2)
abbrev wy67x0 : Ways := ⟨[(0, [.slot 3 (.pc (.sl T1))])], [], []⟩
abbrev wv67x0 : Ways := ⟨[(0, [.slot 3 (.pc (.sl T1))])], [], []⟩
def je67x0 : (id : Nat) → (patsTy cs67x0).den → (patsTy (wayP wv67x0 id)).den → (patsTy (wayP wy67x0 id)).den := fun id => match id with | 0 => fun c y => y | id => fun _ _ => (patsTy (wayP wy67x0 id)).dflt
def jr67x0 : (patsTy cs67x0).den → (patsTy (wv67x0).ret).den → (patsTy (wy67x0).ret).den := fun c y => y
def jp67x0 : (patsTy cs67x0).den → (patsTy (wv67x0).pan).den → (patsTy (wy67x0).pan).den := fun c y => y
def Z67x0 {α : Type} (l : RQ vs67x0 wv67x0 → α) (an : α → α → α) (c : (patsTy cs67x0).den) (v : (patsTy vs67x0).den) : α := bif (decide ((W (v.2.1 + (1 : Int))) < ((c.1.n : Nat) : Int))) then bif (decide (((0 : Int) ≤ v.2.1) ∧ (v.2.1 < ((c.1.n : Nat) : Int)))) then bif (decide (((0 : Int) ≤ (W (v.2.1 + (1 : Int)))) ∧ ((W (v.2.1 + (1 : Int))) < ((c.1.n : Nat) : Int)))) then bif (decide (((v.1.n + 1) * 16) ≤ 140737488355328)) then l (.next ((catSl v.1 (⟨1, fun i => List.getD [((c.1.g (Int.toNat v.2.1)).1, (c.1.g (Int.toNat (W (v.2.1 + (1 : Int))))))] i ((c.1.g (Int.toNat v.2.1)).1, (c.1.g (Int.toNat (W (v.2.1 + (1 : Int))))))⟩ : Sl (Ty.den T1))), ((W (v.2.1 + (2 : Int))), ()))) else l .bad else l .bad else l .bad else l (.out (.exit 0 (v.1, ())))
theorem z67x0 (c : (patsTy cs67x0).den) (v : (patsTy vs67x0).den) : roundQ Try.prog E0 G67 0 26 [] ps67x0 wy67x0 b67x0 [] (j67x0 c v) = Z67x0 (fun r => .leaf (r.lift j67x0 je67x0 jr67x0 jp67x0 c)) .any c v := by kernel_rfl
def S67x0 (c : (patsTy cs67x0).den) (v : (patsTy vs67x0).den) : RQ vs67x0 wv67x0 := Z67x0 (fun r => r) (fun _ _ => .bad) c v
theorem s67x0 (c : (patsTy cs67x0).den) (v : (patsTy vs67x0).den) : detQ (roundQ Try.prog E0 G67 0 26 [] ps67x0 wy67x0 b67x0 [] (j67x0 c v)) = (S67x0 c v).lift j67x0 je67x0 jr67x0 jp67x0 c := by rw [z67x0]; unfold S67x0 Z67x0; simp only [detQ_cond, lift_cond, lift_bad, detQ, detQ_cl, detQ_onExit, detQ_onRet, detQ_onPanL, detQ_onNext, detQ_onBrk, detQ_onRetO, detQ_onPan, detQ_onOk, detQ_onGPan, lift_cl, lift_onExit, lift_onRet, lift_onPanL, lift_onNext, lift_onBrk, lift_onRetO, lift_onPan, lift_onOk, lift_onGPan]
def L67x0 (c : (patsTy cs67x0).den) (v : (patsTy vs67x0).den) : LQ wv67x0 := iterQ (S67x0 c) big v
theorem lo67 : loopsOf (c67) = [.loop b67x0] := by kernel_rfl
noncomputable def l67 : List Loop := [.known (loopZ 0 [] ps67x0 fun x => spreadV wy67x0 je67x0 jr67x0 jp67x0 [] false (sp67x0 x).1 (L67x0 (sp67x0 x).1 (sp67x0 x).2) wy67x0.exits)]
def Q67 {α : Type} (l : Option (r67).den → α) (an : α → α → α) (x : (a67).den) : α := onExit (L67x0 x ((⟨0, fun i => ((0 : Int), ((0 : Int), ()))⟩ : Sl _), ((0 : Int), ()))) 0 (fun u0 => l (some u0)) (l none)
theorem q67 (x : (a67).den) : runFn Try.prog E0 G67 Try.f67 l67 a67 r67 x = Q67 .leaf .any x := by kernel_rfl
def M67 (x : (a67).den) : Option (r67).den := Q67 (fun r => r) (fun _ _ => none) x
theorem m67 (x : (a67).den) : (runFn Try.prog E0 G67 Try.f67 l67 a67 r67 x).sure = M67 x := by rw [q67]; unfold M67 Q67; simp only [sure_cond, Tree.sure, sure_cl, sure_onExit, sure_onRet, sure_onPanL, sure_onNext, sure_onBrk, sure_onRetO, sure_onPan, sure_onOk, sure_onGPan]
def p67 (x : (a67).den) : Bool := (M67 x).isSome
def v67 (x : (a67).den) : (r67).den := (M67 x).getD (r67).dflt
def k67 : Con := ⟨a67, r67, p67, v67⟩
theorem h67 : Holds Try.prog 67 k67 := holds_of_M' (E := E0) follows_ok g67 eqTy_sound keyTy_sound at67 bd67 (by kernel_rfl) m67 fun G' hlo hF hE => LsOK_kn (by rw [lo67]; exact .cons (loopV_ok hE hF hlo (LsOK_kn (by rw [lo67x0]; exact .nil)) (by kernel_rfl) (by kernel_rfl) sp67x0 (fun _ => rfl) (fun _ _ => rfl) (s67x0) big) (.nil))
/-- isobar/isobarlaw09.Round -/
noncomputable def c66 : Code := Try.f66.body.getD .skip
theorem at66 : Try.prog.funcs[66]? = some Try.f66 := by kernel_rfl
theorem bd66 : Try.f66.body = some c66 := by kernel_rfl
theorem cl66 : Callable Try.prog 66 := callable_of at66 (by kernel_rfl) (by kernel_rfl)
abbrev a66 : Ty := .nil
abbrev r66 : Ty := T49
noncomputable def G66 : Ctx := Ctx.of [(67, .pure k67)]
theorem g66 : Sound Try.prog (G66) := sound_of (List.forall_mem_cons.2 ⟨⟨cl67, h67⟩, fun _ h => by cases h⟩)
theorem lo66 : loopsOf (c66) = [] := by kernel_rfl
noncomputable def l66 : List Loop := []
def Q66 {α : Type} (l : Option (r66).den → α) (an : α → α → α) (x : (a66).den) : α := cl (r67).dflt (M67 ((⟨8, fun i => List.getD [((0 : Int), ()), ((0 : Int), ()), ((2 : Int), ()), ((3 : Int), ()), ((3 : Int), ()), ((4 : Int), ()), ((4 : Int), ()), ((6 : Int), ())] i ((0 : Int), ())⟩ : Sl _), ())) (fun u0 => cl (r67).dflt (M67 ((⟨8, fun i => List.getD [((2 : Int), ()), ((3 : Int), ()), ((0 : Int), ()), ((0 : Int), ()), ((2 : Int), ()), ((2 : Int), ()), ((3 : Int), ()), ((4 : Int), ())] i ((2 : Int), ())⟩ : Sl _), ())) (fun u1 => cl (r67).dflt (M67 ((⟨8, fun i => List.getD [((3 : Int), ()), ((4 : Int), ()), ((2 : Int), ()), ((2 : Int), ()), ((0 : Int), ()), ((0 : Int), ()), ((1 : Int), ()), ((2 : Int), ())] i ((3 : Int), ())⟩ : Sl _), ())) (fun u2 => cl (r67).dflt (M67 ((⟨8, fun i => List.getD [((4 : Int), ()), ((6 : Int), ()), ((3 : Int), ()), ((4 : Int), ()), ((1 : Int), ()), ((2 : Int), ()), ((0 : Int), ()), ((0 : Int), ())] i ((4 : Int), ())⟩ : Sl _), ())) (fun u3 => l (some (((0 : Int), ((⟨3, fun i => List.getD [((1 : Int), ((5 : Int), ())), ((2 : Int), ((9 : Int), ())), ((1 : Int), ((12 : Int), ()))] i ((1 : Int), ((5 : Int), ()))⟩ : Sl _), ((⟨4, fun i => List.getD [u0, u1, u2, u3] i u0⟩ : Sl _), ()))), ()))) (l none)) (l none)) (l none)) (l none)
theorem q66 (x : (a66).den) : runFn Try.prog E0 G66 Try.f66 l66 a66 r66 x = Q66 .leaf .any x := by kernel_rfl
def M66 (x : (a66).den) : Option (r66).den := Q66 (fun r => r) (fun _ _ => none) x
theorem m66 (x : (a66).den) : (runFn Try.prog E0 G66 Try.f66 l66 a66 r66 x).sure = M66 x := by rw [q66]; unfold M66 Q66; simp only [sure_cond, Tree.sure, sure_cl, sure_onExit, sure_onRet, sure_onPanL, sure_onNext, sure_onBrk, sure_onRetO, sure_onPan, sure_onOk, sure_onGPan]
def p66 (x : (a66).den) : Bool := (M66 x).isSome
def v66 (x : (a66).den) : (r66).den := (M66 x).getD (r66).dflt
def k66 : Con := ⟨a66, r66, p66, v66⟩
theorem h66 : Holds Try.prog 66 k66 := holds_of_M' (E := E0) follows_ok g66 eqTy_sound keyTy_sound at66 bd66 (by kernel_rfl) m66 fun G' hlo hF hE => LsOK_kn (by rw [lo66]; exact .nil)
/-- slices.Clone[[]int,int] -/
noncomputable def c80 : Code := Try.f80.body.getD .skip
theorem at80 : Try.prog.funcs[80]? = some Try.f80 := by kernel_rfl
theorem bd80 : Try.f80.body = some c80 := by kernel_rfl
theorem cl80 : Callable Try.prog 80 := callable_of at80 (by kernel_rfl) (by kernel_rfl)
abbrev a80 : Ty := T4
abbrev r80 : Ty := T4
noncomputable def G80 : Ctx := Ctx.of []
theorem g80 : Sound Try.prog (G80) := sound_of (fun _ h => by cases h)
theorem lo80 : loopsOf (c80) = [] := by kernel_rfl
noncomputable def l80 : List Loop := []
def Q80 {α : Type} (l : Option (r80).den → α) (an : α → α → α) (x : (a80).den) : α := bif (Nat.blt 0 x.1.n) then bif (decide ((x.1.n * 8) ≤ 140737488355328)) then l (some x) else l none else an (l (some ((⟨0, fun i => ((0 : Int), ())⟩ : Sl _), ()))) (bif (decide ((x.1.n * 8) ≤ 140737488355328)) then l (some x) else l none)
theorem q80 (x : (a80).den) : runFn Try.prog E0 G80 Try.f80 l80 a80 r80 x = Q80 .leaf .any x := by kernel_rfl
def M80 (x : (a80).den) : Option (r80).den := Q80 (fun r => r) (fun _ _ => none) x
theorem m80 (x : (a80).den) : (runFn Try.prog E0 G80 Try.f80 l80 a80 r80 x).sure = M80 x := by rw [q80]; unfold M80 Q80; simp only [sure_cond, Tree.sure, sure_cl, sure_onExit, sure_onRet, sure_onPanL, sure_onNext, sure_onBrk, sure_onRetO, sure_onPan, sure_onOk, sure_onGPan]
def p80 (x : (a80).den) : Bool := (M80 x).isSome
def v80 (x : (a80).den) : (r80).den := (M80 x).getD (r80).dflt
def k80 : Con := ⟨a80, r80, p80, v80⟩
theorem h80 : Holds Try.prog 80 k80 := holds_of_M' (E := E0) follows_ok g80 eqTy_sound keyTy_sound at80 bd80 (by kernel_rfl) m80 fun G' hlo hF hE => LsOK_kn (by rw [lo80]; exact .nil)
def X80 {α : Type} (l : Option FR → α) (an : α → α → α) (x : (a80).den) : α := bif (Nat.blt 0 x.1.n) then bif (decide ((x.1.n * 8) ≤ 140737488355328)) then l (some ⟨3, T0, x.1⟩) else l none else an (l (some ⟨3, T0, (⟨0, fun i => ((0 : Int), ())⟩ : Sl (Ty.den T0))⟩)) (bif (decide ((x.1.n * 8) ≤ 140737488355328)) then l (some ⟨3, T0, x.1⟩) else l none)
theorem x80 (x : (a80).den) : runC Try.prog E0 G80 Try.f80 l80 2 3 T0 a80 x = X80 .leaf .any x := by kernel_rfl
def R80 (x : (a80).den) : Option (Sl (Ty.den T0)) := X80 (frOf 3 T0) anC x
theorem r80xeq (x : (a80).den) : (runC Try.prog E0 G80 Try.f80 l80 2 3 T0 a80 x).sureC 3 T0 = R80 x := by rw [x80]; unfold R80 X80; simp only [sureC_cond, Tree.sureC, sureC_cl, sureC_onExit, sureC_onRet, sureC_onPanL, sureC_onNext, sureC_onBrk, sureC_onRetO, sureC_onPan, sureC_onOk, sureC_onGPan]
theorem hw80 : GHolds Try.prog 80 (chainD Try.f80.ntmps a80 3 T0 R80) := chainD_holds (E := E0) follows_ok g80 eqTy_sound keyTy_sound at80 bd80 (by kernel_rfl) (by kernel_rfl) (fun G' hlo hF hE => LsOK_kn (by rw [lo80]; exact .nil)) r80xeq
/-- isobar/watch.Best$1 -/
noncomputable def c78 : Code := Try.f78.body.getD .skip
theorem at78 : Try.prog.funcs[78]? = some Try.f78 := by kernel_rfl
theorem bd78 : Try.f78.body = some c78 := by kernel_rfl
theorem cl78 : Callable Try.prog 78 := callable_of at78 (by kernel_rfl) (by kernel_rfl)
abbrev r78 : Ty := .nil
abbrev ps78 : List Pat := [.slot 0 (.pc tL), .slot 1 (.ptr 1), .slot 2 (.ptr 45), .slot 3 (.ptr 66), .box 1 [.pc tI, .pc (.sl tII), .pc (.sl (.cons (.sl tII) .nil))], .box 45 [.own 1000045 101 (.cons tL tL1)], .box 66 [.clo 78 [1, 45, 66]]]
abbrev pans78 : List (Nat × Ty) := []
noncomputable def G78 : ((patsTy ps78).den → GO r78 (objPats ps78)) → Ctx := fun R78 => Ctx.of [(78, .gen (gappD Try.f78.ntmps r78 ps78 pans78 R78)), (79, .pure k79), (80, .row Try.f80.ntmps a80 3 T0 R80), (81, .pure k81)]
theorem g78 (R78 : (patsTy ps78).den → GO r78 (objPats ps78)) (hR : GHolds Try.prog 78 (gappD Try.f78.ntmps r78 ps78 pans78 R78)) : Sound Try.prog (G78 R78) := sound_of (List.forall_mem_cons.2 ⟨⟨cl78, hR⟩, List.forall_mem_cons.2 ⟨⟨cl79, h79⟩, List.forall_mem_cons.2 ⟨⟨cl80, hw80⟩, List.forall_mem_cons.2 ⟨⟨cl81, h81⟩, fun _ h => by cases h⟩⟩⟩⟩)
noncomputable def b78x0 : Code := loopBody ((loopsOf (c78))[0]?)
theorem lo78x0 : loopsOf (b78x0) = [] := by kernel_rfl
abbrev cs78x0 : List Pat := [.slot 0 (.pc (.sl T0)), .slot 1 (.ptr 1), .slot 2 (.ptr 45), .slot 3 (.ptr 66), .slot 25 (.pc tI)]
abbrev vs78x0 : List Pat := [.slot 26 (.pc tI), .box 1 [.pc tI, .pc (.sl T1), .pc T44], .box 45 [.own 1000045 101 T54], .box 66 [.clo 78 [1, 45, 66]]]
abbrev ps78x0 : List Pat := [.slot 0 (.pc (.sl T0)), .slot 1 (.ptr 1), .slot 2 (.ptr 45), .slot 3 (.ptr 66), .slot 25 (.pc tI), .slot 26 (.pc tI), .box 1 [.pc tI, .pc (.sl T1), .pc T44], .box 45 [.own 1000045 101 T54], .box 66 [.clo 78 [1, 45, 66]]]
def j78x0 : (patsTy cs78x0).den → (patsTy vs78x0).den → (patsTy ps78x0).den := fun c v => (c.1, (c.2.1, (c.2.2.1, (c.2.2.2.1, (c.2.2.2.2.1, v)))))
def sp78x0 : (patsTy ps78x0).den → (patsTy cs78x0).den × (patsTy vs78x0).den := fun x => ((x.1, (x.2.1, (x.2.2.1, (x.2.2.2.1, (x.2.2.2.2.1, ()))))), x.2.2.2.2.2)
abbrev wy78x0 : Ways := ⟨[(0, [.slot 1 (.ptr 1), .slot 2 (.ptr 45), .slot 3 (.ptr 66), .box 1 [.pc tI, .pc (.sl T1), .pc T44], .box 45 [.own 1000045 101 T54], .box 66 [.clo 78 [1, 45, 66]]])], [], []⟩
abbrev wv78x0 : Ways := ⟨[(0, [.box 1 [.pc tI, .pc (.sl T1), .pc T44], .box 45 [.own 1000045 101 T54], .box 66 [.clo 78 [1, 45, 66]]])], [], []⟩
def je78x0 : (id : Nat) → (patsTy cs78x0).den → (patsTy (wayP wv78x0 id)).den → (patsTy (wayP wy78x0 id)).den := fun id => match id with | 0 => fun c y => (c.2.1, (c.2.2.1, (c.2.2.2.1, y))) | id => fun _ _ => (patsTy (wayP wy78x0 id)).dflt
def jr78x0 : (patsTy cs78x0).den → (patsTy (wv78x0).ret).den → (patsTy (wy78x0).ret).den := fun c y => y
def jp78x0 : (patsTy cs78x0).den → (patsTy (wv78x0).pan).den → (patsTy (wy78x0).pan).den := fun c y => y
def Z78x0 (R78 : (patsTy ps78).den → GO r78 (objPats ps78)) {α : Type} (l : RQ vs78x0 wv78x0 → α) (an : α → α → α) (c : (patsTy cs78x0).den) (v : (patsTy vs78x0).den) : α := bif (decide (v.1 < c.2.2.2.2.1)) then cl (r81).dflt (M81 (c.1, (v.1, ()))) (fun u0 => bif u0.1 then l (.next ((W (v.1 + (1 : Int))), (v.2.1, (v.2.2.1, (((), ()), ()))))) else cl (⟨0, fun _ => Ty.dflt T0⟩ : Sl (Ty.den T0)) (R80 (c.1, ())) (fun u1 => bif (decide (((u1.n + 1) * 8) ≤ 140737488355328)) then onOk (R78 ((catSl u1 (⟨1, fun i => List.getD [(v.1, ())] i (v.1, ())⟩ : Sl (Ty.den T0))), ((), ((), ((), (v.2.1, (v.2.2.1, (((), ()), ())))))))) (fun u2 => l (.next ((W (v.1 + (1 : Int))), (u2.2.1, (u2.2.2.1, (((), ()), ())))))) (l .bad) else l .bad) (l .bad)) (l .bad) else l (.out (.exit 0 (v.2.1, (v.2.2.1, (((), ()), ())))))
theorem z78x0 (R78 : (patsTy ps78).den → GO r78 (objPats ps78)) (c : (patsTy cs78x0).den) (v : (patsTy vs78x0).den) : roundQ Try.prog E0 (G78 R78) 200 40 [] ps78x0 wy78x0 b78x0 [] (j78x0 c v) = Z78x0 R78 (fun r => .leaf (r.lift j78x0 je78x0 jr78x0 jp78x0 c)) .any c v := by kernel_rfl
def S78x0 (R78 : (patsTy ps78).den → GO r78 (objPats ps78)) (c : (patsTy cs78x0).den) (v : (patsTy vs78x0).den) : RQ vs78x0 wv78x0 := Z78x0 R78 (fun r => r) (fun _ _ => .bad) c v
theorem s78x0 (R78 : (patsTy ps78).den → GO r78 (objPats ps78)) (c : (patsTy cs78x0).den) (v : (patsTy vs78x0).den) : detQ (roundQ Try.prog E0 (G78 R78) 200 40 [] ps78x0 wy78x0 b78x0 [] (j78x0 c v)) = (S78x0 R78 c v).lift j78x0 je78x0 jr78x0 jp78x0 c := by rw [z78x0]; unfold S78x0 Z78x0; simp only [detQ_cond, lift_cond, lift_bad, detQ, detQ_cl, detQ_onExit, detQ_onRet, detQ_onPanL, detQ_onNext, detQ_onBrk, detQ_onRetO, detQ_onPan, detQ_onOk, detQ_onGPan, lift_cl, lift_onExit, lift_onRet, lift_onPanL, lift_onNext, lift_onBrk, lift_onRetO, lift_onPan, lift_onOk, lift_onGPan]
def L78x0 (R78 : (patsTy ps78).den → GO r78 (objPats ps78)) (c : (patsTy cs78x0).den) (v : (patsTy vs78x0).den) : LQ wv78x0 := iterQ (S78x0 R78 c) big v
theorem lo78 : loopsOf (c78) = [.loop b78x0] := by kernel_rfl
noncomputable def l78 : ((patsTy ps78).den → GO r78 (objPats ps78)) → List Loop := fun R78 => [.known (loopZ 200 [] ps78x0 fun x => spreadV wy78x0 je78x0 jr78x0 jp78x0 [] false (sp78x0 x).1 (L78x0 R78 (sp78x0 x).1 (sp78x0 x).2) wy78x0.exits)]
def Q78 (R78 : (patsTy ps78).den → GO r78 (objPats ps78)) {α : Type} (l : GO r78 (objPats ps78) → α) (an : α → α → α) (x : (patsTy ps78).den) : α := cl (r79).dflt (M79 (x.2.2.2.2.1, (x.1, ()))) (fun u3 => bif (!u3.2.1) then l (.ok () (x.2.2.2.2.1, (x.2.2.2.2.2.1, (((), ()), ())))) else cl (⟨0, fun _ => Ty.dflt T0⟩ : Sl (Ty.den T0)) (R80 (x.1, ())) (fun u4 => bif (decide (((x.2.2.2.2.2.1.1.n + 1) * 32) ≤ 140737488355328)) then onExit (L78x0 R78 (x.1, ((), ((), ((), (((x.2.2.2.2.1.2.1.n : Nat) : Int), ()))))) ((0 : Int), (x.2.2.2.2.1, (((catSl x.2.2.2.2.2.1.1 (⟨1, fun i => List.getD [(u4, (u3.1, ()))] i (u4, (u3.1, ()))⟩ : Sl (Ty.den T54))), ()), (((), ()), ()))))) 0 (fun u5 => l (.ok () (u5.1, (u5.2.1, (((), ()), ()))))) (l .bad) else l .bad) (l .bad)) (l .bad)
theorem q78 (R78 : (patsTy ps78).den → GO r78 (objPats ps78)) (x : (patsTy ps78).den) : runG Try.prog E0 (G78 R78) Try.f78 (l78 R78) 200 r78 ps78 x = Q78 R78 .leaf .any x := by kernel_rfl
def U78 (R78 : (patsTy ps78).den → GO r78 (objPats ps78)) (x : (patsTy ps78).den) : GO r78 (objPats ps78) := Q78 R78 (fun r => r) (fun _ _ => .bad) x
theorem m78 (R78 : (patsTy ps78).den → GO r78 (objPats ps78)) (x : (patsTy ps78).den) : (runG Try.prog E0 (G78 R78) Try.f78 (l78 R78) 200 r78 ps78 x).detB .bad = U78 R78 x := by rw [q78]; unfold U78 Q78; simp only [detB_cond, Tree.detB, detB_cl, detB_onExit, detB_onRet, detB_onPanL, detB_onNext, detB_onBrk, detB_onRetO, detB_onPan, detB_onOk, detB_onGPan]
theorem hr78 (R78 : (patsTy ps78).den → GO r78 (objPats ps78)) (hR : GHolds Try.prog 78 (gappD Try.f78.ntmps r78 ps78 pans78 R78)) : GHolds Try.prog 78 (gappD Try.f78.ntmps r78 ps78 pans78 (U78 R78)) := gappD_holds (E := E0) follows_ok (g78 R78 hR) eqTy_sound keyTy_sound at78 bd78 (by kernel_rfl) (fun G' hlo hF hE => LsOK_kn (by rw [lo78]; exact .cons (loopV_ok hE hF hlo (LsOK_kn (by rw [lo78x0]; exact .nil)) (by kernel_rfl) (by kernel_rfl) sp78x0 (fun _ => rfl) (fun _ _ => rfl) (s78x0 R78) big) (.nil))) pans78 (m78 R78)
def F78 : Nat → (patsTy ps78).den → GO r78 (objPats ps78)
  | 0 => fun _ => .bad
  | n + 1 => U78 (F78 n)
theorem h78 : ∀ n, GHolds Try.prog 78 (gappD Try.f78.ntmps r78 ps78 pans78 (F78 n))
  | 0 => gappD_bad
  | n + 1 => hr78 _ (h78 n)

end Go.Dm

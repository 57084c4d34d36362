/- What is read off a loop's outcome. -/
import Derived.Test.YtiapgkbnjpkagaaL8GB
set_option linter.unusedVariables false
set_option linter.unusedSimpArgs false
namespace Go.Dm
set_option maxRecDepth 100000
@[simp] theorem xe91x0e0 {β : Type} (y : (patsTy [.slot 3 (.pc tI)]).den) (f : (patsTy (wayP wv91x0 0)).den → β) (g : β) : onExit (LQ.exit (wy := wv91x0) 0 y) 0 f g = f y := rfl
@[simp] theorem xn91x0e0 {β : Type} (y : (patsTy [.slot 3 (.pc tI)]).den) (f : (patsTy (wv91x0).ret).den → β) (g : β) : onRet (LQ.exit (wy := wv91x0) 0 y) f g = g := rfl
@[simp] theorem xp91x0e0 {β : Type} (y : (patsTy [.slot 3 (.pc tI)]).den) (T : TypeId) (τ : Ty) (f : τ.den × (patsTy (wv91x0).pan).den → β) (g : β) : onPanL (LQ.exit (wy := wv91x0) 0 y) T τ f g = g := rfl
@[simp] theorem xr91x0 {β : Type} (y : (patsTy []).den) (f : (patsTy (wv91x0).ret).den → β) (g : β) : onRet (LQ.ret (wy := wv91x0) y) f g = f y := rfl
@[simp] theorem xs91x0e0 {β : Type} (y : (patsTy []).den) (f : (patsTy (wayP wv91x0 0)).den → β) (g : β) : onExit (LQ.ret (wy := wv91x0) y) 0 f g = g := rfl
@[simp] theorem xe92x0e0 {β : Type} (y : (patsTy [.slot 5 (.pc tI)]).den) (f : (patsTy (wayP wv92x0 0)).den → β) (g : β) : onExit (LQ.exit (wy := wv92x0) 0 y) 0 f g = f y := rfl
@[simp] theorem xn92x0e0 {β : Type} (y : (patsTy [.slot 5 (.pc tI)]).den) (f : (patsTy (wv92x0).ret).den → β) (g : β) : onRet (LQ.exit (wy := wv92x0) 0 y) f g = g := rfl
@[simp] theorem xp92x0e0 {β : Type} (y : (patsTy [.slot 5 (.pc tI)]).den) (T : TypeId) (τ : Ty) (f : τ.den × (patsTy (wv92x0).pan).den → β) (g : β) : onPanL (LQ.exit (wy := wv92x0) 0 y) T τ f g = g := rfl
@[simp] theorem xr92x0 {β : Type} (y : (patsTy []).den) (f : (patsTy (wv92x0).ret).den → β) (g : β) : onRet (LQ.ret (wy := wv92x0) y) f g = f y := rfl
@[simp] theorem xs92x0e0 {β : Type} (y : (patsTy []).den) (f : (patsTy (wayP wv92x0 0)).den → β) (g : β) : onExit (LQ.ret (wy := wv92x0) y) 0 f g = g := rfl
@[simp] theorem xe93x0e0 {β : Type} (y : (patsTy [.slot 5 (.pc tI)]).den) (f : (patsTy (wayP wv93x0 0)).den → β) (g : β) : onExit (LQ.exit (wy := wv93x0) 0 y) 0 f g = f y := rfl
@[simp] theorem xn93x0e0 {β : Type} (y : (patsTy [.slot 5 (.pc tI)]).den) (f : (patsTy (wv93x0).ret).den → β) (g : β) : onRet (LQ.exit (wy := wv93x0) 0 y) f g = g := rfl
@[simp] theorem xp93x0e0 {β : Type} (y : (patsTy [.slot 5 (.pc tI)]).den) (T : TypeId) (τ : Ty) (f : τ.den × (patsTy (wv93x0).pan).den → β) (g : β) : onPanL (LQ.exit (wy := wv93x0) 0 y) T τ f g = g := rfl
@[simp] theorem xr93x0 {β : Type} (y : (patsTy []).den) (f : (patsTy (wv93x0).ret).den → β) (g : β) : onRet (LQ.ret (wy := wv93x0) y) f g = f y := rfl
@[simp] theorem xs93x0e0 {β : Type} (y : (patsTy []).den) (f : (patsTy (wayP wv93x0 0)).den → β) (g : β) : onExit (LQ.ret (wy := wv93x0) y) 0 f g = g := rfl
@[simp] theorem xe61x0e0 {β : Type} (y : (patsTy [.slot 5 (.pc tI)]).den) (f : (patsTy (wayP wv61x0 0)).den → β) (g : β) : onExit (LQ.exit (wy := wv61x0) 0 y) 0 f g = f y := rfl
@[simp] theorem xn61x0e0 {β : Type} (y : (patsTy [.slot 5 (.pc tI)]).den) (f : (patsTy (wv61x0).ret).den → β) (g : β) : onRet (LQ.exit (wy := wv61x0) 0 y) f g = g := rfl
@[simp] theorem xp61x0e0 {β : Type} (y : (patsTy [.slot 5 (.pc tI)]).den) (T : TypeId) (τ : Ty) (f : τ.den × (patsTy (wv61x0).pan).den → β) (g : β) : onPanL (LQ.exit (wy := wv61x0) 0 y) T τ f g = g := rfl
@[simp] theorem xr61x0 {β : Type} (y : (patsTy []).den) (f : (patsTy (wv61x0).ret).den → β) (g : β) : onRet (LQ.ret (wy := wv61x0) y) f g = f y := rfl
@[simp] theorem xs61x0e0 {β : Type} (y : (patsTy []).den) (f : (patsTy (wayP wv61x0 0)).den → β) (g : β) : onExit (LQ.ret (wy := wv61x0) y) 0 f g = g := rfl
@[simp] theorem xe94x0e0 {β : Type} (y : (patsTy [.slot 8 (.pc tI), .box 26 [.mp 29], .box 3 [.pc tI], .box 48 [.clo 94 [26, 3, 48]], .mp 29 T5 tI]).den) (f : (patsTy (wayP wv94x0 0)).den → β) (g : β) : onExit (LQ.exit (wy := wv94x0) 0 y) 0 f g = f y := rfl
@[simp] theorem xn94x0e0 {β : Type} (y : (patsTy [.slot 8 (.pc tI), .box 26 [.mp 29], .box 3 [.pc tI], .box 48 [.clo 94 [26, 3, 48]], .mp 29 T5 tI]).den) (f : (patsTy (wv94x0).ret).den → β) (g : β) : onRet (LQ.exit (wy := wv94x0) 0 y) f g = g := rfl
@[simp] theorem xp94x0e0 {β : Type} (y : (patsTy [.slot 8 (.pc tI), .box 26 [.mp 29], .box 3 [.pc tI], .box 48 [.clo 94 [26, 3, 48]], .mp 29 T5 tI]).den) (T : TypeId) (τ : Ty) (f : τ.den × (patsTy (wv94x0).pan).den → β) (g : β) : onPanL (LQ.exit (wy := wv94x0) 0 y) T τ f g = g := rfl
@[simp] theorem xr94x0 {β : Type} (y : (patsTy []).den) (f : (patsTy (wv94x0).ret).den → β) (g : β) : onRet (LQ.ret (wy := wv94x0) y) f g = f y := rfl
@[simp] theorem xs94x0e0 {β : Type} (y : (patsTy []).den) (f : (patsTy (wayP wv94x0 0)).den → β) (g : β) : onExit (LQ.ret (wy := wv94x0) y) 0 f g = g := rfl
@[simp] theorem xe70x0e0 {β : Type} (y : (patsTy []).den) (f : (patsTy (wayP wv70x0 0)).den → β) (g : β) : onExit (LQ.exit (wy := wv70x0) 0 y) 0 f g = f y := rfl
@[simp] theorem xn70x0e0 {β : Type} (y : (patsTy []).den) (f : (patsTy (wv70x0).ret).den → β) (g : β) : onRet (LQ.exit (wy := wv70x0) 0 y) f g = g := rfl
@[simp] theorem xp70x0e0 {β : Type} (y : (patsTy []).den) (T : TypeId) (τ : Ty) (f : τ.den × (patsTy (wv70x0).pan).den → β) (g : β) : onPanL (LQ.exit (wy := wv70x0) 0 y) T τ f g = g := rfl
@[simp] theorem xr70x0 {β : Type} (y : (patsTy [.slot 4 (.pc tI)]).den) (f : (patsTy (wv70x0).ret).den → β) (g : β) : onRet (LQ.ret (wy := wv70x0) y) f g = f y := rfl
@[simp] theorem xs70x0e0 {β : Type} (y : (patsTy [.slot 4 (.pc tI)]).den) (f : (patsTy (wayP wv70x0 0)).den → β) (g : β) : onExit (LQ.ret (wy := wv70x0) y) 0 f g = g := rfl
@[simp] theorem xe74x0e0 {β : Type} (y : (patsTy []).den) (f : (patsTy (wayP wv74x0 0)).den → β) (g : β) : onExit (LQ.exit (wy := wv74x0) 0 y) 0 f g = f y := rfl
@[simp] theorem xn74x0e0 {β : Type} (y : (patsTy []).den) (f : (patsTy (wv74x0).ret).den → β) (g : β) : onRet (LQ.exit (wy := wv74x0) 0 y) f g = g := rfl
@[simp] theorem xp74x0e0 {β : Type} (y : (patsTy []).den) (T : TypeId) (τ : Ty) (f : τ.den × (patsTy (wv74x0).pan).den → β) (g : β) : onPanL (LQ.exit (wy := wv74x0) 0 y) T τ f g = g := rfl
@[simp] theorem xr74x0 {β : Type} (y : (patsTy [.slot 2 (.pc .bool)]).den) (f : (patsTy (wv74x0).ret).den → β) (g : β) : onRet (LQ.ret (wy := wv74x0) y) f g = f y := rfl
@[simp] theorem xs74x0e0 {β : Type} (y : (patsTy [.slot 2 (.pc .bool)]).den) (f : (patsTy (wayP wv74x0 0)).den → β) (g : β) : onExit (LQ.ret (wy := wv74x0) y) 0 f g = g := rfl
@[simp] theorem xe75x1e2 {β : Type} (y : (patsTy [.box 47 [.pc tI, .pc tI, .pc (.sl T0), .pc (.sl T0), .pc tI, .pc tI, .pc tI]]).den) (f : (patsTy (wayP wv75x1 2)).den → β) (g : β) : onExit (LQ.exit (wy := wv75x1) 2 y) 2 f g = f y := rfl
@[simp] theorem xn75x1e2 {β : Type} (y : (patsTy [.box 47 [.pc tI, .pc tI, .pc (.sl T0), .pc (.sl T0), .pc tI, .pc tI, .pc tI]]).den) (f : (patsTy (wv75x1).ret).den → β) (g : β) : onRet (LQ.exit (wy := wv75x1) 2 y) f g = g := rfl
@[simp] theorem xp75x1e2 {β : Type} (y : (patsTy [.box 47 [.pc tI, .pc tI, .pc (.sl T0), .pc (.sl T0), .pc tI, .pc tI, .pc tI]]).den) (T : TypeId) (τ : Ty) (f : τ.den × (patsTy (wv75x1).pan).den → β) (g : β) : onPanL (LQ.exit (wy := wv75x1) 2 y) T τ f g = g := rfl
@[simp] theorem xr75x1 {β : Type} (y : (patsTy []).den) (f : (patsTy (wv75x1).ret).den → β) (g : β) : onRet (LQ.ret (wy := wv75x1) y) f g = f y := rfl
@[simp] theorem xs75x1e2 {β : Type} (y : (patsTy []).den) (f : (patsTy (wayP wv75x1 2)).den → β) (g : β) : onExit (LQ.ret (wy := wv75x1) y) 2 f g = g := rfl
@[simp] theorem xe104x0e0 {β : Type} (y : (patsTy []).den) (f : (patsTy (wayP wv104x0 0)).den → β) (g : β) : onExit (LQ.exit (wy := wv104x0) 0 y) 0 f g = f y := rfl
@[simp] theorem xn104x0e0 {β : Type} (y : (patsTy []).den) (f : (patsTy (wv104x0).ret).den → β) (g : β) : onRet (LQ.exit (wy := wv104x0) 0 y) f g = g := rfl
@[simp] theorem xp104x0e0 {β : Type} (y : (patsTy []).den) (T : TypeId) (τ : Ty) (f : τ.den × (patsTy (wv104x0).pan).den → β) (g : β) : onPanL (LQ.exit (wy := wv104x0) 0 y) T τ f g = g := rfl
@[simp] theorem xr104x0 {β : Type} (y : (patsTy [.slot 4 (.pc tI)]).den) (f : (patsTy (wv104x0).ret).den → β) (g : β) : onRet (LQ.ret (wy := wv104x0) y) f g = f y := rfl
@[simp] theorem xs104x0e0 {β : Type} (y : (patsTy [.slot 4 (.pc tI)]).den) (f : (patsTy (wayP wv104x0 0)).den → β) (g : β) : onExit (LQ.ret (wy := wv104x0) y) 0 f g = g := rfl
@[simp] theorem xe77x0e0 {β : Type} (y : (patsTy []).den) (f : (patsTy (wayP wv77x0 0)).den → β) (g : β) : onExit (LQ.exit (wy := wv77x0) 0 y) 0 f g = f y := rfl
@[simp] theorem xn77x0e0 {β : Type} (y : (patsTy []).den) (f : (patsTy (wv77x0).ret).den → β) (g : β) : onRet (LQ.exit (wy := wv77x0) 0 y) f g = g := rfl
@[simp] theorem xp77x0e0 {β : Type} (y : (patsTy []).den) (T : TypeId) (τ : Ty) (f : τ.den × (patsTy (wv77x0).pan).den → β) (g : β) : onPanL (LQ.exit (wy := wv77x0) 0 y) T τ f g = g := rfl
@[simp] theorem xr77x0 {β : Type} (y : (patsTy [.slot 2 (.pc .bool)]).den) (f : (patsTy (wv77x0).ret).den → β) (g : β) : onRet (LQ.ret (wy := wv77x0) y) f g = f y := rfl
@[simp] theorem xs77x0e0 {β : Type} (y : (patsTy [.slot 2 (.pc .bool)]).den) (f : (patsTy (wayP wv77x0 0)).den → β) (g : β) : onExit (LQ.ret (wy := wv77x0) y) 0 f g = g := rfl
@[simp] theorem xe77x1e2 {β : Type} (y : (patsTy []).den) (f : (patsTy (wayP wv77x1 2)).den → β) (g : β) : onExit (LQ.exit (wy := wv77x1) 2 y) 2 f g = f y := rfl
@[simp] theorem xn77x1e2 {β : Type} (y : (patsTy []).den) (f : (patsTy (wv77x1).ret).den → β) (g : β) : onRet (LQ.exit (wy := wv77x1) 2 y) f g = g := rfl
@[simp] theorem xp77x1e2 {β : Type} (y : (patsTy []).den) (T : TypeId) (τ : Ty) (f : τ.den × (patsTy (wv77x1).pan).den → β) (g : β) : onPanL (LQ.exit (wy := wv77x1) 2 y) T τ f g = g := rfl
@[simp] theorem xr77x1 {β : Type} (y : (patsTy [.slot 2 (.pc .bool)]).den) (f : (patsTy (wv77x1).ret).den → β) (g : β) : onRet (LQ.ret (wy := wv77x1) y) f g = f y := rfl
@[simp] theorem xs77x1e2 {β : Type} (y : (patsTy [.slot 2 (.pc .bool)]).den) (f : (patsTy (wayP wv77x1 2)).den → β) (g : β) : onExit (LQ.ret (wy := wv77x1) y) 2 f g = g := rfl
@[simp] theorem xe89x0e0 {β : Type} (y : (patsTy [.slot 5 (.pc (.sl T1))]).den) (f : (patsTy (wayP wv89x0 0)).den → β) (g : β) : onExit (LQ.exit (wy := wv89x0) 0 y) 0 f g = f y := rfl
@[simp] theorem xn89x0e0 {β : Type} (y : (patsTy [.slot 5 (.pc (.sl T1))]).den) (f : (patsTy (wv89x0).ret).den → β) (g : β) : onRet (LQ.exit (wy := wv89x0) 0 y) f g = g := rfl
@[simp] theorem xp89x0e0 {β : Type} (y : (patsTy [.slot 5 (.pc (.sl T1))]).den) (T : TypeId) (τ : Ty) (f : τ.den × (patsTy (wv89x0).pan).den → β) (g : β) : onPanL (LQ.exit (wy := wv89x0) 0 y) T τ f g = g := rfl
@[simp] theorem xr89x0 {β : Type} (y : (patsTy []).den) (f : (patsTy (wv89x0).ret).den → β) (g : β) : onRet (LQ.ret (wy := wv89x0) y) f g = f y := rfl
@[simp] theorem xs89x0e0 {β : Type} (y : (patsTy []).den) (f : (patsTy (wayP wv89x0 0)).den → β) (g : β) : onExit (LQ.ret (wy := wv89x0) y) 0 f g = g := rfl
@[simp] theorem xe86x0e0 {β : Type} (y : (patsTy [.box 37 [.own 1038000 3 T0, .own 1038001 3 T0]]).den) (f : (patsTy (wayP wv86x0 0)).den → β) (g : β) : onExit (LQ.exit (wy := wv86x0) 0 y) 0 f g = f y := rfl
@[simp] theorem xn86x0e0 {β : Type} (y : (patsTy [.box 37 [.own 1038000 3 T0, .own 1038001 3 T0]]).den) (f : (patsTy (wv86x0).ret).den → β) (g : β) : onRet (LQ.exit (wy := wv86x0) 0 y) f g = g := rfl
@[simp] theorem xp86x0e0 {β : Type} (y : (patsTy [.box 37 [.own 1038000 3 T0, .own 1038001 3 T0]]).den) (T : TypeId) (τ : Ty) (f : τ.den × (patsTy (wv86x0).pan).den → β) (g : β) : onPanL (LQ.exit (wy := wv86x0) 0 y) T τ f g = g := rfl
@[simp] theorem xr86x0 {β : Type} (y : (patsTy []).den) (f : (patsTy (wv86x0).ret).den → β) (g : β) : onRet (LQ.ret (wy := wv86x0) y) f g = f y := rfl
@[simp] theorem xs86x0e0 {β : Type} (y : (patsTy []).den) (f : (patsTy (wayP wv86x0 0)).den → β) (g : β) : onExit (LQ.ret (wy := wv86x0) y) 0 f g = g := rfl
@[simp] theorem xe87x0e0 {β : Type} (y : (patsTy [.slot 8 (.pc (.sl T0)), .slot 9 (.pc tI)]).den) (f : (patsTy (wayP wv87x0 0)).den → β) (g : β) : onExit (LQ.exit (wy := wv87x0) 0 y) 0 f g = f y := rfl
@[simp] theorem xn87x0e0 {β : Type} (y : (patsTy [.slot 8 (.pc (.sl T0)), .slot 9 (.pc tI)]).den) (f : (patsTy (wv87x0).ret).den → β) (g : β) : onRet (LQ.exit (wy := wv87x0) 0 y) f g = g := rfl
@[simp] theorem xp87x0e0 {β : Type} (y : (patsTy [.slot 8 (.pc (.sl T0)), .slot 9 (.pc tI)]).den) (T : TypeId) (τ : Ty) (f : τ.den × (patsTy (wv87x0).pan).den → β) (g : β) : onPanL (LQ.exit (wy := wv87x0) 0 y) T τ f g = g := rfl
@[simp] theorem xr87x0 {β : Type} (y : (patsTy []).den) (f : (patsTy (wv87x0).ret).den → β) (g : β) : onRet (LQ.ret (wy := wv87x0) y) f g = f y := rfl
@[simp] theorem xs87x0e0 {β : Type} (y : (patsTy []).den) (f : (patsTy (wayP wv87x0 0)).den → β) (g : β) : onExit (LQ.ret (wy := wv87x0) y) 0 f g = g := rfl
@[simp] theorem xe100x0e0 {β : Type} (y : (patsTy []).den) (f : (patsTy (wayP wv100x0 0)).den → β) (g : β) : onExit (LQ.exit (wy := wv100x0) 0 y) 0 f g = f y := rfl
@[simp] theorem xn100x0e0 {β : Type} (y : (patsTy []).den) (f : (patsTy (wv100x0).ret).den → β) (g : β) : onRet (LQ.exit (wy := wv100x0) 0 y) f g = g := rfl
@[simp] theorem xp100x0e0 {β : Type} (y : (patsTy []).den) (T : TypeId) (τ : Ty) (f : τ.den × (patsTy (wv100x0).pan).den → β) (g : β) : onPanL (LQ.exit (wy := wv100x0) 0 y) T τ f g = g := rfl
@[simp] theorem xr100x0 {β : Type} (y : (patsTy []).den) (f : (patsTy (wv100x0).ret).den → β) (g : β) : onRet (LQ.ret (wy := wv100x0) y) f g = f y := rfl
@[simp] theorem xs100x0e0 {β : Type} (y : (patsTy []).den) (f : (patsTy (wayP wv100x0 0)).den → β) (g : β) : onExit (LQ.ret (wy := wv100x0) y) 0 f g = g := rfl
@[simp] theorem xe101x0e0 {β : Type} (y : (patsTy []).den) (f : (patsTy (wayP wv101x0 0)).den → β) (g : β) : onExit (LQ.exit (wy := wv101x0) 0 y) 0 f g = f y := rfl
@[simp] theorem xn101x0e0 {β : Type} (y : (patsTy []).den) (f : (patsTy (wv101x0).ret).den → β) (g : β) : onRet (LQ.exit (wy := wv101x0) 0 y) f g = g := rfl
@[simp] theorem xp101x0e0 {β : Type} (y : (patsTy []).den) (T : TypeId) (τ : Ty) (f : τ.den × (patsTy (wv101x0).pan).den → β) (g : β) : onPanL (LQ.exit (wy := wv101x0) 0 y) T τ f g = g := rfl
@[simp] theorem xr101x0 {β : Type} (y : (patsTy [.slot 4 (.pc tI)]).den) (f : (patsTy (wv101x0).ret).den → β) (g : β) : onRet (LQ.ret (wy := wv101x0) y) f g = f y := rfl
@[simp] theorem xs101x0e0 {β : Type} (y : (patsTy [.slot 4 (.pc tI)]).den) (f : (patsTy (wayP wv101x0 0)).den → β) (g : β) : onExit (LQ.ret (wy := wv101x0) y) 0 f g = g := rfl
@[simp] theorem xe102x0e0 {β : Type} (y : (patsTy []).den) (f : (patsTy (wayP wv102x0 0)).den → β) (g : β) : onExit (LQ.exit (wy := wv102x0) 0 y) 0 f g = f y := rfl
@[simp] theorem xn102x0e0 {β : Type} (y : (patsTy []).den) (f : (patsTy (wv102x0).ret).den → β) (g : β) : onRet (LQ.exit (wy := wv102x0) 0 y) f g = g := rfl
@[simp] theorem xp102x0e0 {β : Type} (y : (patsTy []).den) (T : TypeId) (τ : Ty) (f : τ.den × (patsTy (wv102x0).pan).den → β) (g : β) : onPanL (LQ.exit (wy := wv102x0) 0 y) T τ f g = g := rfl
@[simp] theorem xr102x0 {β : Type} (y : (patsTy [.slot 4 (.pc tI)]).den) (f : (patsTy (wv102x0).ret).den → β) (g : β) : onRet (LQ.ret (wy := wv102x0) y) f g = f y := rfl
@[simp] theorem xs102x0e0 {β : Type} (y : (patsTy [.slot 4 (.pc tI)]).den) (f : (patsTy (wayP wv102x0 0)).den → β) (g : β) : onExit (LQ.ret (wy := wv102x0) y) 0 f g = g := rfl
@[simp] theorem xe42x0e0 {β : Type} (y : (patsTy []).den) (f : (patsTy (wayP wv42x0 0)).den → β) (g : β) : onExit (LQ.exit (wy := wv42x0) 0 y) 0 f g = f y := rfl
@[simp] theorem xn42x0e0 {β : Type} (y : (patsTy []).den) (f : (patsTy (wv42x0).ret).den → β) (g : β) : onRet (LQ.exit (wy := wv42x0) 0 y) f g = g := rfl
@[simp] theorem xp42x0e0 {β : Type} (y : (patsTy []).den) (T : TypeId) (τ : Ty) (f : τ.den × (patsTy (wv42x0).pan).den → β) (g : β) : onPanL (LQ.exit (wy := wv42x0) 0 y) T τ f g = g := rfl
@[simp] theorem xr42x0 {β : Type} (y : (patsTy [.slot 4 (.pc .bool)]).den) (f : (patsTy (wv42x0).ret).den → β) (g : β) : onRet (LQ.ret (wy := wv42x0) y) f g = f y := rfl
@[simp] theorem xs42x0e0 {β : Type} (y : (patsTy [.slot 4 (.pc .bool)]).den) (f : (patsTy (wayP wv42x0 0)).den → β) (g : β) : onExit (LQ.ret (wy := wv42x0) y) 0 f g = g := rfl
@[simp] theorem xe85x0e0 {β : Type} (y : (patsTy []).den) (f : (patsTy (wayP wv85x0 0)).den → β) (g : β) : onExit (LQ.exit (wy := wv85x0) 0 y) 0 f g = f y := rfl
@[simp] theorem xn85x0e0 {β : Type} (y : (patsTy []).den) (f : (patsTy (wv85x0).ret).den → β) (g : β) : onRet (LQ.exit (wy := wv85x0) 0 y) f g = g := rfl
@[simp] theorem xp85x0e0 {β : Type} (y : (patsTy []).den) (T : TypeId) (τ : Ty) (f : τ.den × (patsTy (wv85x0).pan).den → β) (g : β) : onPanL (LQ.exit (wy := wv85x0) 0 y) T τ f g = g := rfl
@[simp] theorem xr85x0 {β : Type} (y : (patsTy [.slot 4 (.pc .bool)]).den) (f : (patsTy (wv85x0).ret).den → β) (g : β) : onRet (LQ.ret (wy := wv85x0) y) f g = f y := rfl
@[simp] theorem xs85x0e0 {β : Type} (y : (patsTy [.slot 4 (.pc .bool)]).den) (f : (patsTy (wayP wv85x0 0)).den → β) (g : β) : onExit (LQ.ret (wy := wv85x0) y) 0 f g = g := rfl
@[simp] theorem xe49x0e0 {β : Type} (y : (patsTy [.slot 12 (.pc (.sl T1))]).den) (f : (patsTy (wayP wv49x0 0)).den → β) (g : β) : onExit (LQ.exit (wy := wv49x0) 0 y) 0 f g = f y := rfl
@[simp] theorem xn49x0e0 {β : Type} (y : (patsTy [.slot 12 (.pc (.sl T1))]).den) (f : (patsTy (wv49x0).ret).den → β) (g : β) : onRet (LQ.exit (wy := wv49x0) 0 y) f g = g := rfl
@[simp] theorem xp49x0e0 {β : Type} (y : (patsTy [.slot 12 (.pc (.sl T1))]).den) (T : TypeId) (τ : Ty) (f : τ.den × (patsTy (wv49x0).pan).den → β) (g : β) : onPanL (LQ.exit (wy := wv49x0) 0 y) T τ f g = g := rfl
@[simp] theorem xr49x0 {β : Type} (y : (patsTy []).den) (f : (patsTy (wv49x0).ret).den → β) (g : β) : onRet (LQ.ret (wy := wv49x0) y) f g = f y := rfl
@[simp] theorem xs49x0e0 {β : Type} (y : (patsTy []).den) (f : (patsTy (wayP wv49x0 0)).den → β) (g : β) : onExit (LQ.ret (wy := wv49x0) y) 0 f g = g := rfl
@[simp] theorem xe51x0e0 {β : Type} (y : (patsTy []).den) (f : (patsTy (wayP wv51x0 0)).den → β) (g : β) : onExit (LQ.exit (wy := wv51x0) 0 y) 0 f g = f y := rfl
@[simp] theorem xn51x0e0 {β : Type} (y : (patsTy []).den) (f : (patsTy (wv51x0).ret).den → β) (g : β) : onRet (LQ.exit (wy := wv51x0) 0 y) f g = g := rfl
@[simp] theorem xp51x0e0 {β : Type} (y : (patsTy []).den) (T : TypeId) (τ : Ty) (f : τ.den × (patsTy (wv51x0).pan).den → β) (g : β) : onPanL (LQ.exit (wy := wv51x0) 0 y) T τ f g = g := rfl
@[simp] theorem xr51x0 {β : Type} (y : (patsTy [.slot 4 (.pc .bool)]).den) (f : (patsTy (wv51x0).ret).den → β) (g : β) : onRet (LQ.ret (wy := wv51x0) y) f g = f y := rfl
@[simp] theorem xs51x0e0 {β : Type} (y : (patsTy [.slot 4 (.pc .bool)]).den) (f : (patsTy (wayP wv51x0 0)).den → β) (g : β) : onExit (LQ.ret (wy := wv51x0) y) 0 f g = g := rfl
@[simp] theorem xe67x0e0 {β : Type} (y : (patsTy [.slot 3 (.pc (.sl T1))]).den) (f : (patsTy (wayP wv67x0 0)).den → β) (g : β) : onExit (LQ.exit (wy := wv67x0) 0 y) 0 f g = f y := rfl
@[simp] theorem xn67x0e0 {β : Type} (y : (patsTy [.slot 3 (.pc (.sl T1))]).den) (f : (patsTy (wv67x0).ret).den → β) (g : β) : onRet (LQ.exit (wy := wv67x0) 0 y) f g = g := rfl
@[simp] theorem xp67x0e0 {β : Type} (y : (patsTy [.slot 3 (.pc (.sl T1))]).den) (T : TypeId) (τ : Ty) (f : τ.den × (patsTy (wv67x0).pan).den → β) (g : β) : onPanL (LQ.exit (wy := wv67x0) 0 y) T τ f g = g := rfl
@[simp] theorem xr67x0 {β : Type} (y : (patsTy []).den) (f : (patsTy (wv67x0).ret).den → β) (g : β) : onRet (LQ.ret (wy := wv67x0) y) f g = f y := rfl
@[simp] theorem xs67x0e0 {β : Type} (y : (patsTy []).den) (f : (patsTy (wayP wv67x0 0)).den → β) (g : β) : onExit (LQ.ret (wy := wv67x0) y) 0 f g = g := rfl
@[simp] theorem xe78x0e0 {β : Type} (y : (patsTy [.box 1 [.pc tI, .pc (.sl T1), .pc T44], .box 45 [.own 1000045 101 T54], .box 66 [.clo 78 [1, 45, 66]]]).den) (f : (patsTy (wayP wv78x0 0)).den → β) (g : β) : onExit (LQ.exit (wy := wv78x0) 0 y) 0 f g = f y := rfl
@[simp] theorem xn78x0e0 {β : Type} (y : (patsTy [.box 1 [.pc tI, .pc (.sl T1), .pc T44], .box 45 [.own 1000045 101 T54], .box 66 [.clo 78 [1, 45, 66]]]).den) (f : (patsTy (wv78x0).ret).den → β) (g : β) : onRet (LQ.exit (wy := wv78x0) 0 y) f g = g := rfl
@[simp] theorem xp78x0e0 {β : Type} (y : (patsTy [.box 1 [.pc tI, .pc (.sl T1), .pc T44], .box 45 [.own 1000045 101 T54], .box 66 [.clo 78 [1, 45, 66]]]).den) (T : TypeId) (τ : Ty) (f : τ.den × (patsTy (wv78x0).pan).den → β) (g : β) : onPanL (LQ.exit (wy := wv78x0) 0 y) T τ f g = g := rfl
@[simp] theorem xr78x0 {β : Type} (y : (patsTy []).den) (f : (patsTy (wv78x0).ret).den → β) (g : β) : onRet (LQ.ret (wy := wv78x0) y) f g = f y := rfl
@[simp] theorem xs78x0e0 {β : Type} (y : (patsTy []).den) (f : (patsTy (wayP wv78x0 0)).den → β) (g : β) : onExit (LQ.ret (wy := wv78x0) y) 0 f g = g := rfl
@[simp] theorem xe82x0e0 {β : Type} (y : (patsTy [.box 29 [.pc (.sl T0), .pc tI]]).den) (f : (patsTy (wayP wv82x0 0)).den → β) (g : β) : onExit (LQ.exit (wy := wv82x0) 0 y) 0 f g = f y := rfl
@[simp] theorem xn82x0e0 {β : Type} (y : (patsTy [.box 29 [.pc (.sl T0), .pc tI]]).den) (f : (patsTy (wv82x0).ret).den → β) (g : β) : onRet (LQ.exit (wy := wv82x0) 0 y) f g = g := rfl
@[simp] theorem xp82x0e0 {β : Type} (y : (patsTy [.box 29 [.pc (.sl T0), .pc tI]]).den) (T : TypeId) (τ : Ty) (f : τ.den × (patsTy (wv82x0).pan).den → β) (g : β) : onPanL (LQ.exit (wy := wv82x0) 0 y) T τ f g = g := rfl
@[simp] theorem xr82x0 {β : Type} (y : (patsTy []).den) (f : (patsTy (wv82x0).ret).den → β) (g : β) : onRet (LQ.ret (wy := wv82x0) y) f g = f y := rfl
@[simp] theorem xs82x0e0 {β : Type} (y : (patsTy []).den) (f : (patsTy (wayP wv82x0 0)).den → β) (g : β) : onExit (LQ.ret (wy := wv82x0) y) 0 f g = g := rfl
@[simp] theorem xe38x0e0 {β : Type} (y : (patsTy []).den) (f : (patsTy (wayP wv38x0 0)).den → β) (g : β) : onExit (LQ.exit (wy := wv38x0) 0 y) 0 f g = f y := rfl
@[simp] theorem xn38x0e0 {β : Type} (y : (patsTy []).den) (f : (patsTy (wv38x0).ret).den → β) (g : β) : onRet (LQ.exit (wy := wv38x0) 0 y) f g = g := rfl
@[simp] theorem xp38x0e0 {β : Type} (y : (patsTy []).den) (T : TypeId) (τ : Ty) (f : τ.den × (patsTy (wv38x0).pan).den → β) (g : β) : onPanL (LQ.exit (wy := wv38x0) 0 y) T τ f g = g := rfl
@[simp] theorem xr38x0 {β : Type} (y : (patsTy [.slot 2 (.pc .bool)]).den) (f : (patsTy (wv38x0).ret).den → β) (g : β) : onRet (LQ.ret (wy := wv38x0) y) f g = f y := rfl
@[simp] theorem xs38x0e0 {β : Type} (y : (patsTy [.slot 2 (.pc .bool)]).den) (f : (patsTy (wayP wv38x0 0)).den → β) (g : β) : onExit (LQ.ret (wy := wv38x0) y) 0 f g = g := rfl
@[simp] theorem xe39x0e0 {β : Type} (y : (patsTy []).den) (f : (patsTy (wayP wv39x0 0)).den → β) (g : β) : onExit (LQ.exit (wy := wv39x0) 0 y) 0 f g = f y := rfl
@[simp] theorem xn39x0e0 {β : Type} (y : (patsTy []).den) (f : (patsTy (wv39x0).ret).den → β) (g : β) : onRet (LQ.exit (wy := wv39x0) 0 y) f g = g := rfl
@[simp] theorem xp39x0e0 {β : Type} (y : (patsTy []).den) (T : TypeId) (τ : Ty) (f : τ.den × (patsTy (wv39x0).pan).den → β) (g : β) : onPanL (LQ.exit (wy := wv39x0) 0 y) T τ f g = g := rfl
@[simp] theorem xr39x0 {β : Type} (y : (patsTy [.slot 2 (.pc .bool)]).den) (f : (patsTy (wv39x0).ret).den → β) (g : β) : onRet (LQ.ret (wy := wv39x0) y) f g = f y := rfl
@[simp] theorem xs39x0e0 {β : Type} (y : (patsTy [.slot 2 (.pc .bool)]).den) (f : (patsTy (wayP wv39x0 0)).den → β) (g : β) : onExit (LQ.ret (wy := wv39x0) y) 0 f g = g := rfl
@[simp] theorem xe39x1_0e4 {β : Type} (y : (patsTy []).den) (f : (patsTy (wayP wv39x1x0 4)).den → β) (g : β) : onExit (LQ.exit (wy := wv39x1x0) 4 y) 4 f g = f y := rfl
@[simp] theorem xn39x1_0e4 {β : Type} (y : (patsTy []).den) (f : (patsTy (wv39x1x0).ret).den → β) (g : β) : onRet (LQ.exit (wy := wv39x1x0) 4 y) f g = g := rfl
@[simp] theorem xp39x1_0e4 {β : Type} (y : (patsTy []).den) (T : TypeId) (τ : Ty) (f : τ.den × (patsTy (wv39x1x0).pan).den → β) (g : β) : onPanL (LQ.exit (wy := wv39x1x0) 4 y) T τ f g = g := rfl
@[simp] theorem xr39x1x0 {β : Type} (y : (patsTy [.slot 2 (.pc .bool)]).den) (f : (patsTy (wv39x1x0).ret).den → β) (g : β) : onRet (LQ.ret (wy := wv39x1x0) y) f g = f y := rfl
@[simp] theorem xs39x1_0e4 {β : Type} (y : (patsTy [.slot 2 (.pc .bool)]).den) (f : (patsTy (wayP wv39x1x0 4)).den → β) (g : β) : onExit (LQ.ret (wy := wv39x1x0) y) 4 f g = g := rfl
@[simp] theorem xe39x1e2 {β : Type} (y : (patsTy []).den) (f : (patsTy (wayP wv39x1 2)).den → β) (g : β) : onExit (LQ.exit (wy := wv39x1) 2 y) 2 f g = f y := rfl
@[simp] theorem xn39x1e2 {β : Type} (y : (patsTy []).den) (f : (patsTy (wv39x1).ret).den → β) (g : β) : onRet (LQ.exit (wy := wv39x1) 2 y) f g = g := rfl
@[simp] theorem xp39x1e2 {β : Type} (y : (patsTy []).den) (T : TypeId) (τ : Ty) (f : τ.den × (patsTy (wv39x1).pan).den → β) (g : β) : onPanL (LQ.exit (wy := wv39x1) 2 y) T τ f g = g := rfl
@[simp] theorem xr39x1 {β : Type} (y : (patsTy [.slot 2 (.pc .bool)]).den) (f : (patsTy (wv39x1).ret).den → β) (g : β) : onRet (LQ.ret (wy := wv39x1) y) f g = f y := rfl
@[simp] theorem xs39x1e2 {β : Type} (y : (patsTy [.slot 2 (.pc .bool)]).den) (f : (patsTy (wayP wv39x1 2)).den → β) (g : β) : onExit (LQ.ret (wy := wv39x1) y) 2 f g = g := rfl
@[simp] theorem xe28x0e0 {β : Type} (y : (patsTy [.slot 3 (.pc tI)]).den) (f : (patsTy (wayP wv28x0 0)).den → β) (g : β) : onExit (LQ.exit (wy := wv28x0) 0 y) 0 f g = f y := rfl
@[simp] theorem xn28x0e0 {β : Type} (y : (patsTy [.slot 3 (.pc tI)]).den) (f : (patsTy (wv28x0).ret).den → β) (g : β) : onRet (LQ.exit (wy := wv28x0) 0 y) f g = g := rfl
@[simp] theorem xp28x0e0 {β : Type} (y : (patsTy [.slot 3 (.pc tI)]).den) (T : TypeId) (τ : Ty) (f : τ.den × (patsTy (wv28x0).pan).den → β) (g : β) : onPanL (LQ.exit (wy := wv28x0) 0 y) T τ f g = g := rfl
@[simp] theorem xr28x0 {β : Type} (y : (patsTy []).den) (f : (patsTy (wv28x0).ret).den → β) (g : β) : onRet (LQ.ret (wy := wv28x0) y) f g = f y := rfl
@[simp] theorem xs28x0e0 {β : Type} (y : (patsTy []).den) (f : (patsTy (wayP wv28x0 0)).den → β) (g : β) : onExit (LQ.ret (wy := wv28x0) y) 0 f g = g := rfl
@[simp] theorem xe29x0_0e2 {β : Type} (y : (patsTy [.slot 5 (.pc tI)]).den) (f : (patsTy (wayP wv29x0x0 2)).den → β) (g : β) : onExit (LQ.exit (wy := wv29x0x0) 2 y) 2 f g = f y := rfl
@[simp] theorem xn29x0_0e2 {β : Type} (y : (patsTy [.slot 5 (.pc tI)]).den) (f : (patsTy (wv29x0x0).ret).den → β) (g : β) : onRet (LQ.exit (wy := wv29x0x0) 2 y) f g = g := rfl
@[simp] theorem xp29x0_0e2 {β : Type} (y : (patsTy [.slot 5 (.pc tI)]).den) (T : TypeId) (τ : Ty) (f : τ.den × (patsTy (wv29x0x0).pan).den → β) (g : β) : onPanL (LQ.exit (wy := wv29x0x0) 2 y) T τ f g = g := rfl
@[simp] theorem xr29x0x0 {β : Type} (y : (patsTy []).den) (f : (patsTy (wv29x0x0).ret).den → β) (g : β) : onRet (LQ.ret (wy := wv29x0x0) y) f g = f y := rfl
@[simp] theorem xs29x0_0e2 {β : Type} (y : (patsTy []).den) (f : (patsTy (wayP wv29x0x0 2)).den → β) (g : β) : onExit (LQ.ret (wy := wv29x0x0) y) 2 f g = g := rfl
@[simp] theorem xe29x0e0 {β : Type} (y : (patsTy [.slot 3 (.pc tI)]).den) (f : (patsTy (wayP wv29x0 0)).den → β) (g : β) : onExit (LQ.exit (wy := wv29x0) 0 y) 0 f g = f y := rfl
@[simp] theorem xn29x0e0 {β : Type} (y : (patsTy [.slot 3 (.pc tI)]).den) (f : (patsTy (wv29x0).ret).den → β) (g : β) : onRet (LQ.exit (wy := wv29x0) 0 y) f g = g := rfl
@[simp] theorem xp29x0e0 {β : Type} (y : (patsTy [.slot 3 (.pc tI)]).den) (T : TypeId) (τ : Ty) (f : τ.den × (patsTy (wv29x0).pan).den → β) (g : β) : onPanL (LQ.exit (wy := wv29x0) 0 y) T τ f g = g := rfl
@[simp] theorem xr29x0 {β : Type} (y : (patsTy []).den) (f : (patsTy (wv29x0).ret).den → β) (g : β) : onRet (LQ.ret (wy := wv29x0) y) f g = f y := rfl
@[simp] theorem xs29x0e0 {β : Type} (y : (patsTy []).den) (f : (patsTy (wayP wv29x0 0)).den → β) (g : β) : onExit (LQ.ret (wy := wv29x0) y) 0 f g = g := rfl
@[simp] theorem xe35x0e0 {β : Type} (y : (patsTy []).den) (f : (patsTy (wayP wv35x0 0)).den → β) (g : β) : onExit (LQ.exit (wy := wv35x0) 0 y) 0 f g = f y := rfl
@[simp] theorem xn35x0e0 {β : Type} (y : (patsTy []).den) (f : (patsTy (wv35x0).ret).den → β) (g : β) : onRet (LQ.exit (wy := wv35x0) 0 y) f g = g := rfl
@[simp] theorem xp35x0e0 {β : Type} (y : (patsTy []).den) (T : TypeId) (τ : Ty) (f : τ.den × (patsTy (wv35x0).pan).den → β) (g : β) : onPanL (LQ.exit (wy := wv35x0) 0 y) T τ f g = g := rfl
@[simp] theorem xr35x0 {β : Type} (y : (patsTy [.slot 2 (.pc .bool)]).den) (f : (patsTy (wv35x0).ret).den → β) (g : β) : onRet (LQ.ret (wy := wv35x0) y) f g = f y := rfl
@[simp] theorem xs35x0e0 {β : Type} (y : (patsTy [.slot 2 (.pc .bool)]).den) (f : (patsTy (wayP wv35x0 0)).den → β) (g : β) : onExit (LQ.ret (wy := wv35x0) y) 0 f g = g := rfl
@[simp] theorem xe45x0e0 {β : Type} (y : (patsTy [.slot 3 (.pc tI)]).den) (f : (patsTy (wayP wv45x0 0)).den → β) (g : β) : onExit (LQ.exit (wy := wv45x0) 0 y) 0 f g = f y := rfl
@[simp] theorem xn45x0e0 {β : Type} (y : (patsTy [.slot 3 (.pc tI)]).den) (f : (patsTy (wv45x0).ret).den → β) (g : β) : onRet (LQ.exit (wy := wv45x0) 0 y) f g = g := rfl
@[simp] theorem xp45x0e0 {β : Type} (y : (patsTy [.slot 3 (.pc tI)]).den) (T : TypeId) (τ : Ty) (f : τ.den × (patsTy (wv45x0).pan).den → β) (g : β) : onPanL (LQ.exit (wy := wv45x0) 0 y) T τ f g = g := rfl
@[simp] theorem xr45x0 {β : Type} (y : (patsTy []).den) (f : (patsTy (wv45x0).ret).den → β) (g : β) : onRet (LQ.ret (wy := wv45x0) y) f g = f y := rfl
@[simp] theorem xs45x0e0 {β : Type} (y : (patsTy []).den) (f : (patsTy (wayP wv45x0 0)).den → β) (g : β) : onExit (LQ.ret (wy := wv45x0) y) 0 f g = g := rfl
@[simp] theorem xe26x0e0 {β : Type} (y : (patsTy [.slot 5 (.pc tI)]).den) (f : (patsTy (wayP wv26x0 0)).den → β) (g : β) : onExit (LQ.exit (wy := wv26x0) 0 y) 0 f g = f y := rfl
@[simp] theorem xn26x0e0 {β : Type} (y : (patsTy [.slot 5 (.pc tI)]).den) (f : (patsTy (wv26x0).ret).den → β) (g : β) : onRet (LQ.exit (wy := wv26x0) 0 y) f g = g := rfl
@[simp] theorem xp26x0e0 {β : Type} (y : (patsTy [.slot 5 (.pc tI)]).den) (T : TypeId) (τ : Ty) (f : τ.den × (patsTy (wv26x0).pan).den → β) (g : β) : onPanL (LQ.exit (wy := wv26x0) 0 y) T τ f g = g := rfl
@[simp] theorem xr26x0 {β : Type} (y : (patsTy []).den) (f : (patsTy (wv26x0).ret).den → β) (g : β) : onRet (LQ.ret (wy := wv26x0) y) f g = f y := rfl
@[simp] theorem xs26x0e0 {β : Type} (y : (patsTy []).den) (f : (patsTy (wayP wv26x0 0)).den → β) (g : β) : onExit (LQ.ret (wy := wv26x0) y) 0 f g = g := rfl
@[simp] theorem xe68x0e0 {β : Type} (y : (patsTy [.slot 5 (.pc tI)]).den) (f : (patsTy (wayP wv68x0 0)).den → β) (g : β) : onExit (LQ.exit (wy := wv68x0) 0 y) 0 f g = f y := rfl
@[simp] theorem xn68x0e0 {β : Type} (y : (patsTy [.slot 5 (.pc tI)]).den) (f : (patsTy (wv68x0).ret).den → β) (g : β) : onRet (LQ.exit (wy := wv68x0) 0 y) f g = g := rfl
@[simp] theorem xp68x0e0 {β : Type} (y : (patsTy [.slot 5 (.pc tI)]).den) (T : TypeId) (τ : Ty) (f : τ.den × (patsTy (wv68x0).pan).den → β) (g : β) : onPanL (LQ.exit (wy := wv68x0) 0 y) T τ f g = g := rfl
@[simp] theorem xr68x0 {β : Type} (y : (patsTy []).den) (f : (patsTy (wv68x0).ret).den → β) (g : β) : onRet (LQ.ret (wy := wv68x0) y) f g = f y := rfl
@[simp] theorem xs68x0e0 {β : Type} (y : (patsTy []).den) (f : (patsTy (wayP wv68x0 0)).den → β) (g : β) : onExit (LQ.ret (wy := wv68x0) y) 0 f g = g := rfl
@[simp] theorem xe23x0e0 {β : Type} (y : (patsTy [.slot 7 (.pc tI)]).den) (f : (patsTy (wayP wv23x0 0)).den → β) (g : β) : onExit (LQ.exit (wy := wv23x0) 0 y) 0 f g = f y := rfl
@[simp] theorem xn23x0e0 {β : Type} (y : (patsTy [.slot 7 (.pc tI)]).den) (f : (patsTy (wv23x0).ret).den → β) (g : β) : onRet (LQ.exit (wy := wv23x0) 0 y) f g = g := rfl
@[simp] theorem xp23x0e0 {β : Type} (y : (patsTy [.slot 7 (.pc tI)]).den) (T : TypeId) (τ : Ty) (f : τ.den × (patsTy (wv23x0).pan).den → β) (g : β) : onPanL (LQ.exit (wy := wv23x0) 0 y) T τ f g = g := rfl
@[simp] theorem xr23x0 {β : Type} (y : (patsTy []).den) (f : (patsTy (wv23x0).ret).den → β) (g : β) : onRet (LQ.ret (wy := wv23x0) y) f g = f y := rfl
@[simp] theorem xs23x0e0 {β : Type} (y : (patsTy []).den) (f : (patsTy (wayP wv23x0 0)).den → β) (g : β) : onExit (LQ.ret (wy := wv23x0) y) 0 f g = g := rfl
@[simp] theorem xe24x0_0_0e4 {β : Type} (y : (patsTy [.row 98 3 T0]).den) (f : (patsTy (wayP wv24x0x0x0 4)).den → β) (g : β) : onExit (LQ.exit (wy := wv24x0x0x0) 4 y) 4 f g = f y := rfl
@[simp] theorem xn24x0_0_0e4 {β : Type} (y : (patsTy [.row 98 3 T0]).den) (f : (patsTy (wv24x0x0x0).ret).den → β) (g : β) : onRet (LQ.exit (wy := wv24x0x0x0) 4 y) f g = g := rfl
@[simp] theorem xp24x0_0_0e4 {β : Type} (y : (patsTy [.row 98 3 T0]).den) (T : TypeId) (τ : Ty) (f : τ.den × (patsTy (wv24x0x0x0).pan).den → β) (g : β) : onPanL (LQ.exit (wy := wv24x0x0x0) 4 y) T τ f g = g := rfl
@[simp] theorem xr24x0x0x0 {β : Type} (y : (patsTy []).den) (f : (patsTy (wv24x0x0x0).ret).den → β) (g : β) : onRet (LQ.ret (wy := wv24x0x0x0) y) f g = f y := rfl
@[simp] theorem xs24x0_0_0e4 {β : Type} (y : (patsTy []).den) (f : (patsTy (wayP wv24x0x0x0 4)).den → β) (g : β) : onExit (LQ.ret (wy := wv24x0x0x0) y) 4 f g = g := rfl
@[simp] theorem xe24x0_0e2 {β : Type} (y : (patsTy [.row 98 3 T0]).den) (f : (patsTy (wayP wv24x0x0 2)).den → β) (g : β) : onExit (LQ.exit (wy := wv24x0x0) 2 y) 2 f g = f y := rfl
@[simp] theorem xn24x0_0e2 {β : Type} (y : (patsTy [.row 98 3 T0]).den) (f : (patsTy (wv24x0x0).ret).den → β) (g : β) : onRet (LQ.exit (wy := wv24x0x0) 2 y) f g = g := rfl
@[simp] theorem xp24x0_0e2 {β : Type} (y : (patsTy [.row 98 3 T0]).den) (T : TypeId) (τ : Ty) (f : τ.den × (patsTy (wv24x0x0).pan).den → β) (g : β) : onPanL (LQ.exit (wy := wv24x0x0) 2 y) T τ f g = g := rfl
@[simp] theorem xr24x0x0 {β : Type} (y : (patsTy []).den) (f : (patsTy (wv24x0x0).ret).den → β) (g : β) : onRet (LQ.ret (wy := wv24x0x0) y) f g = f y := rfl
@[simp] theorem xs24x0_0e2 {β : Type} (y : (patsTy []).den) (f : (patsTy (wayP wv24x0x0 2)).den → β) (g : β) : onExit (LQ.ret (wy := wv24x0x0) y) 2 f g = g := rfl
@[simp] theorem xe24x0e0 {β : Type} (y : (patsTy [.slot 7 (.pc (.sl T0))]).den) (f : (patsTy (wayP wv24x0 0)).den → β) (g : β) : onExit (LQ.exit (wy := wv24x0) 0 y) 0 f g = f y := rfl
@[simp] theorem xn24x0e0 {β : Type} (y : (patsTy [.slot 7 (.pc (.sl T0))]).den) (f : (patsTy (wv24x0).ret).den → β) (g : β) : onRet (LQ.exit (wy := wv24x0) 0 y) f g = g := rfl
@[simp] theorem xp24x0e0 {β : Type} (y : (patsTy [.slot 7 (.pc (.sl T0))]).den) (T : TypeId) (τ : Ty) (f : τ.den × (patsTy (wv24x0).pan).den → β) (g : β) : onPanL (LQ.exit (wy := wv24x0) 0 y) T τ f g = g := rfl
@[simp] theorem xr24x0 {β : Type} (y : (patsTy []).den) (f : (patsTy (wv24x0).ret).den → β) (g : β) : onRet (LQ.ret (wy := wv24x0) y) f g = f y := rfl
@[simp] theorem xs24x0e0 {β : Type} (y : (patsTy []).den) (f : (patsTy (wayP wv24x0 0)).den → β) (g : β) : onExit (LQ.ret (wy := wv24x0) y) 0 f g = g := rfl
@[simp] theorem xe32x0e0 {β : Type} (y : (patsTy [.slot 8 (.pc tI)]).den) (f : (patsTy (wayP wv32x0 0)).den → β) (g : β) : onExit (LQ.exit (wy := wv32x0) 0 y) 0 f g = f y := rfl
@[simp] theorem xn32x0e0 {β : Type} (y : (patsTy [.slot 8 (.pc tI)]).den) (f : (patsTy (wv32x0).ret).den → β) (g : β) : onRet (LQ.exit (wy := wv32x0) 0 y) f g = g := rfl
@[simp] theorem xp32x0e0 {β : Type} (y : (patsTy [.slot 8 (.pc tI)]).den) (T : TypeId) (τ : Ty) (f : τ.den × (patsTy (wv32x0).pan).den → β) (g : β) : onPanL (LQ.exit (wy := wv32x0) 0 y) T τ f g = g := rfl
@[simp] theorem xr32x0 {β : Type} (y : (patsTy []).den) (f : (patsTy (wv32x0).ret).den → β) (g : β) : onRet (LQ.ret (wy := wv32x0) y) f g = f y := rfl
@[simp] theorem xs32x0e0 {β : Type} (y : (patsTy []).den) (f : (patsTy (wayP wv32x0 0)).den → β) (g : β) : onExit (LQ.ret (wy := wv32x0) y) 0 f g = g := rfl
@[simp] theorem xe32x1e2 {β : Type} (y : (patsTy [.slot 9 (.pc tI)]).den) (f : (patsTy (wayP wv32x1 2)).den → β) (g : β) : onExit (LQ.exit (wy := wv32x1) 2 y) 2 f g = f y := rfl
@[simp] theorem xn32x1e2 {β : Type} (y : (patsTy [.slot 9 (.pc tI)]).den) (f : (patsTy (wv32x1).ret).den → β) (g : β) : onRet (LQ.exit (wy := wv32x1) 2 y) f g = g := rfl
@[simp] theorem xp32x1e2 {β : Type} (y : (patsTy [.slot 9 (.pc tI)]).den) (T : TypeId) (τ : Ty) (f : τ.den × (patsTy (wv32x1).pan).den → β) (g : β) : onPanL (LQ.exit (wy := wv32x1) 2 y) T τ f g = g := rfl
@[simp] theorem xr32x1 {β : Type} (y : (patsTy []).den) (f : (patsTy (wv32x1).ret).den → β) (g : β) : onRet (LQ.ret (wy := wv32x1) y) f g = f y := rfl
@[simp] theorem xs32x1e2 {β : Type} (y : (patsTy []).den) (f : (patsTy (wayP wv32x1 2)).den → β) (g : β) : onExit (LQ.ret (wy := wv32x1) y) 2 f g = g := rfl
@[simp] theorem xe27x0e0 {β : Type} (y : (patsTy [.slot 7 (.pc (.sl T0))]).den) (f : (patsTy (wayP wv27x0 0)).den → β) (g : β) : onExit (LQ.exit (wy := wv27x0) 0 y) 0 f g = f y := rfl
@[simp] theorem xn27x0e0 {β : Type} (y : (patsTy [.slot 7 (.pc (.sl T0))]).den) (f : (patsTy (wv27x0).ret).den → β) (g : β) : onRet (LQ.exit (wy := wv27x0) 0 y) f g = g := rfl
@[simp] theorem xp27x0e0 {β : Type} (y : (patsTy [.slot 7 (.pc (.sl T0))]).den) (T : TypeId) (τ : Ty) (f : τ.den × (patsTy (wv27x0).pan).den → β) (g : β) : onPanL (LQ.exit (wy := wv27x0) 0 y) T τ f g = g := rfl
@[simp] theorem xr27x0 {β : Type} (y : (patsTy []).den) (f : (patsTy (wv27x0).ret).den → β) (g : β) : onRet (LQ.ret (wy := wv27x0) y) f g = f y := rfl
@[simp] theorem xs27x0e0 {β : Type} (y : (patsTy []).den) (f : (patsTy (wayP wv27x0 0)).den → β) (g : β) : onExit (LQ.ret (wy := wv27x0) y) 0 f g = g := rfl
@[simp] theorem xe4x0e0 {β : Type} (y : (patsTy [.slot 13 (.pc tI), .slot 14 (.pc tI)]).den) (f : (patsTy (wayP wv4x0 0)).den → β) (g : β) : onExit (LQ.exit (wy := wv4x0) 0 y) 0 f g = f y := rfl
@[simp] theorem xn4x0e0 {β : Type} (y : (patsTy [.slot 13 (.pc tI), .slot 14 (.pc tI)]).den) (f : (patsTy (wv4x0).ret).den → β) (g : β) : onRet (LQ.exit (wy := wv4x0) 0 y) f g = g := rfl
@[simp] theorem xp4x0e0 {β : Type} (y : (patsTy [.slot 13 (.pc tI), .slot 14 (.pc tI)]).den) (T : TypeId) (τ : Ty) (f : τ.den × (patsTy (wv4x0).pan).den → β) (g : β) : onPanL (LQ.exit (wy := wv4x0) 0 y) T τ f g = g := rfl
@[simp] theorem xr4x0 {β : Type} (y : (patsTy []).den) (f : (patsTy (wv4x0).ret).den → β) (g : β) : onRet (LQ.ret (wy := wv4x0) y) f g = f y := rfl
@[simp] theorem xs4x0e0 {β : Type} (y : (patsTy []).den) (f : (patsTy (wayP wv4x0 0)).den → β) (g : β) : onExit (LQ.ret (wy := wv4x0) y) 0 f g = g := rfl
@[simp] theorem xe8x0e0 {β : Type} (y : (patsTy [.slot 9 (.pc tI), .slot 10 (.pc tI), .slot 11 (.pc tI)]).den) (f : (patsTy (wayP wv8x0 0)).den → β) (g : β) : onExit (LQ.exit (wy := wv8x0) 0 y) 0 f g = f y := rfl
@[simp] theorem xn8x0e0 {β : Type} (y : (patsTy [.slot 9 (.pc tI), .slot 10 (.pc tI), .slot 11 (.pc tI)]).den) (f : (patsTy (wv8x0).ret).den → β) (g : β) : onRet (LQ.exit (wy := wv8x0) 0 y) f g = g := rfl
@[simp] theorem xp8x0e0 {β : Type} (y : (patsTy [.slot 9 (.pc tI), .slot 10 (.pc tI), .slot 11 (.pc tI)]).den) (T : TypeId) (τ : Ty) (f : τ.den × (patsTy (wv8x0).pan).den → β) (g : β) : onPanL (LQ.exit (wy := wv8x0) 0 y) T τ f g = g := rfl
@[simp] theorem xr8x0 {β : Type} (y : (patsTy [.slot 8 (.pc .bool)]).den) (f : (patsTy (wv8x0).ret).den → β) (g : β) : onRet (LQ.ret (wy := wv8x0) y) f g = f y := rfl
@[simp] theorem xs8x0e0 {β : Type} (y : (patsTy [.slot 8 (.pc .bool)]).den) (f : (patsTy (wayP wv8x0 0)).den → β) (g : β) : onExit (LQ.ret (wy := wv8x0) y) 0 f g = g := rfl
end Go.Dm

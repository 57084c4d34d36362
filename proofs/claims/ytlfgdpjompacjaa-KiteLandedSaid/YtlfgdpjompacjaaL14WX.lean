/- What is read off a loop's outcome. -/
import Derived.Test.YtlfgdpjompacjaaL14GB
set_option linter.unusedVariables false
set_option linter.unusedSimpArgs false
namespace Go.Dm
set_option maxRecDepth 100000
@[simp] theorem xe72x0e0 {β : Type} (y : (patsTy []).den) (f : (patsTy (wayP wv72x0 0)).den → β) (g : β) : onExit (LQ.exit (wy := wv72x0) 0 y) 0 f g = f y := rfl
@[simp] theorem xn72x0e0 {β : Type} (y : (patsTy []).den) (f : (patsTy (wv72x0).ret).den → β) (g : β) : onRet (LQ.exit (wy := wv72x0) 0 y) f g = g := rfl
@[simp] theorem xp72x0e0 {β : Type} (y : (patsTy []).den) (T : TypeId) (τ : Ty) (f : τ.den × (patsTy (wv72x0).pan).den → β) (g : β) : onPanL (LQ.exit (wy := wv72x0) 0 y) T τ f g = g := rfl
@[simp] theorem xr72x0 {β : Type} (y : (patsTy [.slot 2 (.pc .bool)]).den) (f : (patsTy (wv72x0).ret).den → β) (g : β) : onRet (LQ.ret (wy := wv72x0) y) f g = f y := rfl
@[simp] theorem xs72x0e0 {β : Type} (y : (patsTy [.slot 2 (.pc .bool)]).den) (f : (patsTy (wayP wv72x0 0)).den → β) (g : β) : onExit (LQ.ret (wy := wv72x0) y) 0 f g = g := rfl
@[simp] theorem xe74x0e0 {β : Type} (y : (patsTy [.slot 7 (.pc (.sl T0))]).den) (f : (patsTy (wayP wv74x0 0)).den → β) (g : β) : onExit (LQ.exit (wy := wv74x0) 0 y) 0 f g = f y := rfl
@[simp] theorem xn74x0e0 {β : Type} (y : (patsTy [.slot 7 (.pc (.sl T0))]).den) (f : (patsTy (wv74x0).ret).den → β) (g : β) : onRet (LQ.exit (wy := wv74x0) 0 y) f g = g := rfl
@[simp] theorem xp74x0e0 {β : Type} (y : (patsTy [.slot 7 (.pc (.sl T0))]).den) (T : TypeId) (τ : Ty) (f : τ.den × (patsTy (wv74x0).pan).den → β) (g : β) : onPanL (LQ.exit (wy := wv74x0) 0 y) T τ f g = g := rfl
@[simp] theorem xr74x0 {β : Type} (y : (patsTy []).den) (f : (patsTy (wv74x0).ret).den → β) (g : β) : onRet (LQ.ret (wy := wv74x0) y) f g = f y := rfl
@[simp] theorem xs74x0e0 {β : Type} (y : (patsTy []).den) (f : (patsTy (wayP wv74x0 0)).den → β) (g : β) : onExit (LQ.ret (wy := wv74x0) y) 0 f g = g := rfl
@[simp] theorem xe40x0e0 {β : Type} (y : (patsTy [.slot 4 (.pc (.sl T0)), .slot 5 (.pc (.sl T0))]).den) (f : (patsTy (wayP wv40x0 0)).den → β) (g : β) : onExit (LQ.exit (wy := wv40x0) 0 y) 0 f g = f y := rfl
@[simp] theorem xn40x0e0 {β : Type} (y : (patsTy [.slot 4 (.pc (.sl T0)), .slot 5 (.pc (.sl T0))]).den) (f : (patsTy (wv40x0).ret).den → β) (g : β) : onRet (LQ.exit (wy := wv40x0) 0 y) f g = g := rfl
@[simp] theorem xp40x0e0 {β : Type} (y : (patsTy [.slot 4 (.pc (.sl T0)), .slot 5 (.pc (.sl T0))]).den) (T : TypeId) (τ : Ty) (f : τ.den × (patsTy (wv40x0).pan).den → β) (g : β) : onPanL (LQ.exit (wy := wv40x0) 0 y) T τ f g = g := rfl
@[simp] theorem xr40x0 {β : Type} (y : (patsTy []).den) (f : (patsTy (wv40x0).ret).den → β) (g : β) : onRet (LQ.ret (wy := wv40x0) y) f g = f y := rfl
@[simp] theorem xs40x0e0 {β : Type} (y : (patsTy []).den) (f : (patsTy (wayP wv40x0 0)).den → β) (g : β) : onExit (LQ.ret (wy := wv40x0) y) 0 f g = g := rfl
@[simp] theorem xe40x1e2 {β : Type} (y : (patsTy [.slot 10 (.pc (.sl T1))]).den) (f : (patsTy (wayP wv40x1 2)).den → β) (g : β) : onExit (LQ.exit (wy := wv40x1) 2 y) 2 f g = f y := rfl
@[simp] theorem xn40x1e2 {β : Type} (y : (patsTy [.slot 10 (.pc (.sl T1))]).den) (f : (patsTy (wv40x1).ret).den → β) (g : β) : onRet (LQ.exit (wy := wv40x1) 2 y) f g = g := rfl
@[simp] theorem xp40x1e2 {β : Type} (y : (patsTy [.slot 10 (.pc (.sl T1))]).den) (T : TypeId) (τ : Ty) (f : τ.den × (patsTy (wv40x1).pan).den → β) (g : β) : onPanL (LQ.exit (wy := wv40x1) 2 y) T τ f g = g := rfl
@[simp] theorem xr40x1 {β : Type} (y : (patsTy []).den) (f : (patsTy (wv40x1).ret).den → β) (g : β) : onRet (LQ.ret (wy := wv40x1) y) f g = f y := rfl
@[simp] theorem xs40x1e2 {β : Type} (y : (patsTy []).den) (f : (patsTy (wayP wv40x1 2)).den → β) (g : β) : onExit (LQ.ret (wy := wv40x1) y) 2 f g = g := rfl
@[simp] theorem xe22x0e0 {β : Type} (y : (patsTy []).den) (f : (patsTy (wayP wv22x0 0)).den → β) (g : β) : onExit (LQ.exit (wy := wv22x0) 0 y) 0 f g = f y := rfl
@[simp] theorem xn22x0e0 {β : Type} (y : (patsTy []).den) (f : (patsTy (wv22x0).ret).den → β) (g : β) : onRet (LQ.exit (wy := wv22x0) 0 y) f g = g := rfl
@[simp] theorem xp22x0e0 {β : Type} (y : (patsTy []).den) (T : TypeId) (τ : Ty) (f : τ.den × (patsTy (wv22x0).pan).den → β) (g : β) : onPanL (LQ.exit (wy := wv22x0) 0 y) T τ f g = g := rfl
@[simp] theorem xr22x0 {β : Type} (y : (patsTy [.slot 6 (.pc (.sl T0)), .slot 7 (.pc tI)]).den) (f : (patsTy (wv22x0).ret).den → β) (g : β) : onRet (LQ.ret (wy := wv22x0) y) f g = f y := rfl
@[simp] theorem xs22x0e0 {β : Type} (y : (patsTy [.slot 6 (.pc (.sl T0)), .slot 7 (.pc tI)]).den) (f : (patsTy (wayP wv22x0 0)).den → β) (g : β) : onExit (LQ.ret (wy := wv22x0) y) 0 f g = g := rfl
@[simp] theorem xe25x0e0 {β : Type} (y : (patsTy []).den) (f : (patsTy (wayP wv25x0 0)).den → β) (g : β) : onExit (LQ.exit (wy := wv25x0) 0 y) 0 f g = f y := rfl
@[simp] theorem xn25x0e0 {β : Type} (y : (patsTy []).den) (f : (patsTy (wv25x0).ret).den → β) (g : β) : onRet (LQ.exit (wy := wv25x0) 0 y) f g = g := rfl
@[simp] theorem xp25x0e0 {β : Type} (y : (patsTy []).den) (T : TypeId) (τ : Ty) (f : τ.den × (patsTy (wv25x0).pan).den → β) (g : β) : onPanL (LQ.exit (wy := wv25x0) 0 y) T τ f g = g := rfl
@[simp] theorem xr25x0 {β : Type} (y : (patsTy [.slot 4 (.pc .bool)]).den) (f : (patsTy (wv25x0).ret).den → β) (g : β) : onRet (LQ.ret (wy := wv25x0) y) f g = f y := rfl
@[simp] theorem xs25x0e0 {β : Type} (y : (patsTy [.slot 4 (.pc .bool)]).den) (f : (patsTy (wayP wv25x0 0)).den → β) (g : β) : onExit (LQ.ret (wy := wv25x0) y) 0 f g = g := rfl
@[simp] theorem xe51x0e0 {β : Type} (y : (patsTy []).den) (f : (patsTy (wayP wv51x0 0)).den → β) (g : β) : onExit (LQ.exit (wy := wv51x0) 0 y) 0 f g = f y := rfl
@[simp] theorem xn51x0e0 {β : Type} (y : (patsTy []).den) (f : (patsTy (wv51x0).ret).den → β) (g : β) : onRet (LQ.exit (wy := wv51x0) 0 y) f g = g := rfl
@[simp] theorem xp51x0e0 {β : Type} (y : (patsTy []).den) (T : TypeId) (τ : Ty) (f : τ.den × (patsTy (wv51x0).pan).den → β) (g : β) : onPanL (LQ.exit (wy := wv51x0) 0 y) T τ f g = g := rfl
@[simp] theorem xr51x0 {β : Type} (y : (patsTy [.slot 4 (.pc .bool)]).den) (f : (patsTy (wv51x0).ret).den → β) (g : β) : onRet (LQ.ret (wy := wv51x0) y) f g = f y := rfl
@[simp] theorem xs51x0e0 {β : Type} (y : (patsTy [.slot 4 (.pc .bool)]).den) (f : (patsTy (wayP wv51x0 0)).den → β) (g : β) : onExit (LQ.ret (wy := wv51x0) y) 0 f g = g := rfl
@[simp] theorem xe92x0e0 {β : Type} (y : (patsTy []).den) (f : (patsTy (wayP wv92x0 0)).den → β) (g : β) : onExit (LQ.exit (wy := wv92x0) 0 y) 0 f g = f y := rfl
@[simp] theorem xn92x0e0 {β : Type} (y : (patsTy []).den) (f : (patsTy (wv92x0).ret).den → β) (g : β) : onRet (LQ.exit (wy := wv92x0) 0 y) f g = g := rfl
@[simp] theorem xp92x0e0 {β : Type} (y : (patsTy []).den) (T : TypeId) (τ : Ty) (f : τ.den × (patsTy (wv92x0).pan).den → β) (g : β) : onPanL (LQ.exit (wy := wv92x0) 0 y) T τ f g = g := rfl
@[simp] theorem xr92x0 {β : Type} (y : (patsTy [.slot 2 (.pc .bool)]).den) (f : (patsTy (wv92x0).ret).den → β) (g : β) : onRet (LQ.ret (wy := wv92x0) y) f g = f y := rfl
@[simp] theorem xs92x0e0 {β : Type} (y : (patsTy [.slot 2 (.pc .bool)]).den) (f : (patsTy (wayP wv92x0 0)).den → β) (g : β) : onExit (LQ.ret (wy := wv92x0) y) 0 f g = g := rfl
@[simp] theorem xe94x0e0 {β : Type} (y : (patsTy [.slot 6 (.own 1000006 23 T1)]).den) (f : (patsTy (wayP wv94x0 0)).den → β) (g : β) : onExit (LQ.exit (wy := wv94x0) 0 y) 0 f g = f y := rfl
@[simp] theorem xn94x0e0 {β : Type} (y : (patsTy [.slot 6 (.own 1000006 23 T1)]).den) (f : (patsTy (wv94x0).ret).den → β) (g : β) : onRet (LQ.exit (wy := wv94x0) 0 y) f g = g := rfl
@[simp] theorem xp94x0e0 {β : Type} (y : (patsTy [.slot 6 (.own 1000006 23 T1)]).den) (T : TypeId) (τ : Ty) (f : τ.den × (patsTy (wv94x0).pan).den → β) (g : β) : onPanL (LQ.exit (wy := wv94x0) 0 y) T τ f g = g := rfl
@[simp] theorem xr94x0 {β : Type} (y : (patsTy []).den) (f : (patsTy (wv94x0).ret).den → β) (g : β) : onRet (LQ.ret (wy := wv94x0) y) f g = f y := rfl
@[simp] theorem xs94x0e0 {β : Type} (y : (patsTy []).den) (f : (patsTy (wayP wv94x0 0)).den → β) (g : β) : onExit (LQ.ret (wy := wv94x0) y) 0 f g = g := rfl
@[simp] theorem xe95x0e0 {β : Type} (y : (patsTy [.slot 5 (.pc tI)]).den) (f : (patsTy (wayP wv95x0 0)).den → β) (g : β) : onExit (LQ.exit (wy := wv95x0) 0 y) 0 f g = f y := rfl
@[simp] theorem xn95x0e0 {β : Type} (y : (patsTy [.slot 5 (.pc tI)]).den) (f : (patsTy (wv95x0).ret).den → β) (g : β) : onRet (LQ.exit (wy := wv95x0) 0 y) f g = g := rfl
@[simp] theorem xp95x0e0 {β : Type} (y : (patsTy [.slot 5 (.pc tI)]).den) (T : TypeId) (τ : Ty) (f : τ.den × (patsTy (wv95x0).pan).den → β) (g : β) : onPanL (LQ.exit (wy := wv95x0) 0 y) T τ f g = g := rfl
@[simp] theorem xr95x0 {β : Type} (y : (patsTy []).den) (f : (patsTy (wv95x0).ret).den → β) (g : β) : onRet (LQ.ret (wy := wv95x0) y) f g = f y := rfl
@[simp] theorem xs95x0e0 {β : Type} (y : (patsTy []).den) (f : (patsTy (wayP wv95x0 0)).den → β) (g : β) : onExit (LQ.ret (wy := wv95x0) y) 0 f g = g := rfl
@[simp] theorem xe96x0e0 {β : Type} (y : (patsTy [.slot 3 (.pc tI)]).den) (f : (patsTy (wayP wv96x0 0)).den → β) (g : β) : onExit (LQ.exit (wy := wv96x0) 0 y) 0 f g = f y := rfl
@[simp] theorem xn96x0e0 {β : Type} (y : (patsTy [.slot 3 (.pc tI)]).den) (f : (patsTy (wv96x0).ret).den → β) (g : β) : onRet (LQ.exit (wy := wv96x0) 0 y) f g = g := rfl
@[simp] theorem xp96x0e0 {β : Type} (y : (patsTy [.slot 3 (.pc tI)]).den) (T : TypeId) (τ : Ty) (f : τ.den × (patsTy (wv96x0).pan).den → β) (g : β) : onPanL (LQ.exit (wy := wv96x0) 0 y) T τ f g = g := rfl
@[simp] theorem xr96x0 {β : Type} (y : (patsTy []).den) (f : (patsTy (wv96x0).ret).den → β) (g : β) : onRet (LQ.ret (wy := wv96x0) y) f g = f y := rfl
@[simp] theorem xs96x0e0 {β : Type} (y : (patsTy []).den) (f : (patsTy (wayP wv96x0 0)).den → β) (g : β) : onExit (LQ.ret (wy := wv96x0) y) 0 f g = g := rfl
@[simp] theorem xe120x0e0 {β : Type} (y : (patsTy []).den) (f : (patsTy (wayP wv120x0 0)).den → β) (g : β) : onExit (LQ.exit (wy := wv120x0) 0 y) 0 f g = f y := rfl
@[simp] theorem xn120x0e0 {β : Type} (y : (patsTy []).den) (f : (patsTy (wv120x0).ret).den → β) (g : β) : onRet (LQ.exit (wy := wv120x0) 0 y) f g = g := rfl
@[simp] theorem xp120x0e0 {β : Type} (y : (patsTy []).den) (T : TypeId) (τ : Ty) (f : τ.den × (patsTy (wv120x0).pan).den → β) (g : β) : onPanL (LQ.exit (wy := wv120x0) 0 y) T τ f g = g := rfl
@[simp] theorem xr120x0 {β : Type} (y : (patsTy [.slot 6 (.pc .bool)]).den) (f : (patsTy (wv120x0).ret).den → β) (g : β) : onRet (LQ.ret (wy := wv120x0) y) f g = f y := rfl
@[simp] theorem xs120x0e0 {β : Type} (y : (patsTy [.slot 6 (.pc .bool)]).den) (f : (patsTy (wayP wv120x0 0)).den → β) (g : β) : onExit (LQ.ret (wy := wv120x0) y) 0 f g = g := rfl
@[simp] theorem xe97x0e0 {β : Type} (y : (patsTy [.slot 3 (.pc tI)]).den) (f : (patsTy (wayP wv97x0 0)).den → β) (g : β) : onExit (LQ.exit (wy := wv97x0) 0 y) 0 f g = f y := rfl
@[simp] theorem xn97x0e0 {β : Type} (y : (patsTy [.slot 3 (.pc tI)]).den) (f : (patsTy (wv97x0).ret).den → β) (g : β) : onRet (LQ.exit (wy := wv97x0) 0 y) f g = g := rfl
@[simp] theorem xp97x0e0 {β : Type} (y : (patsTy [.slot 3 (.pc tI)]).den) (T : TypeId) (τ : Ty) (f : τ.den × (patsTy (wv97x0).pan).den → β) (g : β) : onPanL (LQ.exit (wy := wv97x0) 0 y) T τ f g = g := rfl
@[simp] theorem xr97x0 {β : Type} (y : (patsTy []).den) (f : (patsTy (wv97x0).ret).den → β) (g : β) : onRet (LQ.ret (wy := wv97x0) y) f g = f y := rfl
@[simp] theorem xs97x0e0 {β : Type} (y : (patsTy []).den) (f : (patsTy (wayP wv97x0 0)).den → β) (g : β) : onExit (LQ.ret (wy := wv97x0) y) 0 f g = g := rfl
@[simp] theorem xe98x0e0 {β : Type} (y : (patsTy [.slot 3 (.pc tI)]).den) (f : (patsTy (wayP wv98x0 0)).den → β) (g : β) : onExit (LQ.exit (wy := wv98x0) 0 y) 0 f g = f y := rfl
@[simp] theorem xn98x0e0 {β : Type} (y : (patsTy [.slot 3 (.pc tI)]).den) (f : (patsTy (wv98x0).ret).den → β) (g : β) : onRet (LQ.exit (wy := wv98x0) 0 y) f g = g := rfl
@[simp] theorem xp98x0e0 {β : Type} (y : (patsTy [.slot 3 (.pc tI)]).den) (T : TypeId) (τ : Ty) (f : τ.den × (patsTy (wv98x0).pan).den → β) (g : β) : onPanL (LQ.exit (wy := wv98x0) 0 y) T τ f g = g := rfl
@[simp] theorem xr98x0 {β : Type} (y : (patsTy []).den) (f : (patsTy (wv98x0).ret).den → β) (g : β) : onRet (LQ.ret (wy := wv98x0) y) f g = f y := rfl
@[simp] theorem xs98x0e0 {β : Type} (y : (patsTy []).den) (f : (patsTy (wayP wv98x0 0)).den → β) (g : β) : onExit (LQ.ret (wy := wv98x0) y) 0 f g = g := rfl
@[simp] theorem xe48x0_0_0e4 {β : Type} (y : (patsTy [.slot 9 (.pc (.sl T0)), .slot 10 (.pc (.sl T0))]).den) (f : (patsTy (wayP wv48x0x0x0 4)).den → β) (g : β) : onExit (LQ.exit (wy := wv48x0x0x0) 4 y) 4 f g = f y := rfl
@[simp] theorem xn48x0_0_0e4 {β : Type} (y : (patsTy [.slot 9 (.pc (.sl T0)), .slot 10 (.pc (.sl T0))]).den) (f : (patsTy (wv48x0x0x0).ret).den → β) (g : β) : onRet (LQ.exit (wy := wv48x0x0x0) 4 y) f g = g := rfl
@[simp] theorem xp48x0_0_0e4 {β : Type} (y : (patsTy [.slot 9 (.pc (.sl T0)), .slot 10 (.pc (.sl T0))]).den) (T : TypeId) (τ : Ty) (f : τ.den × (patsTy (wv48x0x0x0).pan).den → β) (g : β) : onPanL (LQ.exit (wy := wv48x0x0x0) 4 y) T τ f g = g := rfl
@[simp] theorem xr48x0x0x0 {β : Type} (y : (patsTy []).den) (f : (patsTy (wv48x0x0x0).ret).den → β) (g : β) : onRet (LQ.ret (wy := wv48x0x0x0) y) f g = f y := rfl
@[simp] theorem xs48x0_0_0e4 {β : Type} (y : (patsTy []).den) (f : (patsTy (wayP wv48x0x0x0 4)).den → β) (g : β) : onExit (LQ.ret (wy := wv48x0x0x0) y) 4 f g = g := rfl
@[simp] theorem xe124x0e0 {β : Type} (y : (patsTy [.box 5 [.pc (.sl T1)], .box 34 [.pc tI, .pc tI], .box 88 [.mp 97], .box 3 [.pc (.sl T9), .pc tI, .pc tI, .pc tI, .pc tI, .pc tI, .pc tI, .pc tI, .pc tI, .pc tI, .pc tI, .pc tI, .pc tI, .pc tI, .pc tI, .pc tI], .box 61 [.row 70], .box 115 [.clo 124 [5, 34, 88, 3, 61, 115]], .mp 97 T4 .bool, .row 70 3 T0]).den) (f : (patsTy (wayP wv124x0 0)).den → β) (g : β) : onExit (LQ.exit (wy := wv124x0) 0 y) 0 f g = f y := rfl
@[simp] theorem xn124x0e0 {β : Type} (y : (patsTy [.box 5 [.pc (.sl T1)], .box 34 [.pc tI, .pc tI], .box 88 [.mp 97], .box 3 [.pc (.sl T9), .pc tI, .pc tI, .pc tI, .pc tI, .pc tI, .pc tI, .pc tI, .pc tI, .pc tI, .pc tI, .pc tI, .pc tI, .pc tI, .pc tI, .pc tI], .box 61 [.row 70], .box 115 [.clo 124 [5, 34, 88, 3, 61, 115]], .mp 97 T4 .bool, .row 70 3 T0]).den) (f : (patsTy (wv124x0).ret).den → β) (g : β) : onRet (LQ.exit (wy := wv124x0) 0 y) f g = g := rfl
@[simp] theorem xp124x0e0 {β : Type} (y : (patsTy [.box 5 [.pc (.sl T1)], .box 34 [.pc tI, .pc tI], .box 88 [.mp 97], .box 3 [.pc (.sl T9), .pc tI, .pc tI, .pc tI, .pc tI, .pc tI, .pc tI, .pc tI, .pc tI, .pc tI, .pc tI, .pc tI, .pc tI, .pc tI, .pc tI, .pc tI], .box 61 [.row 70], .box 115 [.clo 124 [5, 34, 88, 3, 61, 115]], .mp 97 T4 .bool, .row 70 3 T0]).den) (T : TypeId) (τ : Ty) (f : τ.den × (patsTy (wv124x0).pan).den → β) (g : β) : onPanL (LQ.exit (wy := wv124x0) 0 y) T τ f g = g := rfl
@[simp] theorem xr124x0 {β : Type} (y : (patsTy [.slot 8 (.pc .bool), .box 5 [.pc (.sl T1)], .box 34 [.pc tI, .pc tI], .box 88 [.mp 97], .box 3 [.pc (.sl T9), .pc tI, .pc tI, .pc tI, .pc tI, .pc tI, .pc tI, .pc tI, .pc tI, .pc tI, .pc tI, .pc tI, .pc tI, .pc tI, .pc tI, .pc tI], .box 61 [.row 70], .box 115 [.clo 124 [5, 34, 88, 3, 61, 115]], .mp 97 T4 .bool, .row 70 3 T0]).den) (f : (patsTy (wv124x0).ret).den → β) (g : β) : onRet (LQ.ret (wy := wv124x0) y) f g = f y := rfl
@[simp] theorem xs124x0e0 {β : Type} (y : (patsTy [.slot 8 (.pc .bool), .box 5 [.pc (.sl T1)], .box 34 [.pc tI, .pc tI], .box 88 [.mp 97], .box 3 [.pc (.sl T9), .pc tI, .pc tI, .pc tI, .pc tI, .pc tI, .pc tI, .pc tI, .pc tI, .pc tI, .pc tI, .pc tI, .pc tI, .pc tI, .pc tI, .pc tI], .box 61 [.row 70], .box 115 [.clo 124 [5, 34, 88, 3, 61, 115]], .mp 97 T4 .bool, .row 70 3 T0]).den) (f : (patsTy (wayP wv124x0 0)).den → β) (g : β) : onExit (LQ.ret (wy := wv124x0) y) 0 f g = g := rfl
@[simp] theorem xe87x0e0 {β : Type} (y : (patsTy []).den) (f : (patsTy (wayP wv87x0 0)).den → β) (g : β) : onExit (LQ.exit (wy := wv87x0) 0 y) 0 f g = f y := rfl
@[simp] theorem xn87x0e0 {β : Type} (y : (patsTy []).den) (f : (patsTy (wv87x0).ret).den → β) (g : β) : onRet (LQ.exit (wy := wv87x0) 0 y) f g = g := rfl
@[simp] theorem xp87x0e0 {β : Type} (y : (patsTy []).den) (T : TypeId) (τ : Ty) (f : τ.den × (patsTy (wv87x0).pan).den → β) (g : β) : onPanL (LQ.exit (wy := wv87x0) 0 y) T τ f g = g := rfl
@[simp] theorem xr87x0 {β : Type} (y : (patsTy [.slot 6 (.pc tI), .slot 7 (.pc .bool)]).den) (f : (patsTy (wv87x0).ret).den → β) (g : β) : onRet (LQ.ret (wy := wv87x0) y) f g = f y := rfl
@[simp] theorem xs87x0e0 {β : Type} (y : (patsTy [.slot 6 (.pc tI), .slot 7 (.pc .bool)]).den) (f : (patsTy (wayP wv87x0 0)).den → β) (g : β) : onExit (LQ.ret (wy := wv87x0) y) 0 f g = g := rfl
@[simp] theorem xe28x0e0 {β : Type} (y : (patsTy [.box 183 [.pc tI, .pc tI, .own 1184002 23 T1, .own 1184003 23 T1]]).den) (f : (patsTy (wayP wv28x0 0)).den → β) (g : β) : onExit (LQ.exit (wy := wv28x0) 0 y) 0 f g = f y := rfl
@[simp] theorem xn28x0e0 {β : Type} (y : (patsTy [.box 183 [.pc tI, .pc tI, .own 1184002 23 T1, .own 1184003 23 T1]]).den) (f : (patsTy (wv28x0).ret).den → β) (g : β) : onRet (LQ.exit (wy := wv28x0) 0 y) f g = g := rfl
@[simp] theorem xp28x0e0 {β : Type} (y : (patsTy [.box 183 [.pc tI, .pc tI, .own 1184002 23 T1, .own 1184003 23 T1]]).den) (T : TypeId) (τ : Ty) (f : τ.den × (patsTy (wv28x0).pan).den → β) (g : β) : onPanL (LQ.exit (wy := wv28x0) 0 y) T τ f g = g := rfl
@[simp] theorem xr28x0 {β : Type} (y : (patsTy []).den) (f : (patsTy (wv28x0).ret).den → β) (g : β) : onRet (LQ.ret (wy := wv28x0) y) f g = f y := rfl
@[simp] theorem xs28x0e0 {β : Type} (y : (patsTy []).den) (f : (patsTy (wayP wv28x0 0)).den → β) (g : β) : onExit (LQ.ret (wy := wv28x0) y) 0 f g = g := rfl
@[simp] theorem xe38x0e0 {β : Type} (y : (patsTy []).den) (f : (patsTy (wayP wv38x0 0)).den → β) (g : β) : onExit (LQ.exit (wy := wv38x0) 0 y) 0 f g = f y := rfl
@[simp] theorem xn38x0e0 {β : Type} (y : (patsTy []).den) (f : (patsTy (wv38x0).ret).den → β) (g : β) : onRet (LQ.exit (wy := wv38x0) 0 y) f g = g := rfl
@[simp] theorem xp38x0e0 {β : Type} (y : (patsTy []).den) (T : TypeId) (τ : Ty) (f : τ.den × (patsTy (wv38x0).pan).den → β) (g : β) : onPanL (LQ.exit (wy := wv38x0) 0 y) T τ f g = g := rfl
@[simp] theorem xr38x0 {β : Type} (y : (patsTy [.slot 2 (.pc .bool)]).den) (f : (patsTy (wv38x0).ret).den → β) (g : β) : onRet (LQ.ret (wy := wv38x0) y) f g = f y := rfl
@[simp] theorem xs38x0e0 {β : Type} (y : (patsTy [.slot 2 (.pc .bool)]).den) (f : (patsTy (wayP wv38x0 0)).den → β) (g : β) : onExit (LQ.ret (wy := wv38x0) y) 0 f g = g := rfl
@[simp] theorem xe57x0e0 {β : Type} (y : (patsTy []).den) (f : (patsTy (wayP wv57x0 0)).den → β) (g : β) : onExit (LQ.exit (wy := wv57x0) 0 y) 0 f g = f y := rfl
@[simp] theorem xn57x0e0 {β : Type} (y : (patsTy []).den) (f : (patsTy (wv57x0).ret).den → β) (g : β) : onRet (LQ.exit (wy := wv57x0) 0 y) f g = g := rfl
@[simp] theorem xp57x0e0 {β : Type} (y : (patsTy []).den) (T : TypeId) (τ : Ty) (f : τ.den × (patsTy (wv57x0).pan).den → β) (g : β) : onPanL (LQ.exit (wy := wv57x0) 0 y) T τ f g = g := rfl
@[simp] theorem xr57x0 {β : Type} (y : (patsTy [.slot 4 (.pc .bool)]).den) (f : (patsTy (wv57x0).ret).den → β) (g : β) : onRet (LQ.ret (wy := wv57x0) y) f g = f y := rfl
@[simp] theorem xs57x0e0 {β : Type} (y : (patsTy [.slot 4 (.pc .bool)]).den) (f : (patsTy (wayP wv57x0 0)).den → β) (g : β) : onExit (LQ.ret (wy := wv57x0) y) 0 f g = g := rfl
@[simp] theorem xe59x0e0 {β : Type} (y : (patsTy [.box 75 [.pc tI, .pc tI, .pc tI, .own 1076003 3 T0, .own 1076004 3 T0]]).den) (f : (patsTy (wayP wv59x0 0)).den → β) (g : β) : onExit (LQ.exit (wy := wv59x0) 0 y) 0 f g = f y := rfl
@[simp] theorem xn59x0e0 {β : Type} (y : (patsTy [.box 75 [.pc tI, .pc tI, .pc tI, .own 1076003 3 T0, .own 1076004 3 T0]]).den) (f : (patsTy (wv59x0).ret).den → β) (g : β) : onRet (LQ.exit (wy := wv59x0) 0 y) f g = g := rfl
@[simp] theorem xp59x0e0 {β : Type} (y : (patsTy [.box 75 [.pc tI, .pc tI, .pc tI, .own 1076003 3 T0, .own 1076004 3 T0]]).den) (T : TypeId) (τ : Ty) (f : τ.den × (patsTy (wv59x0).pan).den → β) (g : β) : onPanL (LQ.exit (wy := wv59x0) 0 y) T τ f g = g := rfl
@[simp] theorem xr59x0 {β : Type} (y : (patsTy []).den) (f : (patsTy (wv59x0).ret).den → β) (g : β) : onRet (LQ.ret (wy := wv59x0) y) f g = f y := rfl
@[simp] theorem xs59x0e0 {β : Type} (y : (patsTy []).den) (f : (patsTy (wayP wv59x0 0)).den → β) (g : β) : onExit (LQ.ret (wy := wv59x0) y) 0 f g = g := rfl
@[simp] theorem xe14x0_0_0e4 {β : Type} (y : (patsTy [.box 1081 [.pc .bool, .pc .bool, .pc .bool, .pc .bool, .pc .bool, .pc .bool]]).den) (f : (patsTy (wayP wv14x0x0x0 4)).den → β) (g : β) : onExit (LQ.exit (wy := wv14x0x0x0) 4 y) 4 f g = f y := rfl
@[simp] theorem xn14x0_0_0e4 {β : Type} (y : (patsTy [.box 1081 [.pc .bool, .pc .bool, .pc .bool, .pc .bool, .pc .bool, .pc .bool]]).den) (f : (patsTy (wv14x0x0x0).ret).den → β) (g : β) : onRet (LQ.exit (wy := wv14x0x0x0) 4 y) f g = g := rfl
@[simp] theorem xp14x0_0_0e4 {β : Type} (y : (patsTy [.box 1081 [.pc .bool, .pc .bool, .pc .bool, .pc .bool, .pc .bool, .pc .bool]]).den) (T : TypeId) (τ : Ty) (f : τ.den × (patsTy (wv14x0x0x0).pan).den → β) (g : β) : onPanL (LQ.exit (wy := wv14x0x0x0) 4 y) T τ f g = g := rfl
@[simp] theorem xr14x0x0x0 {β : Type} (y : (patsTy [.slot 4 (.pc .bool)]).den) (f : (patsTy (wv14x0x0x0).ret).den → β) (g : β) : onRet (LQ.ret (wy := wv14x0x0x0) y) f g = f y := rfl
@[simp] theorem xs14x0_0_0e4 {β : Type} (y : (patsTy [.slot 4 (.pc .bool)]).den) (f : (patsTy (wayP wv14x0x0x0 4)).den → β) (g : β) : onExit (LQ.ret (wy := wv14x0x0x0) y) 4 f g = g := rfl
@[simp] theorem xe14x0_0e2 {β : Type} (y : (patsTy [.box 1081 [.pc .bool, .pc .bool, .pc .bool, .pc .bool, .pc .bool, .pc .bool]]).den) (f : (patsTy (wayP wv14x0x0 2)).den → β) (g : β) : onExit (LQ.exit (wy := wv14x0x0) 2 y) 2 f g = f y := rfl
@[simp] theorem xn14x0_0e2 {β : Type} (y : (patsTy [.box 1081 [.pc .bool, .pc .bool, .pc .bool, .pc .bool, .pc .bool, .pc .bool]]).den) (f : (patsTy (wv14x0x0).ret).den → β) (g : β) : onRet (LQ.exit (wy := wv14x0x0) 2 y) f g = g := rfl
@[simp] theorem xp14x0_0e2 {β : Type} (y : (patsTy [.box 1081 [.pc .bool, .pc .bool, .pc .bool, .pc .bool, .pc .bool, .pc .bool]]).den) (T : TypeId) (τ : Ty) (f : τ.den × (patsTy (wv14x0x0).pan).den → β) (g : β) : onPanL (LQ.exit (wy := wv14x0x0) 2 y) T τ f g = g := rfl
@[simp] theorem xr14x0x0 {β : Type} (y : (patsTy [.slot 4 (.pc .bool)]).den) (f : (patsTy (wv14x0x0).ret).den → β) (g : β) : onRet (LQ.ret (wy := wv14x0x0) y) f g = f y := rfl
@[simp] theorem xs14x0_0e2 {β : Type} (y : (patsTy [.slot 4 (.pc .bool)]).den) (f : (patsTy (wayP wv14x0x0 2)).den → β) (g : β) : onExit (LQ.ret (wy := wv14x0x0) y) 2 f g = g := rfl
@[simp] theorem xe14x0e0 {β : Type} (y : (patsTy [.box 1081 [.pc .bool, .pc .bool, .pc .bool, .pc .bool, .pc .bool, .pc .bool]]).den) (f : (patsTy (wayP wv14x0 0)).den → β) (g : β) : onExit (LQ.exit (wy := wv14x0) 0 y) 0 f g = f y := rfl
@[simp] theorem xn14x0e0 {β : Type} (y : (patsTy [.box 1081 [.pc .bool, .pc .bool, .pc .bool, .pc .bool, .pc .bool, .pc .bool]]).den) (f : (patsTy (wv14x0).ret).den → β) (g : β) : onRet (LQ.exit (wy := wv14x0) 0 y) f g = g := rfl
@[simp] theorem xp14x0e0 {β : Type} (y : (patsTy [.box 1081 [.pc .bool, .pc .bool, .pc .bool, .pc .bool, .pc .bool, .pc .bool]]).den) (T : TypeId) (τ : Ty) (f : τ.den × (patsTy (wv14x0).pan).den → β) (g : β) : onPanL (LQ.exit (wy := wv14x0) 0 y) T τ f g = g := rfl
@[simp] theorem xr14x0 {β : Type} (y : (patsTy [.slot 4 (.pc .bool)]).den) (f : (patsTy (wv14x0).ret).den → β) (g : β) : onRet (LQ.ret (wy := wv14x0) y) f g = f y := rfl
@[simp] theorem xs14x0e0 {β : Type} (y : (patsTy [.slot 4 (.pc .bool)]).den) (f : (patsTy (wayP wv14x0 0)).den → β) (g : β) : onExit (LQ.ret (wy := wv14x0) y) 0 f g = g := rfl
end Go.Dm

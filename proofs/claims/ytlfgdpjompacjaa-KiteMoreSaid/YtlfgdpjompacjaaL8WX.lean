/- What is read off a loop's outcome. -/
import Derived.Test.YtlfgdpjompacjaaL8GB
set_option linter.unusedVariables false
set_option linter.unusedSimpArgs false
namespace Go.Dm
set_option maxRecDepth 100000
@[simp] theorem xe72x0e0 {β : Type} (y : (patsTy []).den) (f : (patsTy (wayP wv72x0 0)).den → β) (g : β) : onExit (LQ.exit (wy := wv72x0) 0 y) 0 f g = f y := rfl
@[simp] theorem xn72x0e0 {β : Type} (y : (patsTy []).den) (f : (patsTy (wv72x0).ret).den → β) (g : β) : onRet (LQ.exit (wy := wv72x0) 0 y) f g = g := rfl
@[simp] theorem xp72x0e0 {β : Type} (y : (patsTy []).den) (T : TypeId) (τ : Ty) (f : τ.den × (patsTy (wv72x0).pan).den → β) (g : β) : onPanL (LQ.exit (wy := wv72x0) 0 y) T τ f g = g := rfl
@[simp] theorem xr72x0 {β : Type} (y : (patsTy [.slot 2 (.pc .bool)]).den) (f : (patsTy (wv72x0).ret).den → β) (g : β) : onRet (LQ.ret (wy := wv72x0) y) f g = f y := rfl
@[simp] theorem xs72x0e0 {β : Type} (y : (patsTy [.slot 2 (.pc .bool)]).den) (f : (patsTy (wayP wv72x0 0)).den → β) (g : β) : onExit (LQ.ret (wy := wv72x0) y) 0 f g = g := rfl
@[simp] theorem xe74x0e0 {β : Type} (y : (patsTy [.slot 7 (.pc (.sl T0))]).den) (f : (patsTy (wayP wv74x0 0)).den → β) (g : β) : onExit (LQ.exit (wy := wv74x0) 0 y) 0 f g = f y := rfl
@[simp] theorem xn74x0e0 {β : Type} (y : (patsTy [.slot 7 (.pc (.sl T0))]).den) (f : (patsTy (wv74x0).ret).den → β) (g : β) : onRet (LQ.exit (wy := wv74x0) 0 y) f g = g := rfl
@[simp] theorem xp74x0e0 {β : Type} (y : (patsTy [.slot 7 (.pc (.sl T0))]).den) (T : TypeId) (τ : Ty) (f : τ.den × (patsTy (wv74x0).pan).den → β) (g : β) : onPanL (LQ.exit (wy := wv74x0) 0 y) T τ f g = g := rfl
@[simp] theorem xr74x0 {β : Type} (y : (patsTy []).den) (f : (patsTy (wv74x0).ret).den → β) (g : β) : onRet (LQ.ret (wy := wv74x0) y) f g = f y := rfl
@[simp] theorem xs74x0e0 {β : Type} (y : (patsTy []).den) (f : (patsTy (wayP wv74x0 0)).den → β) (g : β) : onExit (LQ.ret (wy := wv74x0) y) 0 f g = g := rfl
@[simp] theorem xe40x0e0 {β : Type} (y : (patsTy [.slot 4 (.pc (.sl T0)), .slot 5 (.pc (.sl T0))]).den) (f : (patsTy (wayP wv40x0 0)).den → β) (g : β) : onExit (LQ.exit (wy := wv40x0) 0 y) 0 f g = f y := rfl
@[simp] theorem xn40x0e0 {β : Type} (y : (patsTy [.slot 4 (.pc (.sl T0)), .slot 5 (.pc (.sl T0))]).den) (f : (patsTy (wv40x0).ret).den → β) (g : β) : onRet (LQ.exit (wy := wv40x0) 0 y) f g = g := rfl
@[simp] theorem xp40x0e0 {β : Type} (y : (patsTy [.slot 4 (.pc (.sl T0)), .slot 5 (.pc (.sl T0))]).den) (T : TypeId) (τ : Ty) (f : τ.den × (patsTy (wv40x0).pan).den → β) (g : β) : onPanL (LQ.exit (wy := wv40x0) 0 y) T τ f g = g := rfl
@[simp] theorem xr40x0 {β : Type} (y : (patsTy []).den) (f : (patsTy (wv40x0).ret).den → β) (g : β) : onRet (LQ.ret (wy := wv40x0) y) f g = f y := rfl
@[simp] theorem xs40x0e0 {β : Type} (y : (patsTy []).den) (f : (patsTy (wayP wv40x0 0)).den → β) (g : β) : onExit (LQ.ret (wy := wv40x0) y) 0 f g = g := rfl
@[simp] theorem xe40x1e2 {β : Type} (y : (patsTy [.slot 10 (.pc (.sl T1))]).den) (f : (patsTy (wayP wv40x1 2)).den → β) (g : β) : onExit (LQ.exit (wy := wv40x1) 2 y) 2 f g = f y := rfl
@[simp] theorem xn40x1e2 {β : Type} (y : (patsTy [.slot 10 (.pc (.sl T1))]).den) (f : (patsTy (wv40x1).ret).den → β) (g : β) : onRet (LQ.exit (wy := wv40x1) 2 y) f g = g := rfl
@[simp] theorem xp40x1e2 {β : Type} (y : (patsTy [.slot 10 (.pc (.sl T1))]).den) (T : TypeId) (τ : Ty) (f : τ.den × (patsTy (wv40x1).pan).den → β) (g : β) : onPanL (LQ.exit (wy := wv40x1) 2 y) T τ f g = g := rfl
@[simp] theorem xr40x1 {β : Type} (y : (patsTy []).den) (f : (patsTy (wv40x1).ret).den → β) (g : β) : onRet (LQ.ret (wy := wv40x1) y) f g = f y := rfl
@[simp] theorem xs40x1e2 {β : Type} (y : (patsTy []).den) (f : (patsTy (wayP wv40x1 2)).den → β) (g : β) : onExit (LQ.ret (wy := wv40x1) y) 2 f g = g := rfl
@[simp] theorem xe22x0e0 {β : Type} (y : (patsTy []).den) (f : (patsTy (wayP wv22x0 0)).den → β) (g : β) : onExit (LQ.exit (wy := wv22x0) 0 y) 0 f g = f y := rfl
@[simp] theorem xn22x0e0 {β : Type} (y : (patsTy []).den) (f : (patsTy (wv22x0).ret).den → β) (g : β) : onRet (LQ.exit (wy := wv22x0) 0 y) f g = g := rfl
@[simp] theorem xp22x0e0 {β : Type} (y : (patsTy []).den) (T : TypeId) (τ : Ty) (f : τ.den × (patsTy (wv22x0).pan).den → β) (g : β) : onPanL (LQ.exit (wy := wv22x0) 0 y) T τ f g = g := rfl
@[simp] theorem xr22x0 {β : Type} (y : (patsTy [.slot 6 (.pc (.sl T0)), .slot 7 (.pc tI)]).den) (f : (patsTy (wv22x0).ret).den → β) (g : β) : onRet (LQ.ret (wy := wv22x0) y) f g = f y := rfl
@[simp] theorem xs22x0e0 {β : Type} (y : (patsTy [.slot 6 (.pc (.sl T0)), .slot 7 (.pc tI)]).den) (f : (patsTy (wayP wv22x0 0)).den → β) (g : β) : onExit (LQ.ret (wy := wv22x0) y) 0 f g = g := rfl
@[simp] theorem xe23x0e0 {β : Type} (y : (patsTy []).den) (f : (patsTy (wayP wv23x0 0)).den → β) (g : β) : onExit (LQ.exit (wy := wv23x0) 0 y) 0 f g = f y := rfl
@[simp] theorem xn23x0e0 {β : Type} (y : (patsTy []).den) (f : (patsTy (wv23x0).ret).den → β) (g : β) : onRet (LQ.exit (wy := wv23x0) 0 y) f g = g := rfl
@[simp] theorem xp23x0e0 {β : Type} (y : (patsTy []).den) (T : TypeId) (τ : Ty) (f : τ.den × (patsTy (wv23x0).pan).den → β) (g : β) : onPanL (LQ.exit (wy := wv23x0) 0 y) T τ f g = g := rfl
@[simp] theorem xr23x0 {β : Type} (y : (patsTy [.slot 2 (.pc .bool)]).den) (f : (patsTy (wv23x0).ret).den → β) (g : β) : onRet (LQ.ret (wy := wv23x0) y) f g = f y := rfl
@[simp] theorem xs23x0e0 {β : Type} (y : (patsTy [.slot 2 (.pc .bool)]).den) (f : (patsTy (wayP wv23x0 0)).den → β) (g : β) : onExit (LQ.ret (wy := wv23x0) y) 0 f g = g := rfl
@[simp] theorem xe24x0e0 {β : Type} (y : (patsTy []).den) (f : (patsTy (wayP wv24x0 0)).den → β) (g : β) : onExit (LQ.exit (wy := wv24x0) 0 y) 0 f g = f y := rfl
@[simp] theorem xn24x0e0 {β : Type} (y : (patsTy []).den) (f : (patsTy (wv24x0).ret).den → β) (g : β) : onRet (LQ.exit (wy := wv24x0) 0 y) f g = g := rfl
@[simp] theorem xp24x0e0 {β : Type} (y : (patsTy []).den) (T : TypeId) (τ : Ty) (f : τ.den × (patsTy (wv24x0).pan).den → β) (g : β) : onPanL (LQ.exit (wy := wv24x0) 0 y) T τ f g = g := rfl
@[simp] theorem xr24x0 {β : Type} (y : (patsTy [.slot 6 (.pc .bool)]).den) (f : (patsTy (wv24x0).ret).den → β) (g : β) : onRet (LQ.ret (wy := wv24x0) y) f g = f y := rfl
@[simp] theorem xs24x0e0 {β : Type} (y : (patsTy [.slot 6 (.pc .bool)]).den) (f : (patsTy (wayP wv24x0 0)).den → β) (g : β) : onExit (LQ.ret (wy := wv24x0) y) 0 f g = g := rfl
@[simp] theorem xe26x0e0 {β : Type} (y : (patsTy [.slot 7 (.pc (.sl T0))]).den) (f : (patsTy (wayP wv26x0 0)).den → β) (g : β) : onExit (LQ.exit (wy := wv26x0) 0 y) 0 f g = f y := rfl
@[simp] theorem xn26x0e0 {β : Type} (y : (patsTy [.slot 7 (.pc (.sl T0))]).den) (f : (patsTy (wv26x0).ret).den → β) (g : β) : onRet (LQ.exit (wy := wv26x0) 0 y) f g = g := rfl
@[simp] theorem xp26x0e0 {β : Type} (y : (patsTy [.slot 7 (.pc (.sl T0))]).den) (T : TypeId) (τ : Ty) (f : τ.den × (patsTy (wv26x0).pan).den → β) (g : β) : onPanL (LQ.exit (wy := wv26x0) 0 y) T τ f g = g := rfl
@[simp] theorem xr26x0 {β : Type} (y : (patsTy []).den) (f : (patsTy (wv26x0).ret).den → β) (g : β) : onRet (LQ.ret (wy := wv26x0) y) f g = f y := rfl
@[simp] theorem xs26x0e0 {β : Type} (y : (patsTy []).den) (f : (patsTy (wayP wv26x0 0)).den → β) (g : β) : onExit (LQ.ret (wy := wv26x0) y) 0 f g = g := rfl
@[simp] theorem xe25x0e0 {β : Type} (y : (patsTy []).den) (f : (patsTy (wayP wv25x0 0)).den → β) (g : β) : onExit (LQ.exit (wy := wv25x0) 0 y) 0 f g = f y := rfl
@[simp] theorem xn25x0e0 {β : Type} (y : (patsTy []).den) (f : (patsTy (wv25x0).ret).den → β) (g : β) : onRet (LQ.exit (wy := wv25x0) 0 y) f g = g := rfl
@[simp] theorem xp25x0e0 {β : Type} (y : (patsTy []).den) (T : TypeId) (τ : Ty) (f : τ.den × (patsTy (wv25x0).pan).den → β) (g : β) : onPanL (LQ.exit (wy := wv25x0) 0 y) T τ f g = g := rfl
@[simp] theorem xr25x0 {β : Type} (y : (patsTy [.slot 4 (.pc .bool)]).den) (f : (patsTy (wv25x0).ret).den → β) (g : β) : onRet (LQ.ret (wy := wv25x0) y) f g = f y := rfl
@[simp] theorem xs25x0e0 {β : Type} (y : (patsTy [.slot 4 (.pc .bool)]).den) (f : (patsTy (wayP wv25x0 0)).den → β) (g : β) : onExit (LQ.ret (wy := wv25x0) y) 0 f g = g := rfl
@[simp] theorem xe51x0e0 {β : Type} (y : (patsTy []).den) (f : (patsTy (wayP wv51x0 0)).den → β) (g : β) : onExit (LQ.exit (wy := wv51x0) 0 y) 0 f g = f y := rfl
@[simp] theorem xn51x0e0 {β : Type} (y : (patsTy []).den) (f : (patsTy (wv51x0).ret).den → β) (g : β) : onRet (LQ.exit (wy := wv51x0) 0 y) f g = g := rfl
@[simp] theorem xp51x0e0 {β : Type} (y : (patsTy []).den) (T : TypeId) (τ : Ty) (f : τ.den × (patsTy (wv51x0).pan).den → β) (g : β) : onPanL (LQ.exit (wy := wv51x0) 0 y) T τ f g = g := rfl
@[simp] theorem xr51x0 {β : Type} (y : (patsTy [.slot 4 (.pc .bool)]).den) (f : (patsTy (wv51x0).ret).den → β) (g : β) : onRet (LQ.ret (wy := wv51x0) y) f g = f y := rfl
@[simp] theorem xs51x0e0 {β : Type} (y : (patsTy [.slot 4 (.pc .bool)]).den) (f : (patsTy (wayP wv51x0 0)).den → β) (g : β) : onExit (LQ.ret (wy := wv51x0) y) 0 f g = g := rfl
@[simp] theorem xe92x0e0 {β : Type} (y : (patsTy []).den) (f : (patsTy (wayP wv92x0 0)).den → β) (g : β) : onExit (LQ.exit (wy := wv92x0) 0 y) 0 f g = f y := rfl
@[simp] theorem xn92x0e0 {β : Type} (y : (patsTy []).den) (f : (patsTy (wv92x0).ret).den → β) (g : β) : onRet (LQ.exit (wy := wv92x0) 0 y) f g = g := rfl
@[simp] theorem xp92x0e0 {β : Type} (y : (patsTy []).den) (T : TypeId) (τ : Ty) (f : τ.den × (patsTy (wv92x0).pan).den → β) (g : β) : onPanL (LQ.exit (wy := wv92x0) 0 y) T τ f g = g := rfl
@[simp] theorem xr92x0 {β : Type} (y : (patsTy [.slot 2 (.pc .bool)]).den) (f : (patsTy (wv92x0).ret).den → β) (g : β) : onRet (LQ.ret (wy := wv92x0) y) f g = f y := rfl
@[simp] theorem xs92x0e0 {β : Type} (y : (patsTy [.slot 2 (.pc .bool)]).den) (f : (patsTy (wayP wv92x0 0)).den → β) (g : β) : onExit (LQ.ret (wy := wv92x0) y) 0 f g = g := rfl
@[simp] theorem xe94x0e0 {β : Type} (y : (patsTy [.slot 6 (.own 1000006 23 T1)]).den) (f : (patsTy (wayP wv94x0 0)).den → β) (g : β) : onExit (LQ.exit (wy := wv94x0) 0 y) 0 f g = f y := rfl
@[simp] theorem xn94x0e0 {β : Type} (y : (patsTy [.slot 6 (.own 1000006 23 T1)]).den) (f : (patsTy (wv94x0).ret).den → β) (g : β) : onRet (LQ.exit (wy := wv94x0) 0 y) f g = g := rfl
@[simp] theorem xp94x0e0 {β : Type} (y : (patsTy [.slot 6 (.own 1000006 23 T1)]).den) (T : TypeId) (τ : Ty) (f : τ.den × (patsTy (wv94x0).pan).den → β) (g : β) : onPanL (LQ.exit (wy := wv94x0) 0 y) T τ f g = g := rfl
@[simp] theorem xr94x0 {β : Type} (y : (patsTy []).den) (f : (patsTy (wv94x0).ret).den → β) (g : β) : onRet (LQ.ret (wy := wv94x0) y) f g = f y := rfl
@[simp] theorem xs94x0e0 {β : Type} (y : (patsTy []).den) (f : (patsTy (wayP wv94x0 0)).den → β) (g : β) : onExit (LQ.ret (wy := wv94x0) y) 0 f g = g := rfl
@[simp] theorem xe95x0e0 {β : Type} (y : (patsTy [.slot 5 (.pc tI)]).den) (f : (patsTy (wayP wv95x0 0)).den → β) (g : β) : onExit (LQ.exit (wy := wv95x0) 0 y) 0 f g = f y := rfl
@[simp] theorem xn95x0e0 {β : Type} (y : (patsTy [.slot 5 (.pc tI)]).den) (f : (patsTy (wv95x0).ret).den → β) (g : β) : onRet (LQ.exit (wy := wv95x0) 0 y) f g = g := rfl
@[simp] theorem xp95x0e0 {β : Type} (y : (patsTy [.slot 5 (.pc tI)]).den) (T : TypeId) (τ : Ty) (f : τ.den × (patsTy (wv95x0).pan).den → β) (g : β) : onPanL (LQ.exit (wy := wv95x0) 0 y) T τ f g = g := rfl
@[simp] theorem xr95x0 {β : Type} (y : (patsTy []).den) (f : (patsTy (wv95x0).ret).den → β) (g : β) : onRet (LQ.ret (wy := wv95x0) y) f g = f y := rfl
@[simp] theorem xs95x0e0 {β : Type} (y : (patsTy []).den) (f : (patsTy (wayP wv95x0 0)).den → β) (g : β) : onExit (LQ.ret (wy := wv95x0) y) 0 f g = g := rfl
@[simp] theorem xe96x0e0 {β : Type} (y : (patsTy [.slot 3 (.pc tI)]).den) (f : (patsTy (wayP wv96x0 0)).den → β) (g : β) : onExit (LQ.exit (wy := wv96x0) 0 y) 0 f g = f y := rfl
@[simp] theorem xn96x0e0 {β : Type} (y : (patsTy [.slot 3 (.pc tI)]).den) (f : (patsTy (wv96x0).ret).den → β) (g : β) : onRet (LQ.exit (wy := wv96x0) 0 y) f g = g := rfl
@[simp] theorem xp96x0e0 {β : Type} (y : (patsTy [.slot 3 (.pc tI)]).den) (T : TypeId) (τ : Ty) (f : τ.den × (patsTy (wv96x0).pan).den → β) (g : β) : onPanL (LQ.exit (wy := wv96x0) 0 y) T τ f g = g := rfl
@[simp] theorem xr96x0 {β : Type} (y : (patsTy []).den) (f : (patsTy (wv96x0).ret).den → β) (g : β) : onRet (LQ.ret (wy := wv96x0) y) f g = f y := rfl
@[simp] theorem xs96x0e0 {β : Type} (y : (patsTy []).den) (f : (patsTy (wayP wv96x0 0)).den → β) (g : β) : onExit (LQ.ret (wy := wv96x0) y) 0 f g = g := rfl
@[simp] theorem xe97x0e0 {β : Type} (y : (patsTy [.slot 3 (.pc tI)]).den) (f : (patsTy (wayP wv97x0 0)).den → β) (g : β) : onExit (LQ.exit (wy := wv97x0) 0 y) 0 f g = f y := rfl
@[simp] theorem xn97x0e0 {β : Type} (y : (patsTy [.slot 3 (.pc tI)]).den) (f : (patsTy (wv97x0).ret).den → β) (g : β) : onRet (LQ.exit (wy := wv97x0) 0 y) f g = g := rfl
@[simp] theorem xp97x0e0 {β : Type} (y : (patsTy [.slot 3 (.pc tI)]).den) (T : TypeId) (τ : Ty) (f : τ.den × (patsTy (wv97x0).pan).den → β) (g : β) : onPanL (LQ.exit (wy := wv97x0) 0 y) T τ f g = g := rfl
@[simp] theorem xr97x0 {β : Type} (y : (patsTy []).den) (f : (patsTy (wv97x0).ret).den → β) (g : β) : onRet (LQ.ret (wy := wv97x0) y) f g = f y := rfl
@[simp] theorem xs97x0e0 {β : Type} (y : (patsTy []).den) (f : (patsTy (wayP wv97x0 0)).den → β) (g : β) : onExit (LQ.ret (wy := wv97x0) y) 0 f g = g := rfl
@[simp] theorem xe98x0e0 {β : Type} (y : (patsTy [.slot 3 (.pc tI)]).den) (f : (patsTy (wayP wv98x0 0)).den → β) (g : β) : onExit (LQ.exit (wy := wv98x0) 0 y) 0 f g = f y := rfl
@[simp] theorem xn98x0e0 {β : Type} (y : (patsTy [.slot 3 (.pc tI)]).den) (f : (patsTy (wv98x0).ret).den → β) (g : β) : onRet (LQ.exit (wy := wv98x0) 0 y) f g = g := rfl
@[simp] theorem xp98x0e0 {β : Type} (y : (patsTy [.slot 3 (.pc tI)]).den) (T : TypeId) (τ : Ty) (f : τ.den × (patsTy (wv98x0).pan).den → β) (g : β) : onPanL (LQ.exit (wy := wv98x0) 0 y) T τ f g = g := rfl
@[simp] theorem xr98x0 {β : Type} (y : (patsTy []).den) (f : (patsTy (wv98x0).ret).den → β) (g : β) : onRet (LQ.ret (wy := wv98x0) y) f g = f y := rfl
@[simp] theorem xs98x0e0 {β : Type} (y : (patsTy []).den) (f : (patsTy (wayP wv98x0 0)).den → β) (g : β) : onExit (LQ.ret (wy := wv98x0) y) 0 f g = g := rfl
@[simp] theorem xe48x0_0_0e4 {β : Type} (y : (patsTy [.slot 9 (.pc (.sl T0)), .slot 10 (.pc (.sl T0))]).den) (f : (patsTy (wayP wv48x0x0x0 4)).den → β) (g : β) : onExit (LQ.exit (wy := wv48x0x0x0) 4 y) 4 f g = f y := rfl
@[simp] theorem xn48x0_0_0e4 {β : Type} (y : (patsTy [.slot 9 (.pc (.sl T0)), .slot 10 (.pc (.sl T0))]).den) (f : (patsTy (wv48x0x0x0).ret).den → β) (g : β) : onRet (LQ.exit (wy := wv48x0x0x0) 4 y) f g = g := rfl
@[simp] theorem xp48x0_0_0e4 {β : Type} (y : (patsTy [.slot 9 (.pc (.sl T0)), .slot 10 (.pc (.sl T0))]).den) (T : TypeId) (τ : Ty) (f : τ.den × (patsTy (wv48x0x0x0).pan).den → β) (g : β) : onPanL (LQ.exit (wy := wv48x0x0x0) 4 y) T τ f g = g := rfl
@[simp] theorem xr48x0x0x0 {β : Type} (y : (patsTy []).den) (f : (patsTy (wv48x0x0x0).ret).den → β) (g : β) : onRet (LQ.ret (wy := wv48x0x0x0) y) f g = f y := rfl
@[simp] theorem xs48x0_0_0e4 {β : Type} (y : (patsTy []).den) (f : (patsTy (wayP wv48x0x0x0 4)).den → β) (g : β) : onExit (LQ.ret (wy := wv48x0x0x0) y) 4 f g = g := rfl
@[simp] theorem xe124x0e0 {β : Type} (y : (patsTy [.box 5 [.pc (.sl T1)], .box 34 [.pc tI, .pc tI], .box 88 [.mp 97], .box 3 [.pc (.sl T9), .pc tI, .pc tI, .pc tI, .pc tI, .pc tI, .pc tI, .pc tI, .pc tI, .pc tI, .pc tI, .pc tI, .pc tI, .pc tI, .pc tI, .pc tI], .box 61 [.row 70], .box 115 [.clo 124 [5, 34, 88, 3, 61, 115]], .mp 97 T4 .bool, .row 70 3 T0]).den) (f : (patsTy (wayP wv124x0 0)).den → β) (g : β) : onExit (LQ.exit (wy := wv124x0) 0 y) 0 f g = f y := rfl
@[simp] theorem xn124x0e0 {β : Type} (y : (patsTy [.box 5 [.pc (.sl T1)], .box 34 [.pc tI, .pc tI], .box 88 [.mp 97], .box 3 [.pc (.sl T9), .pc tI, .pc tI, .pc tI, .pc tI, .pc tI, .pc tI, .pc tI, .pc tI, .pc tI, .pc tI, .pc tI, .pc tI, .pc tI, .pc tI, .pc tI], .box 61 [.row 70], .box 115 [.clo 124 [5, 34, 88, 3, 61, 115]], .mp 97 T4 .bool, .row 70 3 T0]).den) (f : (patsTy (wv124x0).ret).den → β) (g : β) : onRet (LQ.exit (wy := wv124x0) 0 y) f g = g := rfl
@[simp] theorem xp124x0e0 {β : Type} (y : (patsTy [.box 5 [.pc (.sl T1)], .box 34 [.pc tI, .pc tI], .box 88 [.mp 97], .box 3 [.pc (.sl T9), .pc tI, .pc tI, .pc tI, .pc tI, .pc tI, .pc tI, .pc tI, .pc tI, .pc tI, .pc tI, .pc tI, .pc tI, .pc tI, .pc tI, .pc tI], .box 61 [.row 70], .box 115 [.clo 124 [5, 34, 88, 3, 61, 115]], .mp 97 T4 .bool, .row 70 3 T0]).den) (T : TypeId) (τ : Ty) (f : τ.den × (patsTy (wv124x0).pan).den → β) (g : β) : onPanL (LQ.exit (wy := wv124x0) 0 y) T τ f g = g := rfl
@[simp] theorem xr124x0 {β : Type} (y : (patsTy [.slot 8 (.pc .bool), .box 5 [.pc (.sl T1)], .box 34 [.pc tI, .pc tI], .box 88 [.mp 97], .box 3 [.pc (.sl T9), .pc tI, .pc tI, .pc tI, .pc tI, .pc tI, .pc tI, .pc tI, .pc tI, .pc tI, .pc tI, .pc tI, .pc tI, .pc tI, .pc tI, .pc tI], .box 61 [.row 70], .box 115 [.clo 124 [5, 34, 88, 3, 61, 115]], .mp 97 T4 .bool, .row 70 3 T0]).den) (f : (patsTy (wv124x0).ret).den → β) (g : β) : onRet (LQ.ret (wy := wv124x0) y) f g = f y := rfl
@[simp] theorem xs124x0e0 {β : Type} (y : (patsTy [.slot 8 (.pc .bool), .box 5 [.pc (.sl T1)], .box 34 [.pc tI, .pc tI], .box 88 [.mp 97], .box 3 [.pc (.sl T9), .pc tI, .pc tI, .pc tI, .pc tI, .pc tI, .pc tI, .pc tI, .pc tI, .pc tI, .pc tI, .pc tI, .pc tI, .pc tI, .pc tI, .pc tI], .box 61 [.row 70], .box 115 [.clo 124 [5, 34, 88, 3, 61, 115]], .mp 97 T4 .bool, .row 70 3 T0]).den) (f : (patsTy (wayP wv124x0 0)).den → β) (g : β) : onExit (LQ.ret (wy := wv124x0) y) 0 f g = g := rfl
@[simp] theorem xe87x0e0 {β : Type} (y : (patsTy []).den) (f : (patsTy (wayP wv87x0 0)).den → β) (g : β) : onExit (LQ.exit (wy := wv87x0) 0 y) 0 f g = f y := rfl
@[simp] theorem xn87x0e0 {β : Type} (y : (patsTy []).den) (f : (patsTy (wv87x0).ret).den → β) (g : β) : onRet (LQ.exit (wy := wv87x0) 0 y) f g = g := rfl
@[simp] theorem xp87x0e0 {β : Type} (y : (patsTy []).den) (T : TypeId) (τ : Ty) (f : τ.den × (patsTy (wv87x0).pan).den → β) (g : β) : onPanL (LQ.exit (wy := wv87x0) 0 y) T τ f g = g := rfl
@[simp] theorem xr87x0 {β : Type} (y : (patsTy [.slot 6 (.pc tI), .slot 7 (.pc .bool)]).den) (f : (patsTy (wv87x0).ret).den → β) (g : β) : onRet (LQ.ret (wy := wv87x0) y) f g = f y := rfl
@[simp] theorem xs87x0e0 {β : Type} (y : (patsTy [.slot 6 (.pc tI), .slot 7 (.pc .bool)]).den) (f : (patsTy (wayP wv87x0 0)).den → β) (g : β) : onExit (LQ.ret (wy := wv87x0) y) 0 f g = g := rfl
@[simp] theorem xe28x0e0 {β : Type} (y : (patsTy [.box 183 [.pc tI, .pc tI, .own 1184002 23 T1, .own 1184003 23 T1]]).den) (f : (patsTy (wayP wv28x0 0)).den → β) (g : β) : onExit (LQ.exit (wy := wv28x0) 0 y) 0 f g = f y := rfl
@[simp] theorem xn28x0e0 {β : Type} (y : (patsTy [.box 183 [.pc tI, .pc tI, .own 1184002 23 T1, .own 1184003 23 T1]]).den) (f : (patsTy (wv28x0).ret).den → β) (g : β) : onRet (LQ.exit (wy := wv28x0) 0 y) f g = g := rfl
@[simp] theorem xp28x0e0 {β : Type} (y : (patsTy [.box 183 [.pc tI, .pc tI, .own 1184002 23 T1, .own 1184003 23 T1]]).den) (T : TypeId) (τ : Ty) (f : τ.den × (patsTy (wv28x0).pan).den → β) (g : β) : onPanL (LQ.exit (wy := wv28x0) 0 y) T τ f g = g := rfl
@[simp] theorem xr28x0 {β : Type} (y : (patsTy []).den) (f : (patsTy (wv28x0).ret).den → β) (g : β) : onRet (LQ.ret (wy := wv28x0) y) f g = f y := rfl
@[simp] theorem xs28x0e0 {β : Type} (y : (patsTy []).den) (f : (patsTy (wayP wv28x0 0)).den → β) (g : β) : onExit (LQ.ret (wy := wv28x0) y) 0 f g = g := rfl
@[simp] theorem xe38x0e0 {β : Type} (y : (patsTy []).den) (f : (patsTy (wayP wv38x0 0)).den → β) (g : β) : onExit (LQ.exit (wy := wv38x0) 0 y) 0 f g = f y := rfl
@[simp] theorem xn38x0e0 {β : Type} (y : (patsTy []).den) (f : (patsTy (wv38x0).ret).den → β) (g : β) : onRet (LQ.exit (wy := wv38x0) 0 y) f g = g := rfl
@[simp] theorem xp38x0e0 {β : Type} (y : (patsTy []).den) (T : TypeId) (τ : Ty) (f : τ.den × (patsTy (wv38x0).pan).den → β) (g : β) : onPanL (LQ.exit (wy := wv38x0) 0 y) T τ f g = g := rfl
@[simp] theorem xr38x0 {β : Type} (y : (patsTy [.slot 2 (.pc .bool)]).den) (f : (patsTy (wv38x0).ret).den → β) (g : β) : onRet (LQ.ret (wy := wv38x0) y) f g = f y := rfl
@[simp] theorem xs38x0e0 {β : Type} (y : (patsTy [.slot 2 (.pc .bool)]).den) (f : (patsTy (wayP wv38x0 0)).den → β) (g : β) : onExit (LQ.ret (wy := wv38x0) y) 0 f g = g := rfl
@[simp] theorem xe99x0e0 {β : Type} (y : (patsTy [.slot 9 (.pc (.sl T0))]).den) (f : (patsTy (wayP wv99x0 0)).den → β) (g : β) : onExit (LQ.exit (wy := wv99x0) 0 y) 0 f g = f y := rfl
@[simp] theorem xn99x0e0 {β : Type} (y : (patsTy [.slot 9 (.pc (.sl T0))]).den) (f : (patsTy (wv99x0).ret).den → β) (g : β) : onRet (LQ.exit (wy := wv99x0) 0 y) f g = g := rfl
@[simp] theorem xp99x0e0 {β : Type} (y : (patsTy [.slot 9 (.pc (.sl T0))]).den) (T : TypeId) (τ : Ty) (f : τ.den × (patsTy (wv99x0).pan).den → β) (g : β) : onPanL (LQ.exit (wy := wv99x0) 0 y) T τ f g = g := rfl
@[simp] theorem xr99x0 {β : Type} (y : (patsTy []).den) (f : (patsTy (wv99x0).ret).den → β) (g : β) : onRet (LQ.ret (wy := wv99x0) y) f g = f y := rfl
@[simp] theorem xs99x0e0 {β : Type} (y : (patsTy []).den) (f : (patsTy (wayP wv99x0 0)).den → β) (g : β) : onExit (LQ.ret (wy := wv99x0) y) 0 f g = g := rfl
@[simp] theorem xe100x0e0 {β : Type} (y : (patsTy [.slot 5 (.pc tI)]).den) (f : (patsTy (wayP wv100x0 0)).den → β) (g : β) : onExit (LQ.exit (wy := wv100x0) 0 y) 0 f g = f y := rfl
@[simp] theorem xn100x0e0 {β : Type} (y : (patsTy [.slot 5 (.pc tI)]).den) (f : (patsTy (wv100x0).ret).den → β) (g : β) : onRet (LQ.exit (wy := wv100x0) 0 y) f g = g := rfl
@[simp] theorem xp100x0e0 {β : Type} (y : (patsTy [.slot 5 (.pc tI)]).den) (T : TypeId) (τ : Ty) (f : τ.den × (patsTy (wv100x0).pan).den → β) (g : β) : onPanL (LQ.exit (wy := wv100x0) 0 y) T τ f g = g := rfl
@[simp] theorem xr100x0 {β : Type} (y : (patsTy []).den) (f : (patsTy (wv100x0).ret).den → β) (g : β) : onRet (LQ.ret (wy := wv100x0) y) f g = f y := rfl
@[simp] theorem xs100x0e0 {β : Type} (y : (patsTy []).den) (f : (patsTy (wayP wv100x0 0)).den → β) (g : β) : onExit (LQ.ret (wy := wv100x0) y) 0 f g = g := rfl
@[simp] theorem xe101x0e0 {β : Type} (y : (patsTy [.slot 3 (.pc tI)]).den) (f : (patsTy (wayP wv101x0 0)).den → β) (g : β) : onExit (LQ.exit (wy := wv101x0) 0 y) 0 f g = f y := rfl
@[simp] theorem xn101x0e0 {β : Type} (y : (patsTy [.slot 3 (.pc tI)]).den) (f : (patsTy (wv101x0).ret).den → β) (g : β) : onRet (LQ.exit (wy := wv101x0) 0 y) f g = g := rfl
@[simp] theorem xp101x0e0 {β : Type} (y : (patsTy [.slot 3 (.pc tI)]).den) (T : TypeId) (τ : Ty) (f : τ.den × (patsTy (wv101x0).pan).den → β) (g : β) : onPanL (LQ.exit (wy := wv101x0) 0 y) T τ f g = g := rfl
@[simp] theorem xr101x0 {β : Type} (y : (patsTy []).den) (f : (patsTy (wv101x0).ret).den → β) (g : β) : onRet (LQ.ret (wy := wv101x0) y) f g = f y := rfl
@[simp] theorem xs101x0e0 {β : Type} (y : (patsTy []).den) (f : (patsTy (wayP wv101x0 0)).den → β) (g : β) : onExit (LQ.ret (wy := wv101x0) y) 0 f g = g := rfl
@[simp] theorem xe86x0e0 {β : Type} (y : (patsTy [.slot 5 (.pc (.sl T1))]).den) (f : (patsTy (wayP wv86x0 0)).den → β) (g : β) : onExit (LQ.exit (wy := wv86x0) 0 y) 0 f g = f y := rfl
@[simp] theorem xn86x0e0 {β : Type} (y : (patsTy [.slot 5 (.pc (.sl T1))]).den) (f : (patsTy (wv86x0).ret).den → β) (g : β) : onRet (LQ.exit (wy := wv86x0) 0 y) f g = g := rfl
@[simp] theorem xp86x0e0 {β : Type} (y : (patsTy [.slot 5 (.pc (.sl T1))]).den) (T : TypeId) (τ : Ty) (f : τ.den × (patsTy (wv86x0).pan).den → β) (g : β) : onPanL (LQ.exit (wy := wv86x0) 0 y) T τ f g = g := rfl
@[simp] theorem xr86x0 {β : Type} (y : (patsTy []).den) (f : (patsTy (wv86x0).ret).den → β) (g : β) : onRet (LQ.ret (wy := wv86x0) y) f g = f y := rfl
@[simp] theorem xs86x0e0 {β : Type} (y : (patsTy []).den) (f : (patsTy (wayP wv86x0 0)).den → β) (g : β) : onExit (LQ.ret (wy := wv86x0) y) 0 f g = g := rfl
@[simp] theorem xe111x0e0 {β : Type} (y : (patsTy [.slot 10 (.pc tI), .slot 11 (.pc tI)]).den) (f : (patsTy (wayP wv111x0 0)).den → β) (g : β) : onExit (LQ.exit (wy := wv111x0) 0 y) 0 f g = f y := rfl
@[simp] theorem xn111x0e0 {β : Type} (y : (patsTy [.slot 10 (.pc tI), .slot 11 (.pc tI)]).den) (f : (patsTy (wv111x0).ret).den → β) (g : β) : onRet (LQ.exit (wy := wv111x0) 0 y) f g = g := rfl
@[simp] theorem xp111x0e0 {β : Type} (y : (patsTy [.slot 10 (.pc tI), .slot 11 (.pc tI)]).den) (T : TypeId) (τ : Ty) (f : τ.den × (patsTy (wv111x0).pan).den → β) (g : β) : onPanL (LQ.exit (wy := wv111x0) 0 y) T τ f g = g := rfl
@[simp] theorem xr111x0 {β : Type} (y : (patsTy []).den) (f : (patsTy (wv111x0).ret).den → β) (g : β) : onRet (LQ.ret (wy := wv111x0) y) f g = f y := rfl
@[simp] theorem xs111x0e0 {β : Type} (y : (patsTy []).den) (f : (patsTy (wayP wv111x0 0)).den → β) (g : β) : onExit (LQ.ret (wy := wv111x0) y) 0 f g = g := rfl
@[simp] theorem xe111x1e2 {β : Type} (y : (patsTy []).den) (f : (patsTy (wayP wv111x1 2)).den → β) (g : β) : onExit (LQ.exit (wy := wv111x1) 2 y) 2 f g = f y := rfl
@[simp] theorem xn111x1e2 {β : Type} (y : (patsTy []).den) (f : (patsTy (wv111x1).ret).den → β) (g : β) : onRet (LQ.exit (wy := wv111x1) 2 y) f g = g := rfl
@[simp] theorem xp111x1e2 {β : Type} (y : (patsTy []).den) (T : TypeId) (τ : Ty) (f : τ.den × (patsTy (wv111x1).pan).den → β) (g : β) : onPanL (LQ.exit (wy := wv111x1) 2 y) T τ f g = g := rfl
@[simp] theorem xr111x1 {β : Type} (y : (patsTy [.slot 8 (.pc (.sl T0)), .slot 9 (.pc .bool)]).den) (f : (patsTy (wv111x1).ret).den → β) (g : β) : onRet (LQ.ret (wy := wv111x1) y) f g = f y := rfl
@[simp] theorem xs111x1e2 {β : Type} (y : (patsTy [.slot 8 (.pc (.sl T0)), .slot 9 (.pc .bool)]).den) (f : (patsTy (wayP wv111x1 2)).den → β) (g : β) : onExit (LQ.ret (wy := wv111x1) y) 2 f g = g := rfl
@[simp] theorem xe85x0_0_0e4 {β : Type} (y : (patsTy []).den) (f : (patsTy (wayP wv85x0x0x0 4)).den → β) (g : β) : onExit (LQ.exit (wy := wv85x0x0x0) 4 y) 4 f g = f y := rfl
@[simp] theorem xn85x0_0_0e4 {β : Type} (y : (patsTy []).den) (f : (patsTy (wv85x0x0x0).ret).den → β) (g : β) : onRet (LQ.exit (wy := wv85x0x0x0) 4 y) f g = g := rfl
@[simp] theorem xp85x0_0_0e4 {β : Type} (y : (patsTy []).den) (T : TypeId) (τ : Ty) (f : τ.den × (patsTy (wv85x0x0x0).pan).den → β) (g : β) : onPanL (LQ.exit (wy := wv85x0x0x0) 4 y) T τ f g = g := rfl
@[simp] theorem xr85x0x0x0 {β : Type} (y : (patsTy [.slot 7 (.pc .bool), .box 6 [.pc tI, .pc tI, .pc tI, .pc (.sl T0), .pc (.sl T0)]]).den) (f : (patsTy (wv85x0x0x0).ret).den → β) (g : β) : onRet (LQ.ret (wy := wv85x0x0x0) y) f g = f y := rfl
@[simp] theorem xs85x0_0_0e4 {β : Type} (y : (patsTy [.slot 7 (.pc .bool), .box 6 [.pc tI, .pc tI, .pc tI, .pc (.sl T0), .pc (.sl T0)]]).den) (f : (patsTy (wayP wv85x0x0x0 4)).den → β) (g : β) : onExit (LQ.ret (wy := wv85x0x0x0) y) 4 f g = g := rfl
@[simp] theorem xe85x0_0e2 {β : Type} (y : (patsTy []).den) (f : (patsTy (wayP wv85x0x0 2)).den → β) (g : β) : onExit (LQ.exit (wy := wv85x0x0) 2 y) 2 f g = f y := rfl
@[simp] theorem xn85x0_0e2 {β : Type} (y : (patsTy []).den) (f : (patsTy (wv85x0x0).ret).den → β) (g : β) : onRet (LQ.exit (wy := wv85x0x0) 2 y) f g = g := rfl
@[simp] theorem xp85x0_0e2 {β : Type} (y : (patsTy []).den) (T : TypeId) (τ : Ty) (f : τ.den × (patsTy (wv85x0x0).pan).den → β) (g : β) : onPanL (LQ.exit (wy := wv85x0x0) 2 y) T τ f g = g := rfl
@[simp] theorem xr85x0x0 {β : Type} (y : (patsTy [.slot 7 (.pc .bool), .box 6 [.pc tI, .pc tI, .pc tI, .pc (.sl T0), .pc (.sl T0)]]).den) (f : (patsTy (wv85x0x0).ret).den → β) (g : β) : onRet (LQ.ret (wy := wv85x0x0) y) f g = f y := rfl
@[simp] theorem xs85x0_0e2 {β : Type} (y : (patsTy [.slot 7 (.pc .bool), .box 6 [.pc tI, .pc tI, .pc tI, .pc (.sl T0), .pc (.sl T0)]]).den) (f : (patsTy (wayP wv85x0x0 2)).den → β) (g : β) : onExit (LQ.ret (wy := wv85x0x0) y) 2 f g = g := rfl
@[simp] theorem xe85x0e0 {β : Type} (y : (patsTy []).den) (f : (patsTy (wayP wv85x0 0)).den → β) (g : β) : onExit (LQ.exit (wy := wv85x0) 0 y) 0 f g = f y := rfl
@[simp] theorem xn85x0e0 {β : Type} (y : (patsTy []).den) (f : (patsTy (wv85x0).ret).den → β) (g : β) : onRet (LQ.exit (wy := wv85x0) 0 y) f g = g := rfl
@[simp] theorem xp85x0e0 {β : Type} (y : (patsTy []).den) (T : TypeId) (τ : Ty) (f : τ.den × (patsTy (wv85x0).pan).den → β) (g : β) : onPanL (LQ.exit (wy := wv85x0) 0 y) T τ f g = g := rfl
@[simp] theorem xr85x0 {β : Type} (y : (patsTy [.slot 7 (.pc .bool), .box 6 [.pc tI, .pc tI, .pc tI, .pc (.sl T0), .pc (.sl T0)]]).den) (f : (patsTy (wv85x0).ret).den → β) (g : β) : onRet (LQ.ret (wy := wv85x0) y) f g = f y := rfl
@[simp] theorem xs85x0e0 {β : Type} (y : (patsTy [.slot 7 (.pc .bool), .box 6 [.pc tI, .pc tI, .pc tI, .pc (.sl T0), .pc (.sl T0)]]).den) (f : (patsTy (wayP wv85x0 0)).den → β) (g : β) : onExit (LQ.ret (wy := wv85x0) y) 0 f g = g := rfl
@[simp] theorem xe84x0e0 {β : Type} (y : (patsTy [.box 90 [.pc tI, .pc tI]]).den) (f : (patsTy (wayP wv84x0 0)).den → β) (g : β) : onExit (LQ.exit (wy := wv84x0) 0 y) 0 f g = f y := rfl
@[simp] theorem xn84x0e0 {β : Type} (y : (patsTy [.box 90 [.pc tI, .pc tI]]).den) (f : (patsTy (wv84x0).ret).den → β) (g : β) : onRet (LQ.exit (wy := wv84x0) 0 y) f g = g := rfl
@[simp] theorem xp84x0e0 {β : Type} (y : (patsTy [.box 90 [.pc tI, .pc tI]]).den) (T : TypeId) (τ : Ty) (f : τ.den × (patsTy (wv84x0).pan).den → β) (g : β) : onPanL (LQ.exit (wy := wv84x0) 0 y) T τ f g = g := rfl
@[simp] theorem xr84x0 {β : Type} (y : (patsTy []).den) (f : (patsTy (wv84x0).ret).den → β) (g : β) : onRet (LQ.ret (wy := wv84x0) y) f g = f y := rfl
@[simp] theorem xs84x0e0 {β : Type} (y : (patsTy []).den) (f : (patsTy (wayP wv84x0 0)).den → β) (g : β) : onExit (LQ.ret (wy := wv84x0) y) 0 f g = g := rfl
@[simp] theorem xe31x0e0 {β : Type} (y : (patsTy [.box 64 [.pc tI, .pc tI, .own 1065002 23 T1, .own 1065003 23 T1]]).den) (f : (patsTy (wayP wv31x0 0)).den → β) (g : β) : onExit (LQ.exit (wy := wv31x0) 0 y) 0 f g = f y := rfl
@[simp] theorem xn31x0e0 {β : Type} (y : (patsTy [.box 64 [.pc tI, .pc tI, .own 1065002 23 T1, .own 1065003 23 T1]]).den) (f : (patsTy (wv31x0).ret).den → β) (g : β) : onRet (LQ.exit (wy := wv31x0) 0 y) f g = g := rfl
@[simp] theorem xp31x0e0 {β : Type} (y : (patsTy [.box 64 [.pc tI, .pc tI, .own 1065002 23 T1, .own 1065003 23 T1]]).den) (T : TypeId) (τ : Ty) (f : τ.den × (patsTy (wv31x0).pan).den → β) (g : β) : onPanL (LQ.exit (wy := wv31x0) 0 y) T τ f g = g := rfl
@[simp] theorem xr31x0 {β : Type} (y : (patsTy []).den) (f : (patsTy (wv31x0).ret).den → β) (g : β) : onRet (LQ.ret (wy := wv31x0) y) f g = f y := rfl
@[simp] theorem xs31x0e0 {β : Type} (y : (patsTy []).den) (f : (patsTy (wayP wv31x0 0)).den → β) (g : β) : onExit (LQ.ret (wy := wv31x0) y) 0 f g = g := rfl
@[simp] theorem xe31x1e2 {β : Type} (y : (patsTy [.box 64 [.pc tI, .pc tI, .own 1065002 23 T1, .own 1065003 23 T1]]).den) (f : (patsTy (wayP wv31x1 2)).den → β) (g : β) : onExit (LQ.exit (wy := wv31x1) 2 y) 2 f g = f y := rfl
@[simp] theorem xn31x1e2 {β : Type} (y : (patsTy [.box 64 [.pc tI, .pc tI, .own 1065002 23 T1, .own 1065003 23 T1]]).den) (f : (patsTy (wv31x1).ret).den → β) (g : β) : onRet (LQ.exit (wy := wv31x1) 2 y) f g = g := rfl
@[simp] theorem xp31x1e2 {β : Type} (y : (patsTy [.box 64 [.pc tI, .pc tI, .own 1065002 23 T1, .own 1065003 23 T1]]).den) (T : TypeId) (τ : Ty) (f : τ.den × (patsTy (wv31x1).pan).den → β) (g : β) : onPanL (LQ.exit (wy := wv31x1) 2 y) T τ f g = g := rfl
@[simp] theorem xr31x1 {β : Type} (y : (patsTy []).den) (f : (patsTy (wv31x1).ret).den → β) (g : β) : onRet (LQ.ret (wy := wv31x1) y) f g = f y := rfl
@[simp] theorem xs31x1e2 {β : Type} (y : (patsTy []).den) (f : (patsTy (wayP wv31x1 2)).den → β) (g : β) : onExit (LQ.ret (wy := wv31x1) y) 2 f g = g := rfl
@[simp] theorem xe8x0e0 {β : Type} (y : (patsTy [.box 725 [.own 1726000 66 T9, .pc tI, .pc tI, .pc tI, .pc tI, .pc tI, .pc tI, .pc tI, .pc tI, .pc tI, .pc tI, .pc tI, .pc tI]]).den) (f : (patsTy (wayP wv8x0 0)).den → β) (g : β) : onExit (LQ.exit (wy := wv8x0) 0 y) 0 f g = f y := rfl
@[simp] theorem xn8x0e0 {β : Type} (y : (patsTy [.box 725 [.own 1726000 66 T9, .pc tI, .pc tI, .pc tI, .pc tI, .pc tI, .pc tI, .pc tI, .pc tI, .pc tI, .pc tI, .pc tI, .pc tI]]).den) (f : (patsTy (wv8x0).ret).den → β) (g : β) : onRet (LQ.exit (wy := wv8x0) 0 y) f g = g := rfl
@[simp] theorem xp8x0e0 {β : Type} (y : (patsTy [.box 725 [.own 1726000 66 T9, .pc tI, .pc tI, .pc tI, .pc tI, .pc tI, .pc tI, .pc tI, .pc tI, .pc tI, .pc tI, .pc tI, .pc tI]]).den) (T : TypeId) (τ : Ty) (f : τ.den × (patsTy (wv8x0).pan).den → β) (g : β) : onPanL (LQ.exit (wy := wv8x0) 0 y) T τ f g = g := rfl
@[simp] theorem xr8x0 {β : Type} (y : (patsTy []).den) (f : (patsTy (wv8x0).ret).den → β) (g : β) : onRet (LQ.ret (wy := wv8x0) y) f g = f y := rfl
@[simp] theorem xs8x0e0 {β : Type} (y : (patsTy []).den) (f : (patsTy (wayP wv8x0 0)).den → β) (g : β) : onExit (LQ.ret (wy := wv8x0) y) 0 f g = g := rfl
@[simp] theorem xe8x1e2 {β : Type} (y : (patsTy [.box 727 [.pc tI, .pc tI, .own 1728002 69 T2]]).den) (f : (patsTy (wayP wv8x1 2)).den → β) (g : β) : onExit (LQ.exit (wy := wv8x1) 2 y) 2 f g = f y := rfl
@[simp] theorem xn8x1e2 {β : Type} (y : (patsTy [.box 727 [.pc tI, .pc tI, .own 1728002 69 T2]]).den) (f : (patsTy (wv8x1).ret).den → β) (g : β) : onRet (LQ.exit (wy := wv8x1) 2 y) f g = g := rfl
@[simp] theorem xp8x1e2 {β : Type} (y : (patsTy [.box 727 [.pc tI, .pc tI, .own 1728002 69 T2]]).den) (T : TypeId) (τ : Ty) (f : τ.den × (patsTy (wv8x1).pan).den → β) (g : β) : onPanL (LQ.exit (wy := wv8x1) 2 y) T τ f g = g := rfl
@[simp] theorem xr8x1 {β : Type} (y : (patsTy []).den) (f : (patsTy (wv8x1).ret).den → β) (g : β) : onRet (LQ.ret (wy := wv8x1) y) f g = f y := rfl
@[simp] theorem xs8x1e2 {β : Type} (y : (patsTy []).den) (f : (patsTy (wayP wv8x1 2)).den → β) (g : β) : onExit (LQ.ret (wy := wv8x1) y) 2 f g = g := rfl
@[simp] theorem xe8x2e4 {β : Type} (y : (patsTy []).den) (f : (patsTy (wayP wv8x2 4)).den → β) (g : β) : onExit (LQ.exit (wy := wv8x2) 4 y) 4 f g = f y := rfl
@[simp] theorem xn8x2e4 {β : Type} (y : (patsTy []).den) (f : (patsTy (wv8x2).ret).den → β) (g : β) : onRet (LQ.exit (wy := wv8x2) 4 y) f g = g := rfl
@[simp] theorem xp8x2e4 {β : Type} (y : (patsTy []).den) (T : TypeId) (τ : Ty) (f : τ.den × (patsTy (wv8x2).pan).den → β) (g : β) : onPanL (LQ.exit (wy := wv8x2) 4 y) T τ f g = g := rfl
@[simp] theorem xr8x2 {β : Type} (y : (patsTy [.slot 10 (.pc .bool)]).den) (f : (patsTy (wv8x2).ret).den → β) (g : β) : onRet (LQ.ret (wy := wv8x2) y) f g = f y := rfl
@[simp] theorem xs8x2e4 {β : Type} (y : (patsTy [.slot 10 (.pc .bool)]).den) (f : (patsTy (wayP wv8x2 4)).den → β) (g : β) : onExit (LQ.ret (wy := wv8x2) y) 4 f g = g := rfl
@[simp] theorem xe8x3e6 {β : Type} (y : (patsTy []).den) (f : (patsTy (wayP wv8x3 6)).den → β) (g : β) : onExit (LQ.exit (wy := wv8x3) 6 y) 6 f g = f y := rfl
@[simp] theorem xn8x3e6 {β : Type} (y : (patsTy []).den) (f : (patsTy (wv8x3).ret).den → β) (g : β) : onRet (LQ.exit (wy := wv8x3) 6 y) f g = g := rfl
@[simp] theorem xp8x3e6 {β : Type} (y : (patsTy []).den) (T : TypeId) (τ : Ty) (f : τ.den × (patsTy (wv8x3).pan).den → β) (g : β) : onPanL (LQ.exit (wy := wv8x3) 6 y) T τ f g = g := rfl
@[simp] theorem xr8x3 {β : Type} (y : (patsTy [.slot 10 (.pc .bool)]).den) (f : (patsTy (wv8x3).ret).den → β) (g : β) : onRet (LQ.ret (wy := wv8x3) y) f g = f y := rfl
@[simp] theorem xs8x3e6 {β : Type} (y : (patsTy [.slot 10 (.pc .bool)]).den) (f : (patsTy (wayP wv8x3 6)).den → β) (g : β) : onExit (LQ.ret (wy := wv8x3) y) 6 f g = g := rfl
end Go.Dm

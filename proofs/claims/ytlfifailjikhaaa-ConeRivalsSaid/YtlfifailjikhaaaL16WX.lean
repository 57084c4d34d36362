/- What is read off a loop's outcome. -/
import Derived.Test.YtlfifailjikhaaaL16GC
set_option linter.unusedVariables false
set_option linter.unusedSimpArgs false
namespace Go.Dm
set_option maxRecDepth 100000
@[simp] theorem xe107x0e0 {β : Type} (y : (patsTy []).den) (f : (patsTy (wayP wv107x0 0)).den → β) (g : β) : onExit (LQ.exit (wy := wv107x0) 0 y) 0 f g = f y := rfl
@[simp] theorem xn107x0e0 {β : Type} (y : (patsTy []).den) (f : (patsTy (wv107x0).ret).den → β) (g : β) : onRet (LQ.exit (wy := wv107x0) 0 y) f g = g := rfl
@[simp] theorem xp107x0e0 {β : Type} (y : (patsTy []).den) (T : TypeId) (τ : Ty) (f : τ.den × (patsTy (wv107x0).pan).den → β) (g : β) : onPanL (LQ.exit (wy := wv107x0) 0 y) T τ f g = g := rfl
@[simp] theorem xr107x0 {β : Type} (y : (patsTy [.slot 4 (.pc tI)]).den) (f : (patsTy (wv107x0).ret).den → β) (g : β) : onRet (LQ.ret (wy := wv107x0) y) f g = f y := rfl
@[simp] theorem xs107x0e0 {β : Type} (y : (patsTy [.slot 4 (.pc tI)]).den) (f : (patsTy (wayP wv107x0 0)).den → β) (g : β) : onExit (LQ.ret (wy := wv107x0) y) 0 f g = g := rfl
@[simp] theorem xe108x0e0 {β : Type} (y : (patsTy []).den) (f : (patsTy (wayP wv108x0 0)).den → β) (g : β) : onExit (LQ.exit (wy := wv108x0) 0 y) 0 f g = f y := rfl
@[simp] theorem xn108x0e0 {β : Type} (y : (patsTy []).den) (f : (patsTy (wv108x0).ret).den → β) (g : β) : onRet (LQ.exit (wy := wv108x0) 0 y) f g = g := rfl
@[simp] theorem xp108x0e0 {β : Type} (y : (patsTy []).den) (T : TypeId) (τ : Ty) (f : τ.den × (patsTy (wv108x0).pan).den → β) (g : β) : onPanL (LQ.exit (wy := wv108x0) 0 y) T τ f g = g := rfl
@[simp] theorem xr108x0 {β : Type} (y : (patsTy [.slot 4 (.pc tI)]).den) (f : (patsTy (wv108x0).ret).den → β) (g : β) : onRet (LQ.ret (wy := wv108x0) y) f g = f y := rfl
@[simp] theorem xs108x0e0 {β : Type} (y : (patsTy [.slot 4 (.pc tI)]).den) (f : (patsTy (wayP wv108x0 0)).den → β) (g : β) : onExit (LQ.ret (wy := wv108x0) y) 0 f g = g := rfl
@[simp] theorem xe109x0e0 {β : Type} (y : (patsTy []).den) (f : (patsTy (wayP wv109x0 0)).den → β) (g : β) : onExit (LQ.exit (wy := wv109x0) 0 y) 0 f g = f y := rfl
@[simp] theorem xn109x0e0 {β : Type} (y : (patsTy []).den) (f : (patsTy (wv109x0).ret).den → β) (g : β) : onRet (LQ.exit (wy := wv109x0) 0 y) f g = g := rfl
@[simp] theorem xp109x0e0 {β : Type} (y : (patsTy []).den) (T : TypeId) (τ : Ty) (f : τ.den × (patsTy (wv109x0).pan).den → β) (g : β) : onPanL (LQ.exit (wy := wv109x0) 0 y) T τ f g = g := rfl
@[simp] theorem xr109x0 {β : Type} (y : (patsTy [.slot 4 (.pc tI)]).den) (f : (patsTy (wv109x0).ret).den → β) (g : β) : onRet (LQ.ret (wy := wv109x0) y) f g = f y := rfl
@[simp] theorem xs109x0e0 {β : Type} (y : (patsTy [.slot 4 (.pc tI)]).den) (f : (patsTy (wayP wv109x0 0)).den → β) (g : β) : onExit (LQ.ret (wy := wv109x0) y) 0 f g = g := rfl
@[simp] theorem xe92x0e0 {β : Type} (y : (patsTy []).den) (f : (patsTy (wayP wv92x0 0)).den → β) (g : β) : onExit (LQ.exit (wy := wv92x0) 0 y) 0 f g = f y := rfl
@[simp] theorem xn92x0e0 {β : Type} (y : (patsTy []).den) (f : (patsTy (wv92x0).ret).den → β) (g : β) : onRet (LQ.exit (wy := wv92x0) 0 y) f g = g := rfl
@[simp] theorem xp92x0e0 {β : Type} (y : (patsTy []).den) (T : TypeId) (τ : Ty) (f : τ.den × (patsTy (wv92x0).pan).den → β) (g : β) : onPanL (LQ.exit (wy := wv92x0) 0 y) T τ f g = g := rfl
@[simp] theorem xr92x0 {β : Type} (y : (patsTy [.slot 6 (.pc .bool)]).den) (f : (patsTy (wv92x0).ret).den → β) (g : β) : onRet (LQ.ret (wy := wv92x0) y) f g = f y := rfl
@[simp] theorem xs92x0e0 {β : Type} (y : (patsTy [.slot 6 (.pc .bool)]).den) (f : (patsTy (wayP wv92x0 0)).den → β) (g : β) : onExit (LQ.ret (wy := wv92x0) y) 0 f g = g := rfl
@[simp] theorem xe57x0_0e2 {β : Type} (y : (patsTy [.box 2 [.pc tI, .own 1003001 54 T7, .own 1003002 56 T2, .own 1003003 70 T4, .pc tI, .pc tI, .pc tI, .pc tI, .pc tI, .top], .mp 48 T13 .bool]).den) (f : (patsTy (wayP wv57x0x0 2)).den → β) (g : β) : onExit (LQ.exit (wy := wv57x0x0) 2 y) 2 f g = f y := rfl
@[simp] theorem xn57x0_0e2 {β : Type} (y : (patsTy [.box 2 [.pc tI, .own 1003001 54 T7, .own 1003002 56 T2, .own 1003003 70 T4, .pc tI, .pc tI, .pc tI, .pc tI, .pc tI, .top], .mp 48 T13 .bool]).den) (f : (patsTy (wv57x0x0).ret).den → β) (g : β) : onRet (LQ.exit (wy := wv57x0x0) 2 y) f g = g := rfl
@[simp] theorem xp57x0_0e2 {β : Type} (y : (patsTy [.box 2 [.pc tI, .own 1003001 54 T7, .own 1003002 56 T2, .own 1003003 70 T4, .pc tI, .pc tI, .pc tI, .pc tI, .pc tI, .top], .mp 48 T13 .bool]).den) (T : TypeId) (τ : Ty) (f : τ.den × (patsTy (wv57x0x0).pan).den → β) (g : β) : onPanL (LQ.exit (wy := wv57x0x0) 2 y) T τ f g = g := rfl
@[simp] theorem xr57x0x0 {β : Type} (y : (patsTy []).den) (f : (patsTy (wv57x0x0).ret).den → β) (g : β) : onRet (LQ.ret (wy := wv57x0x0) y) f g = f y := rfl
@[simp] theorem xs57x0_0e2 {β : Type} (y : (patsTy []).den) (f : (patsTy (wayP wv57x0x0 2)).den → β) (g : β) : onExit (LQ.ret (wy := wv57x0x0) y) 2 f g = g := rfl
@[simp] theorem xe57x0e0 {β : Type} (y : (patsTy [.box 2 [.pc tI, .own 1003001 54 T7, .own 1003002 56 T2, .own 1003003 70 T4, .pc tI, .pc tI, .pc tI, .pc tI, .pc tI, .top], .mp 48 T13 .bool]).den) (f : (patsTy (wayP wv57x0 0)).den → β) (g : β) : onExit (LQ.exit (wy := wv57x0) 0 y) 0 f g = f y := rfl
@[simp] theorem xn57x0e0 {β : Type} (y : (patsTy [.box 2 [.pc tI, .own 1003001 54 T7, .own 1003002 56 T2, .own 1003003 70 T4, .pc tI, .pc tI, .pc tI, .pc tI, .pc tI, .top], .mp 48 T13 .bool]).den) (f : (patsTy (wv57x0).ret).den → β) (g : β) : onRet (LQ.exit (wy := wv57x0) 0 y) f g = g := rfl
@[simp] theorem xp57x0e0 {β : Type} (y : (patsTy [.box 2 [.pc tI, .own 1003001 54 T7, .own 1003002 56 T2, .own 1003003 70 T4, .pc tI, .pc tI, .pc tI, .pc tI, .pc tI, .top], .mp 48 T13 .bool]).den) (T : TypeId) (τ : Ty) (f : τ.den × (patsTy (wv57x0).pan).den → β) (g : β) : onPanL (LQ.exit (wy := wv57x0) 0 y) T τ f g = g := rfl
@[simp] theorem xr57x0 {β : Type} (y : (patsTy []).den) (f : (patsTy (wv57x0).ret).den → β) (g : β) : onRet (LQ.ret (wy := wv57x0) y) f g = f y := rfl
@[simp] theorem xs57x0e0 {β : Type} (y : (patsTy []).den) (f : (patsTy (wayP wv57x0 0)).den → β) (g : β) : onExit (LQ.ret (wy := wv57x0) y) 0 f g = g := rfl
@[simp] theorem xe62x0_0v0e2 {β : Type} (y : (patsTy [.box 41 [.own 1042000 3 T0, .own 1042001 3 T0]]).den) (f : (patsTy (wayP wv62x0_0v0 2)).den → β) (g : β) : onExit (LQ.exit (wy := wv62x0_0v0) 2 y) 2 f g = f y := rfl
@[simp] theorem xn62x0_0v0e2 {β : Type} (y : (patsTy [.box 41 [.own 1042000 3 T0, .own 1042001 3 T0]]).den) (f : (patsTy (wv62x0_0v0).ret).den → β) (g : β) : onRet (LQ.exit (wy := wv62x0_0v0) 2 y) f g = g := rfl
@[simp] theorem xp62x0_0v0e2 {β : Type} (y : (patsTy [.box 41 [.own 1042000 3 T0, .own 1042001 3 T0]]).den) (T : TypeId) (τ : Ty) (f : τ.den × (patsTy (wv62x0_0v0).pan).den → β) (g : β) : onPanL (LQ.exit (wy := wv62x0_0v0) 2 y) T τ f g = g := rfl
@[simp] theorem xr62x0_0v0 {β : Type} (y : (patsTy []).den) (f : (patsTy (wv62x0_0v0).ret).den → β) (g : β) : onRet (LQ.ret (wy := wv62x0_0v0) y) f g = f y := rfl
@[simp] theorem xs62x0_0v0e2 {β : Type} (y : (patsTy []).den) (f : (patsTy (wayP wv62x0_0v0 2)).den → β) (g : β) : onExit (LQ.ret (wy := wv62x0_0v0) y) 2 f g = g := rfl
@[simp] theorem xe62x0_0v1e2 {β : Type} (y : (patsTy [.box 41 [.own 1042000 3 T0, .own 1042001 3 T0]]).den) (f : (patsTy (wayP wv62x0_0v1 2)).den → β) (g : β) : onExit (LQ.exit (wy := wv62x0_0v1) 2 y) 2 f g = f y := rfl
@[simp] theorem xn62x0_0v1e2 {β : Type} (y : (patsTy [.box 41 [.own 1042000 3 T0, .own 1042001 3 T0]]).den) (f : (patsTy (wv62x0_0v1).ret).den → β) (g : β) : onRet (LQ.exit (wy := wv62x0_0v1) 2 y) f g = g := rfl
@[simp] theorem xp62x0_0v1e2 {β : Type} (y : (patsTy [.box 41 [.own 1042000 3 T0, .own 1042001 3 T0]]).den) (T : TypeId) (τ : Ty) (f : τ.den × (patsTy (wv62x0_0v1).pan).den → β) (g : β) : onPanL (LQ.exit (wy := wv62x0_0v1) 2 y) T τ f g = g := rfl
@[simp] theorem xr62x0_0v1 {β : Type} (y : (patsTy []).den) (f : (patsTy (wv62x0_0v1).ret).den → β) (g : β) : onRet (LQ.ret (wy := wv62x0_0v1) y) f g = f y := rfl
@[simp] theorem xs62x0_0v1e2 {β : Type} (y : (patsTy []).den) (f : (patsTy (wayP wv62x0_0v1 2)).den → β) (g : β) : onExit (LQ.ret (wy := wv62x0_0v1) y) 2 f g = g := rfl
@[simp] theorem xe80x0e0 {β : Type} (y : (patsTy []).den) (f : (patsTy (wayP wv80x0 0)).den → β) (g : β) : onExit (LQ.exit (wy := wv80x0) 0 y) 0 f g = f y := rfl
@[simp] theorem xn80x0e0 {β : Type} (y : (patsTy []).den) (f : (patsTy (wv80x0).ret).den → β) (g : β) : onRet (LQ.exit (wy := wv80x0) 0 y) f g = g := rfl
@[simp] theorem xp80x0e0 {β : Type} (y : (patsTy []).den) (T : TypeId) (τ : Ty) (f : τ.den × (patsTy (wv80x0).pan).den → β) (g : β) : onPanL (LQ.exit (wy := wv80x0) 0 y) T τ f g = g := rfl
@[simp] theorem xr80x0 {β : Type} (y : (patsTy [.slot 6 (.pc tI), .slot 7 (.pc .bool)]).den) (f : (patsTy (wv80x0).ret).den → β) (g : β) : onRet (LQ.ret (wy := wv80x0) y) f g = f y := rfl
@[simp] theorem xs80x0e0 {β : Type} (y : (patsTy [.slot 6 (.pc tI), .slot 7 (.pc .bool)]).den) (f : (patsTy (wayP wv80x0 0)).den → β) (g : β) : onExit (LQ.ret (wy := wv80x0) y) 0 f g = g := rfl
@[simp] theorem xe30x0e0 {β : Type} (y : (patsTy [.slot 9 (.pc .bool), .slot 10 (.pc .bool)]).den) (f : (patsTy (wayP wv30x0 0)).den → β) (g : β) : onExit (LQ.exit (wy := wv30x0) 0 y) 0 f g = f y := rfl
@[simp] theorem xn30x0e0 {β : Type} (y : (patsTy [.slot 9 (.pc .bool), .slot 10 (.pc .bool)]).den) (f : (patsTy (wv30x0).ret).den → β) (g : β) : onRet (LQ.exit (wy := wv30x0) 0 y) f g = g := rfl
@[simp] theorem xp30x0e0 {β : Type} (y : (patsTy [.slot 9 (.pc .bool), .slot 10 (.pc .bool)]).den) (T : TypeId) (τ : Ty) (f : τ.den × (patsTy (wv30x0).pan).den → β) (g : β) : onPanL (LQ.exit (wy := wv30x0) 0 y) T τ f g = g := rfl
@[simp] theorem xr30x0 {β : Type} (y : (patsTy []).den) (f : (patsTy (wv30x0).ret).den → β) (g : β) : onRet (LQ.ret (wy := wv30x0) y) f g = f y := rfl
@[simp] theorem xs30x0e0 {β : Type} (y : (patsTy []).den) (f : (patsTy (wayP wv30x0 0)).den → β) (g : β) : onExit (LQ.ret (wy := wv30x0) y) 0 f g = g := rfl
@[simp] theorem xe36x0e0 {β : Type} (y : (patsTy []).den) (f : (patsTy (wayP wv36x0 0)).den → β) (g : β) : onExit (LQ.exit (wy := wv36x0) 0 y) 0 f g = f y := rfl
@[simp] theorem xn36x0e0 {β : Type} (y : (patsTy []).den) (f : (patsTy (wv36x0).ret).den → β) (g : β) : onRet (LQ.exit (wy := wv36x0) 0 y) f g = g := rfl
@[simp] theorem xp36x0e0 {β : Type} (y : (patsTy []).den) (T : TypeId) (τ : Ty) (f : τ.den × (patsTy (wv36x0).pan).den → β) (g : β) : onPanL (LQ.exit (wy := wv36x0) 0 y) T τ f g = g := rfl
@[simp] theorem xr36x0 {β : Type} (y : (patsTy [.slot 4 (.pc .bool)]).den) (f : (patsTy (wv36x0).ret).den → β) (g : β) : onRet (LQ.ret (wy := wv36x0) y) f g = f y := rfl
@[simp] theorem xs36x0e0 {β : Type} (y : (patsTy [.slot 4 (.pc .bool)]).den) (f : (patsTy (wayP wv36x0 0)).den → β) (g : β) : onExit (LQ.ret (wy := wv36x0) y) 0 f g = g := rfl
@[simp] theorem xe74x0e0 {β : Type} (y : (patsTy [.slot 3 (.pc tI)]).den) (f : (patsTy (wayP wv74x0 0)).den → β) (g : β) : onExit (LQ.exit (wy := wv74x0) 0 y) 0 f g = f y := rfl
@[simp] theorem xn74x0e0 {β : Type} (y : (patsTy [.slot 3 (.pc tI)]).den) (f : (patsTy (wv74x0).ret).den → β) (g : β) : onRet (LQ.exit (wy := wv74x0) 0 y) f g = g := rfl
@[simp] theorem xp74x0e0 {β : Type} (y : (patsTy [.slot 3 (.pc tI)]).den) (T : TypeId) (τ : Ty) (f : τ.den × (patsTy (wv74x0).pan).den → β) (g : β) : onPanL (LQ.exit (wy := wv74x0) 0 y) T τ f g = g := rfl
@[simp] theorem xr74x0 {β : Type} (y : (patsTy []).den) (f : (patsTy (wv74x0).ret).den → β) (g : β) : onRet (LQ.ret (wy := wv74x0) y) f g = f y := rfl
@[simp] theorem xs74x0e0 {β : Type} (y : (patsTy []).den) (f : (patsTy (wayP wv74x0 0)).den → β) (g : β) : onExit (LQ.ret (wy := wv74x0) y) 0 f g = g := rfl
@[simp] theorem xe77x0e0 {β : Type} (y : (patsTy []).den) (f : (patsTy (wayP wv77x0 0)).den → β) (g : β) : onExit (LQ.exit (wy := wv77x0) 0 y) 0 f g = f y := rfl
@[simp] theorem xn77x0e0 {β : Type} (y : (patsTy []).den) (f : (patsTy (wv77x0).ret).den → β) (g : β) : onRet (LQ.exit (wy := wv77x0) 0 y) f g = g := rfl
@[simp] theorem xp77x0e0 {β : Type} (y : (patsTy []).den) (T : TypeId) (τ : Ty) (f : τ.den × (patsTy (wv77x0).pan).den → β) (g : β) : onPanL (LQ.exit (wy := wv77x0) 0 y) T τ f g = g := rfl
@[simp] theorem xr77x0 {β : Type} (y : (patsTy [.slot 2 (.pc tI)]).den) (f : (patsTy (wv77x0).ret).den → β) (g : β) : onRet (LQ.ret (wy := wv77x0) y) f g = f y := rfl
@[simp] theorem xs77x0e0 {β : Type} (y : (patsTy [.slot 2 (.pc tI)]).den) (f : (patsTy (wayP wv77x0 0)).den → β) (g : β) : onExit (LQ.ret (wy := wv77x0) y) 0 f g = g := rfl
@[simp] theorem xe79x0e0 {β : Type} (y : (patsTy []).den) (f : (patsTy (wayP wv79x0 0)).den → β) (g : β) : onExit (LQ.exit (wy := wv79x0) 0 y) 0 f g = f y := rfl
@[simp] theorem xn79x0e0 {β : Type} (y : (patsTy []).den) (f : (patsTy (wv79x0).ret).den → β) (g : β) : onRet (LQ.exit (wy := wv79x0) 0 y) f g = g := rfl
@[simp] theorem xp79x0e0 {β : Type} (y : (patsTy []).den) (T : TypeId) (τ : Ty) (f : τ.den × (patsTy (wv79x0).pan).den → β) (g : β) : onPanL (LQ.exit (wy := wv79x0) 0 y) T τ f g = g := rfl
@[simp] theorem xr79x0 {β : Type} (y : (patsTy [.slot 4 (.pc tI)]).den) (f : (patsTy (wv79x0).ret).den → β) (g : β) : onRet (LQ.ret (wy := wv79x0) y) f g = f y := rfl
@[simp] theorem xs79x0e0 {β : Type} (y : (patsTy [.slot 4 (.pc tI)]).den) (f : (patsTy (wayP wv79x0 0)).den → β) (g : β) : onExit (LQ.ret (wy := wv79x0) y) 0 f g = g := rfl
@[simp] theorem xe103x0e0 {β : Type} (y : (patsTy [.box 2 [.pc tI, .rw 58 54 T7, .pc (.sl T2), .pc (.sl T4), .pc tI, .pc tI, .pc tI, .pc tI, .pc tI]]).den) (f : (patsTy (wayP wv103x0 0)).den → β) (g : β) : onExit (LQ.exit (wy := wv103x0) 0 y) 0 f g = f y := rfl
@[simp] theorem xn103x0e0 {β : Type} (y : (patsTy [.box 2 [.pc tI, .rw 58 54 T7, .pc (.sl T2), .pc (.sl T4), .pc tI, .pc tI, .pc tI, .pc tI, .pc tI]]).den) (f : (patsTy (wv103x0).ret).den → β) (g : β) : onRet (LQ.exit (wy := wv103x0) 0 y) f g = g := rfl
@[simp] theorem xp103x0e0 {β : Type} (y : (patsTy [.box 2 [.pc tI, .rw 58 54 T7, .pc (.sl T2), .pc (.sl T4), .pc tI, .pc tI, .pc tI, .pc tI, .pc tI]]).den) (T : TypeId) (τ : Ty) (f : τ.den × (patsTy (wv103x0).pan).den → β) (g : β) : onPanL (LQ.exit (wy := wv103x0) 0 y) T τ f g = g := rfl
@[simp] theorem xr103x0 {β : Type} (y : (patsTy []).den) (f : (patsTy (wv103x0).ret).den → β) (g : β) : onRet (LQ.ret (wy := wv103x0) y) f g = f y := rfl
@[simp] theorem xs103x0e0 {β : Type} (y : (patsTy []).den) (f : (patsTy (wayP wv103x0 0)).den → β) (g : β) : onExit (LQ.ret (wy := wv103x0) y) 0 f g = g := rfl
@[simp] theorem xe49x0e0 {β : Type} (y : (patsTy []).den) (f : (patsTy (wayP wv49x0 0)).den → β) (g : β) : onExit (LQ.exit (wy := wv49x0) 0 y) 0 f g = f y := rfl
@[simp] theorem xn49x0e0 {β : Type} (y : (patsTy []).den) (f : (patsTy (wv49x0).ret).den → β) (g : β) : onRet (LQ.exit (wy := wv49x0) 0 y) f g = g := rfl
@[simp] theorem xp49x0e0 {β : Type} (y : (patsTy []).den) (T : TypeId) (τ : Ty) (f : τ.den × (patsTy (wv49x0).pan).den → β) (g : β) : onPanL (LQ.exit (wy := wv49x0) 0 y) T τ f g = g := rfl
@[simp] theorem xr49x0 {β : Type} (y : (patsTy [.slot 4 (.pc .bool)]).den) (f : (patsTy (wv49x0).ret).den → β) (g : β) : onRet (LQ.ret (wy := wv49x0) y) f g = f y := rfl
@[simp] theorem xs49x0e0 {β : Type} (y : (patsTy [.slot 4 (.pc .bool)]).den) (f : (patsTy (wayP wv49x0 0)).den → β) (g : β) : onExit (LQ.ret (wy := wv49x0) y) 0 f g = g := rfl
@[simp] theorem xe45x0_0e2 {β : Type} (y : (patsTy [.slot 10 (.pc (.sl T0)), .box 1184186 [.own 1185187000 3 T0, .pc tI]]).den) (f : (patsTy (wayP wv45x0x0 2)).den → β) (g : β) : onExit (LQ.exit (wy := wv45x0x0) 2 y) 2 f g = f y := rfl
@[simp] theorem xn45x0_0e2 {β : Type} (y : (patsTy [.slot 10 (.pc (.sl T0)), .box 1184186 [.own 1185187000 3 T0, .pc tI]]).den) (f : (patsTy (wv45x0x0).ret).den → β) (g : β) : onRet (LQ.exit (wy := wv45x0x0) 2 y) f g = g := rfl
@[simp] theorem xp45x0_0e2 {β : Type} (y : (patsTy [.slot 10 (.pc (.sl T0)), .box 1184186 [.own 1185187000 3 T0, .pc tI]]).den) (T : TypeId) (τ : Ty) (f : τ.den × (patsTy (wv45x0x0).pan).den → β) (g : β) : onPanL (LQ.exit (wy := wv45x0x0) 2 y) T τ f g = g := rfl
@[simp] theorem xr45x0x0 {β : Type} (y : (patsTy []).den) (f : (patsTy (wv45x0x0).ret).den → β) (g : β) : onRet (LQ.ret (wy := wv45x0x0) y) f g = f y := rfl
@[simp] theorem xs45x0_0e2 {β : Type} (y : (patsTy []).den) (f : (patsTy (wayP wv45x0x0 2)).den → β) (g : β) : onExit (LQ.ret (wy := wv45x0x0) y) 2 f g = g := rfl
@[simp] theorem xe45x0e0 {β : Type} (y : (patsTy [.box 183 [.rw 1184000 105 T81]]).den) (f : (patsTy (wayP wv45x0 0)).den → β) (g : β) : onExit (LQ.exit (wy := wv45x0) 0 y) 0 f g = f y := rfl
@[simp] theorem xn45x0e0 {β : Type} (y : (patsTy [.box 183 [.rw 1184000 105 T81]]).den) (f : (patsTy (wv45x0).ret).den → β) (g : β) : onRet (LQ.exit (wy := wv45x0) 0 y) f g = g := rfl
@[simp] theorem xp45x0e0 {β : Type} (y : (patsTy [.box 183 [.rw 1184000 105 T81]]).den) (T : TypeId) (τ : Ty) (f : τ.den × (patsTy (wv45x0).pan).den → β) (g : β) : onPanL (LQ.exit (wy := wv45x0) 0 y) T τ f g = g := rfl
@[simp] theorem xr45x0 {β : Type} (y : (patsTy []).den) (f : (patsTy (wv45x0).ret).den → β) (g : β) : onRet (LQ.ret (wy := wv45x0) y) f g = f y := rfl
@[simp] theorem xs45x0e0 {β : Type} (y : (patsTy []).den) (f : (patsTy (wayP wv45x0 0)).den → β) (g : β) : onExit (LQ.ret (wy := wv45x0) y) 0 f g = g := rfl
@[simp] theorem xe20x0e0 {β : Type} (y : (patsTy []).den) (f : (patsTy (wayP wv20x0 0)).den → β) (g : β) : onExit (LQ.exit (wy := wv20x0) 0 y) 0 f g = f y := rfl
@[simp] theorem xn20x0e0 {β : Type} (y : (patsTy []).den) (f : (patsTy (wv20x0).ret).den → β) (g : β) : onRet (LQ.exit (wy := wv20x0) 0 y) f g = g := rfl
@[simp] theorem xp20x0e0 {β : Type} (y : (patsTy []).den) (T : TypeId) (τ : Ty) (f : τ.den × (patsTy (wv20x0).pan).den → β) (g : β) : onPanL (LQ.exit (wy := wv20x0) 0 y) T τ f g = g := rfl
@[simp] theorem xr20x0 {β : Type} (y : (patsTy [.slot 2 (.pc .bool)]).den) (f : (patsTy (wv20x0).ret).den → β) (g : β) : onRet (LQ.ret (wy := wv20x0) y) f g = f y := rfl
@[simp] theorem xs20x0e0 {β : Type} (y : (patsTy [.slot 2 (.pc .bool)]).den) (f : (patsTy (wayP wv20x0 0)).den → β) (g : β) : onExit (LQ.ret (wy := wv20x0) y) 0 f g = g := rfl
@[simp] theorem xe20x1e2 {β : Type} (y : (patsTy []).den) (f : (patsTy (wayP wv20x1 2)).den → β) (g : β) : onExit (LQ.exit (wy := wv20x1) 2 y) 2 f g = f y := rfl
@[simp] theorem xn20x1e2 {β : Type} (y : (patsTy []).den) (f : (patsTy (wv20x1).ret).den → β) (g : β) : onRet (LQ.exit (wy := wv20x1) 2 y) f g = g := rfl
@[simp] theorem xp20x1e2 {β : Type} (y : (patsTy []).den) (T : TypeId) (τ : Ty) (f : τ.den × (patsTy (wv20x1).pan).den → β) (g : β) : onPanL (LQ.exit (wy := wv20x1) 2 y) T τ f g = g := rfl
@[simp] theorem xr20x1 {β : Type} (y : (patsTy [.slot 2 (.pc .bool)]).den) (f : (patsTy (wv20x1).ret).den → β) (g : β) : onRet (LQ.ret (wy := wv20x1) y) f g = f y := rfl
@[simp] theorem xs20x1e2 {β : Type} (y : (patsTy [.slot 2 (.pc .bool)]).den) (f : (patsTy (wayP wv20x1 2)).den → β) (g : β) : onExit (LQ.ret (wy := wv20x1) y) 2 f g = g := rfl
@[simp] theorem xe20x2e4 {β : Type} (y : (patsTy []).den) (f : (patsTy (wayP wv20x2 4)).den → β) (g : β) : onExit (LQ.exit (wy := wv20x2) 4 y) 4 f g = f y := rfl
@[simp] theorem xn20x2e4 {β : Type} (y : (patsTy []).den) (f : (patsTy (wv20x2).ret).den → β) (g : β) : onRet (LQ.exit (wy := wv20x2) 4 y) f g = g := rfl
@[simp] theorem xp20x2e4 {β : Type} (y : (patsTy []).den) (T : TypeId) (τ : Ty) (f : τ.den × (patsTy (wv20x2).pan).den → β) (g : β) : onPanL (LQ.exit (wy := wv20x2) 4 y) T τ f g = g := rfl
@[simp] theorem xr20x2 {β : Type} (y : (patsTy [.slot 2 (.pc .bool)]).den) (f : (patsTy (wv20x2).ret).den → β) (g : β) : onRet (LQ.ret (wy := wv20x2) y) f g = f y := rfl
@[simp] theorem xs20x2e4 {β : Type} (y : (patsTy [.slot 2 (.pc .bool)]).den) (f : (patsTy (wayP wv20x2 4)).den → β) (g : β) : onExit (LQ.ret (wy := wv20x2) y) 4 f g = g := rfl
@[simp] theorem xe21x0e0 {β : Type} (y : (patsTy []).den) (f : (patsTy (wayP wv21x0 0)).den → β) (g : β) : onExit (LQ.exit (wy := wv21x0) 0 y) 0 f g = f y := rfl
@[simp] theorem xn21x0e0 {β : Type} (y : (patsTy []).den) (f : (patsTy (wv21x0).ret).den → β) (g : β) : onRet (LQ.exit (wy := wv21x0) 0 y) f g = g := rfl
@[simp] theorem xp21x0e0 {β : Type} (y : (patsTy []).den) (T : TypeId) (τ : Ty) (f : τ.den × (patsTy (wv21x0).pan).den → β) (g : β) : onPanL (LQ.exit (wy := wv21x0) 0 y) T τ f g = g := rfl
@[simp] theorem xr21x0 {β : Type} (y : (patsTy [.slot 4 (.pc .bool)]).den) (f : (patsTy (wv21x0).ret).den → β) (g : β) : onRet (LQ.ret (wy := wv21x0) y) f g = f y := rfl
@[simp] theorem xs21x0e0 {β : Type} (y : (patsTy [.slot 4 (.pc .bool)]).den) (f : (patsTy (wayP wv21x0 0)).den → β) (g : β) : onExit (LQ.ret (wy := wv21x0) y) 0 f g = g := rfl
@[simp] theorem xe70x0e0 {β : Type} (y : (patsTy []).den) (f : (patsTy (wayP wv70x0 0)).den → β) (g : β) : onExit (LQ.exit (wy := wv70x0) 0 y) 0 f g = f y := rfl
@[simp] theorem xn70x0e0 {β : Type} (y : (patsTy []).den) (f : (patsTy (wv70x0).ret).den → β) (g : β) : onRet (LQ.exit (wy := wv70x0) 0 y) f g = g := rfl
@[simp] theorem xp70x0e0 {β : Type} (y : (patsTy []).den) (T : TypeId) (τ : Ty) (f : τ.den × (patsTy (wv70x0).pan).den → β) (g : β) : onPanL (LQ.exit (wy := wv70x0) 0 y) T τ f g = g := rfl
@[simp] theorem xr70x0 {β : Type} (y : (patsTy [.slot 6 (.pc .bool)]).den) (f : (patsTy (wv70x0).ret).den → β) (g : β) : onRet (LQ.ret (wy := wv70x0) y) f g = f y := rfl
@[simp] theorem xs70x0e0 {β : Type} (y : (patsTy [.slot 6 (.pc .bool)]).den) (f : (patsTy (wayP wv70x0 0)).den → β) (g : β) : onExit (LQ.ret (wy := wv70x0) y) 0 f g = g := rfl
@[simp] theorem xe37x0_0e2 {β : Type} (y : (patsTy [.slot 3 (.own 1000003 86 T1)]).den) (f : (patsTy (wayP wv37x0x0 2)).den → β) (g : β) : onExit (LQ.exit (wy := wv37x0x0) 2 y) 2 f g = f y := rfl
@[simp] theorem xn37x0_0e2 {β : Type} (y : (patsTy [.slot 3 (.own 1000003 86 T1)]).den) (f : (patsTy (wv37x0x0).ret).den → β) (g : β) : onRet (LQ.exit (wy := wv37x0x0) 2 y) f g = g := rfl
@[simp] theorem xp37x0_0e2 {β : Type} (y : (patsTy [.slot 3 (.own 1000003 86 T1)]).den) (T : TypeId) (τ : Ty) (f : τ.den × (patsTy (wv37x0x0).pan).den → β) (g : β) : onPanL (LQ.exit (wy := wv37x0x0) 2 y) T τ f g = g := rfl
@[simp] theorem xr37x0x0 {β : Type} (y : (patsTy []).den) (f : (patsTy (wv37x0x0).ret).den → β) (g : β) : onRet (LQ.ret (wy := wv37x0x0) y) f g = f y := rfl
@[simp] theorem xs37x0_0e2 {β : Type} (y : (patsTy []).den) (f : (patsTy (wayP wv37x0x0 2)).den → β) (g : β) : onExit (LQ.ret (wy := wv37x0x0) y) 2 f g = g := rfl
@[simp] theorem xe37x0e0 {β : Type} (y : (patsTy [.slot 3 (.pc (.sl T1))]).den) (f : (patsTy (wayP wv37x0 0)).den → β) (g : β) : onExit (LQ.exit (wy := wv37x0) 0 y) 0 f g = f y := rfl
@[simp] theorem xn37x0e0 {β : Type} (y : (patsTy [.slot 3 (.pc (.sl T1))]).den) (f : (patsTy (wv37x0).ret).den → β) (g : β) : onRet (LQ.exit (wy := wv37x0) 0 y) f g = g := rfl
@[simp] theorem xp37x0e0 {β : Type} (y : (patsTy [.slot 3 (.pc (.sl T1))]).den) (T : TypeId) (τ : Ty) (f : τ.den × (patsTy (wv37x0).pan).den → β) (g : β) : onPanL (LQ.exit (wy := wv37x0) 0 y) T τ f g = g := rfl
@[simp] theorem xr37x0 {β : Type} (y : (patsTy []).den) (f : (patsTy (wv37x0).ret).den → β) (g : β) : onRet (LQ.ret (wy := wv37x0) y) f g = f y := rfl
@[simp] theorem xs37x0e0 {β : Type} (y : (patsTy []).den) (f : (patsTy (wayP wv37x0 0)).den → β) (g : β) : onExit (LQ.ret (wy := wv37x0) y) 0 f g = g := rfl
@[simp] theorem xe40x0e0 {β : Type} (y : (patsTy []).den) (f : (patsTy (wayP wv40x0 0)).den → β) (g : β) : onExit (LQ.exit (wy := wv40x0) 0 y) 0 f g = f y := rfl
@[simp] theorem xn40x0e0 {β : Type} (y : (patsTy []).den) (f : (patsTy (wv40x0).ret).den → β) (g : β) : onRet (LQ.exit (wy := wv40x0) 0 y) f g = g := rfl
@[simp] theorem xp40x0e0 {β : Type} (y : (patsTy []).den) (T : TypeId) (τ : Ty) (f : τ.den × (patsTy (wv40x0).pan).den → β) (g : β) : onPanL (LQ.exit (wy := wv40x0) 0 y) T τ f g = g := rfl
@[simp] theorem xr40x0 {β : Type} (y : (patsTy [.slot 6 (.pc .bool)]).den) (f : (patsTy (wv40x0).ret).den → β) (g : β) : onRet (LQ.ret (wy := wv40x0) y) f g = f y := rfl
@[simp] theorem xs40x0e0 {β : Type} (y : (patsTy [.slot 6 (.pc .bool)]).den) (f : (patsTy (wayP wv40x0 0)).den → β) (g : β) : onExit (LQ.ret (wy := wv40x0) y) 0 f g = g := rfl
@[simp] theorem xe22x0e0 {β : Type} (y : (patsTy [.slot 5 (.pc tI)]).den) (f : (patsTy (wayP wv22x0 0)).den → β) (g : β) : onExit (LQ.exit (wy := wv22x0) 0 y) 0 f g = f y := rfl
@[simp] theorem xn22x0e0 {β : Type} (y : (patsTy [.slot 5 (.pc tI)]).den) (f : (patsTy (wv22x0).ret).den → β) (g : β) : onRet (LQ.exit (wy := wv22x0) 0 y) f g = g := rfl
@[simp] theorem xp22x0e0 {β : Type} (y : (patsTy [.slot 5 (.pc tI)]).den) (T : TypeId) (τ : Ty) (f : τ.den × (patsTy (wv22x0).pan).den → β) (g : β) : onPanL (LQ.exit (wy := wv22x0) 0 y) T τ f g = g := rfl
@[simp] theorem xr22x0 {β : Type} (y : (patsTy []).den) (f : (patsTy (wv22x0).ret).den → β) (g : β) : onRet (LQ.ret (wy := wv22x0) y) f g = f y := rfl
@[simp] theorem xs22x0e0 {β : Type} (y : (patsTy []).den) (f : (patsTy (wayP wv22x0 0)).den → β) (g : β) : onExit (LQ.ret (wy := wv22x0) y) 0 f g = g := rfl
@[simp] theorem xe24x0e0 {β : Type} (y : (patsTy [.slot 5 (.pc (.sl T0))]).den) (f : (patsTy (wayP wv24x0 0)).den → β) (g : β) : onExit (LQ.exit (wy := wv24x0) 0 y) 0 f g = f y := rfl
@[simp] theorem xn24x0e0 {β : Type} (y : (patsTy [.slot 5 (.pc (.sl T0))]).den) (f : (patsTy (wv24x0).ret).den → β) (g : β) : onRet (LQ.exit (wy := wv24x0) 0 y) f g = g := rfl
@[simp] theorem xp24x0e0 {β : Type} (y : (patsTy [.slot 5 (.pc (.sl T0))]).den) (T : TypeId) (τ : Ty) (f : τ.den × (patsTy (wv24x0).pan).den → β) (g : β) : onPanL (LQ.exit (wy := wv24x0) 0 y) T τ f g = g := rfl
@[simp] theorem xr24x0 {β : Type} (y : (patsTy []).den) (f : (patsTy (wv24x0).ret).den → β) (g : β) : onRet (LQ.ret (wy := wv24x0) y) f g = f y := rfl
@[simp] theorem xs24x0e0 {β : Type} (y : (patsTy []).den) (f : (patsTy (wayP wv24x0 0)).den → β) (g : β) : onExit (LQ.ret (wy := wv24x0) y) 0 f g = g := rfl
@[simp] theorem xe28x0e0 {β : Type} (y : (patsTy [.slot 7 (.pc .bool), .slot 8 (.pc .bool)]).den) (f : (patsTy (wayP wv28x0 0)).den → β) (g : β) : onExit (LQ.exit (wy := wv28x0) 0 y) 0 f g = f y := rfl
@[simp] theorem xn28x0e0 {β : Type} (y : (patsTy [.slot 7 (.pc .bool), .slot 8 (.pc .bool)]).den) (f : (patsTy (wv28x0).ret).den → β) (g : β) : onRet (LQ.exit (wy := wv28x0) 0 y) f g = g := rfl
@[simp] theorem xp28x0e0 {β : Type} (y : (patsTy [.slot 7 (.pc .bool), .slot 8 (.pc .bool)]).den) (T : TypeId) (τ : Ty) (f : τ.den × (patsTy (wv28x0).pan).den → β) (g : β) : onPanL (LQ.exit (wy := wv28x0) 0 y) T τ f g = g := rfl
@[simp] theorem xr28x0 {β : Type} (y : (patsTy []).den) (f : (patsTy (wv28x0).ret).den → β) (g : β) : onRet (LQ.ret (wy := wv28x0) y) f g = f y := rfl
@[simp] theorem xs28x0e0 {β : Type} (y : (patsTy []).den) (f : (patsTy (wayP wv28x0 0)).den → β) (g : β) : onExit (LQ.ret (wy := wv28x0) y) 0 f g = g := rfl
@[simp] theorem xe44x0e0 {β : Type} (y : (patsTy []).den) (f : (patsTy (wayP wv44x0 0)).den → β) (g : β) : onExit (LQ.exit (wy := wv44x0) 0 y) 0 f g = f y := rfl
@[simp] theorem xn44x0e0 {β : Type} (y : (patsTy []).den) (f : (patsTy (wv44x0).ret).den → β) (g : β) : onRet (LQ.exit (wy := wv44x0) 0 y) f g = g := rfl
@[simp] theorem xp44x0e0 {β : Type} (y : (patsTy []).den) (T : TypeId) (τ : Ty) (f : τ.den × (patsTy (wv44x0).pan).den → β) (g : β) : onPanL (LQ.exit (wy := wv44x0) 0 y) T τ f g = g := rfl
@[simp] theorem xr44x0 {β : Type} (y : (patsTy [.slot 6 (.pc .bool), .slot 7 (.pc tI)]).den) (f : (patsTy (wv44x0).ret).den → β) (g : β) : onRet (LQ.ret (wy := wv44x0) y) f g = f y := rfl
@[simp] theorem xs44x0e0 {β : Type} (y : (patsTy [.slot 6 (.pc .bool), .slot 7 (.pc tI)]).den) (f : (patsTy (wayP wv44x0 0)).den → β) (g : β) : onExit (LQ.ret (wy := wv44x0) y) 0 f g = g := rfl
@[simp] theorem xe46x0e0 {β : Type} (y : (patsTy []).den) (f : (patsTy (wayP wv46x0 0)).den → β) (g : β) : onExit (LQ.exit (wy := wv46x0) 0 y) 0 f g = f y := rfl
@[simp] theorem xn46x0e0 {β : Type} (y : (patsTy []).den) (f : (patsTy (wv46x0).ret).den → β) (g : β) : onRet (LQ.exit (wy := wv46x0) 0 y) f g = g := rfl
@[simp] theorem xp46x0e0 {β : Type} (y : (patsTy []).den) (T : TypeId) (τ : Ty) (f : τ.den × (patsTy (wv46x0).pan).den → β) (g : β) : onPanL (LQ.exit (wy := wv46x0) 0 y) T τ f g = g := rfl
@[simp] theorem xr46x0 {β : Type} (y : (patsTy [.slot 4 (.pc .bool)]).den) (f : (patsTy (wv46x0).ret).den → β) (g : β) : onRet (LQ.ret (wy := wv46x0) y) f g = f y := rfl
@[simp] theorem xs46x0e0 {β : Type} (y : (patsTy [.slot 4 (.pc .bool)]).den) (f : (patsTy (wayP wv46x0 0)).den → β) (g : β) : onExit (LQ.ret (wy := wv46x0) y) 0 f g = g := rfl
@[simp] theorem xe51x0e0 {β : Type} (y : (patsTy [.box 55 [.pc tI, .rw 111 54 T7, .pc (.sl T2), .pc (.sl T4), .pc tI, .pc tI, .pc tI, .pc tI, .pc tI]]).den) (f : (patsTy (wayP wv51x0 0)).den → β) (g : β) : onExit (LQ.exit (wy := wv51x0) 0 y) 0 f g = f y := rfl
@[simp] theorem xn51x0e0 {β : Type} (y : (patsTy [.box 55 [.pc tI, .rw 111 54 T7, .pc (.sl T2), .pc (.sl T4), .pc tI, .pc tI, .pc tI, .pc tI, .pc tI]]).den) (f : (patsTy (wv51x0).ret).den → β) (g : β) : onRet (LQ.exit (wy := wv51x0) 0 y) f g = g := rfl
@[simp] theorem xp51x0e0 {β : Type} (y : (patsTy [.box 55 [.pc tI, .rw 111 54 T7, .pc (.sl T2), .pc (.sl T4), .pc tI, .pc tI, .pc tI, .pc tI, .pc tI]]).den) (T : TypeId) (τ : Ty) (f : τ.den × (patsTy (wv51x0).pan).den → β) (g : β) : onPanL (LQ.exit (wy := wv51x0) 0 y) T τ f g = g := rfl
@[simp] theorem xr51x0 {β : Type} (y : (patsTy []).den) (f : (patsTy (wv51x0).ret).den → β) (g : β) : onRet (LQ.ret (wy := wv51x0) y) f g = f y := rfl
@[simp] theorem xs51x0e0 {β : Type} (y : (patsTy []).den) (f : (patsTy (wayP wv51x0 0)).den → β) (g : β) : onExit (LQ.ret (wy := wv51x0) y) 0 f g = g := rfl
@[simp] theorem xe50x0e0 {β : Type} (y : (patsTy [.slot 5 (.pc tI)]).den) (f : (patsTy (wayP wv50x0 0)).den → β) (g : β) : onExit (LQ.exit (wy := wv50x0) 0 y) 0 f g = f y := rfl
@[simp] theorem xn50x0e0 {β : Type} (y : (patsTy [.slot 5 (.pc tI)]).den) (f : (patsTy (wv50x0).ret).den → β) (g : β) : onRet (LQ.exit (wy := wv50x0) 0 y) f g = g := rfl
@[simp] theorem xp50x0e0 {β : Type} (y : (patsTy [.slot 5 (.pc tI)]).den) (T : TypeId) (τ : Ty) (f : τ.den × (patsTy (wv50x0).pan).den → β) (g : β) : onPanL (LQ.exit (wy := wv50x0) 0 y) T τ f g = g := rfl
@[simp] theorem xr50x0 {β : Type} (y : (patsTy []).den) (f : (patsTy (wv50x0).ret).den → β) (g : β) : onRet (LQ.ret (wy := wv50x0) y) f g = f y := rfl
@[simp] theorem xs50x0e0 {β : Type} (y : (patsTy []).den) (f : (patsTy (wayP wv50x0 0)).den → β) (g : β) : onExit (LQ.ret (wy := wv50x0) y) 0 f g = g := rfl
@[simp] theorem xe82x0_0_0e4 {β : Type} (y : (patsTy [.slot 7 (.own 1000007 27 T42)]).den) (f : (patsTy (wayP wv82x0x0x0 4)).den → β) (g : β) : onExit (LQ.exit (wy := wv82x0x0x0) 4 y) 4 f g = f y := rfl
@[simp] theorem xn82x0_0_0e4 {β : Type} (y : (patsTy [.slot 7 (.own 1000007 27 T42)]).den) (f : (patsTy (wv82x0x0x0).ret).den → β) (g : β) : onRet (LQ.exit (wy := wv82x0x0x0) 4 y) f g = g := rfl
@[simp] theorem xp82x0_0_0e4 {β : Type} (y : (patsTy [.slot 7 (.own 1000007 27 T42)]).den) (T : TypeId) (τ : Ty) (f : τ.den × (patsTy (wv82x0x0x0).pan).den → β) (g : β) : onPanL (LQ.exit (wy := wv82x0x0x0) 4 y) T τ f g = g := rfl
@[simp] theorem xr82x0x0x0 {β : Type} (y : (patsTy []).den) (f : (patsTy (wv82x0x0x0).ret).den → β) (g : β) : onRet (LQ.ret (wy := wv82x0x0x0) y) f g = f y := rfl
@[simp] theorem xs82x0_0_0e4 {β : Type} (y : (patsTy []).den) (f : (patsTy (wayP wv82x0x0x0 4)).den → β) (g : β) : onExit (LQ.ret (wy := wv82x0x0x0) y) 4 f g = g := rfl
@[simp] theorem xe82x0_0e2 {β : Type} (y : (patsTy [.slot 7 (.pc (.sl T42))]).den) (f : (patsTy (wayP wv82x0x0 2)).den → β) (g : β) : onExit (LQ.exit (wy := wv82x0x0) 2 y) 2 f g = f y := rfl
@[simp] theorem xn82x0_0e2 {β : Type} (y : (patsTy [.slot 7 (.pc (.sl T42))]).den) (f : (patsTy (wv82x0x0).ret).den → β) (g : β) : onRet (LQ.exit (wy := wv82x0x0) 2 y) f g = g := rfl
@[simp] theorem xp82x0_0e2 {β : Type} (y : (patsTy [.slot 7 (.pc (.sl T42))]).den) (T : TypeId) (τ : Ty) (f : τ.den × (patsTy (wv82x0x0).pan).den → β) (g : β) : onPanL (LQ.exit (wy := wv82x0x0) 2 y) T τ f g = g := rfl
@[simp] theorem xr82x0x0 {β : Type} (y : (patsTy []).den) (f : (patsTy (wv82x0x0).ret).den → β) (g : β) : onRet (LQ.ret (wy := wv82x0x0) y) f g = f y := rfl
@[simp] theorem xs82x0_0e2 {β : Type} (y : (patsTy []).den) (f : (patsTy (wayP wv82x0x0 2)).den → β) (g : β) : onExit (LQ.ret (wy := wv82x0x0) y) 2 f g = g := rfl
@[simp] theorem xe82x0e0 {β : Type} (y : (patsTy [.slot 5 (.pc T116)]).den) (f : (patsTy (wayP wv82x0 0)).den → β) (g : β) : onExit (LQ.exit (wy := wv82x0) 0 y) 0 f g = f y := rfl
@[simp] theorem xn82x0e0 {β : Type} (y : (patsTy [.slot 5 (.pc T116)]).den) (f : (patsTy (wv82x0).ret).den → β) (g : β) : onRet (LQ.exit (wy := wv82x0) 0 y) f g = g := rfl
@[simp] theorem xp82x0e0 {β : Type} (y : (patsTy [.slot 5 (.pc T116)]).den) (T : TypeId) (τ : Ty) (f : τ.den × (patsTy (wv82x0).pan).den → β) (g : β) : onPanL (LQ.exit (wy := wv82x0) 0 y) T τ f g = g := rfl
@[simp] theorem xr82x0 {β : Type} (y : (patsTy []).den) (f : (patsTy (wv82x0).ret).den → β) (g : β) : onRet (LQ.ret (wy := wv82x0) y) f g = f y := rfl
@[simp] theorem xs82x0e0 {β : Type} (y : (patsTy []).den) (f : (patsTy (wayP wv82x0 0)).den → β) (g : β) : onExit (LQ.ret (wy := wv82x0) y) 0 f g = g := rfl
@[simp] theorem xe48x0_0e2 {β : Type} (y : (patsTy [.slot 6 (.pc (.sl T0)), .slot 7 (.pc .bool)]).den) (f : (patsTy (wayP wv48x0x0 2)).den → β) (g : β) : onExit (LQ.exit (wy := wv48x0x0) 2 y) 2 f g = f y := rfl
@[simp] theorem xn48x0_0e2 {β : Type} (y : (patsTy [.slot 6 (.pc (.sl T0)), .slot 7 (.pc .bool)]).den) (f : (patsTy (wv48x0x0).ret).den → β) (g : β) : onRet (LQ.exit (wy := wv48x0x0) 2 y) f g = g := rfl
@[simp] theorem xp48x0_0e2 {β : Type} (y : (patsTy [.slot 6 (.pc (.sl T0)), .slot 7 (.pc .bool)]).den) (T : TypeId) (τ : Ty) (f : τ.den × (patsTy (wv48x0x0).pan).den → β) (g : β) : onPanL (LQ.exit (wy := wv48x0x0) 2 y) T τ f g = g := rfl
@[simp] theorem xr48x0x0 {β : Type} (y : (patsTy []).den) (f : (patsTy (wv48x0x0).ret).den → β) (g : β) : onRet (LQ.ret (wy := wv48x0x0) y) f g = f y := rfl
@[simp] theorem xs48x0_0e2 {β : Type} (y : (patsTy []).den) (f : (patsTy (wayP wv48x0x0 2)).den → β) (g : β) : onExit (LQ.ret (wy := wv48x0x0) y) 2 f g = g := rfl
@[simp] theorem xe48x0e0 {β : Type} (y : (patsTy [.slot 6 (.pc (.sl T0)), .slot 7 (.pc .bool)]).den) (f : (patsTy (wayP wv48x0 0)).den → β) (g : β) : onExit (LQ.exit (wy := wv48x0) 0 y) 0 f g = f y := rfl
@[simp] theorem xn48x0e0 {β : Type} (y : (patsTy [.slot 6 (.pc (.sl T0)), .slot 7 (.pc .bool)]).den) (f : (patsTy (wv48x0).ret).den → β) (g : β) : onRet (LQ.exit (wy := wv48x0) 0 y) f g = g := rfl
@[simp] theorem xp48x0e0 {β : Type} (y : (patsTy [.slot 6 (.pc (.sl T0)), .slot 7 (.pc .bool)]).den) (T : TypeId) (τ : Ty) (f : τ.den × (patsTy (wv48x0).pan).den → β) (g : β) : onPanL (LQ.exit (wy := wv48x0) 0 y) T τ f g = g := rfl
@[simp] theorem xr48x0 {β : Type} (y : (patsTy []).den) (f : (patsTy (wv48x0).ret).den → β) (g : β) : onRet (LQ.ret (wy := wv48x0) y) f g = f y := rfl
@[simp] theorem xs48x0e0 {β : Type} (y : (patsTy []).den) (f : (patsTy (wayP wv48x0 0)).den → β) (g : β) : onExit (LQ.ret (wy := wv48x0) y) 0 f g = g := rfl
@[simp] theorem xe52x0e0 {β : Type} (y : (patsTy []).den) (f : (patsTy (wayP wv52x0 0)).den → β) (g : β) : onExit (LQ.exit (wy := wv52x0) 0 y) 0 f g = f y := rfl
@[simp] theorem xn52x0e0 {β : Type} (y : (patsTy []).den) (f : (patsTy (wv52x0).ret).den → β) (g : β) : onRet (LQ.exit (wy := wv52x0) 0 y) f g = g := rfl
@[simp] theorem xp52x0e0 {β : Type} (y : (patsTy []).den) (T : TypeId) (τ : Ty) (f : τ.den × (patsTy (wv52x0).pan).den → β) (g : β) : onPanL (LQ.exit (wy := wv52x0) 0 y) T τ f g = g := rfl
@[simp] theorem xr52x0 {β : Type} (y : (patsTy [.slot 4 (.pc .bool)]).den) (f : (patsTy (wv52x0).ret).den → β) (g : β) : onRet (LQ.ret (wy := wv52x0) y) f g = f y := rfl
@[simp] theorem xs52x0e0 {β : Type} (y : (patsTy [.slot 4 (.pc .bool)]).den) (f : (patsTy (wayP wv52x0 0)).den → β) (g : β) : onExit (LQ.ret (wy := wv52x0) y) 0 f g = g := rfl
@[simp] theorem xe16x0e0 {β : Type} (y : (patsTy [.slot 14 (.pc (.sl T0))]).den) (f : (patsTy (wayP wv16x0 0)).den → β) (g : β) : onExit (LQ.exit (wy := wv16x0) 0 y) 0 f g = f y := rfl
@[simp] theorem xn16x0e0 {β : Type} (y : (patsTy [.slot 14 (.pc (.sl T0))]).den) (f : (patsTy (wv16x0).ret).den → β) (g : β) : onRet (LQ.exit (wy := wv16x0) 0 y) f g = g := rfl
@[simp] theorem xp16x0e0 {β : Type} (y : (patsTy [.slot 14 (.pc (.sl T0))]).den) (T : TypeId) (τ : Ty) (f : τ.den × (patsTy (wv16x0).pan).den → β) (g : β) : onPanL (LQ.exit (wy := wv16x0) 0 y) T τ f g = g := rfl
@[simp] theorem xr16x0 {β : Type} (y : (patsTy []).den) (f : (patsTy (wv16x0).ret).den → β) (g : β) : onRet (LQ.ret (wy := wv16x0) y) f g = f y := rfl
@[simp] theorem xs16x0e0 {β : Type} (y : (patsTy []).den) (f : (patsTy (wayP wv16x0 0)).den → β) (g : β) : onExit (LQ.ret (wy := wv16x0) y) 0 f g = g := rfl
@[simp] theorem xe16x1e2 {β : Type} (y : (patsTy [.slot 19 (.pc (.sl T0))]).den) (f : (patsTy (wayP wv16x1 2)).den → β) (g : β) : onExit (LQ.exit (wy := wv16x1) 2 y) 2 f g = f y := rfl
@[simp] theorem xn16x1e2 {β : Type} (y : (patsTy [.slot 19 (.pc (.sl T0))]).den) (f : (patsTy (wv16x1).ret).den → β) (g : β) : onRet (LQ.exit (wy := wv16x1) 2 y) f g = g := rfl
@[simp] theorem xp16x1e2 {β : Type} (y : (patsTy [.slot 19 (.pc (.sl T0))]).den) (T : TypeId) (τ : Ty) (f : τ.den × (patsTy (wv16x1).pan).den → β) (g : β) : onPanL (LQ.exit (wy := wv16x1) 2 y) T τ f g = g := rfl
@[simp] theorem xr16x1 {β : Type} (y : (patsTy [.slot 8 (.pc .bool)]).den) (f : (patsTy (wv16x1).ret).den → β) (g : β) : onRet (LQ.ret (wy := wv16x1) y) f g = f y := rfl
@[simp] theorem xs16x1e2 {β : Type} (y : (patsTy [.slot 8 (.pc .bool)]).den) (f : (patsTy (wayP wv16x1 2)).den → β) (g : β) : onExit (LQ.ret (wy := wv16x1) y) 2 f g = g := rfl
end Go.Dm

/- What is read off a loop's outcome. -/
import Derived.Test.YtlfgdpjompacjaaGC
set_option linter.unusedVariables false
set_option linter.unusedSimpArgs false
namespace Go.Dm
set_option maxRecDepth 100000
@[simp] theorem xe72x0e0 (y : (patsTy []).den) : LQ.isExit (LQ.exit (wy := wv72x0) 0 y) 0 = true := rfl
@[simp] theorem ge72x0e0 (y : (patsTy []).den) : LQ.getExit (LQ.exit (wy := wv72x0) 0 y) 0 = y := rfl
@[simp] theorem xe74x0e0 (y : (patsTy [.slot 7 (.pc (.sl T0))]).den) : LQ.isExit (LQ.exit (wy := wv74x0) 0 y) 0 = true := rfl
@[simp] theorem ge74x0e0 (y : (patsTy [.slot 7 (.pc (.sl T0))]).den) : LQ.getExit (LQ.exit (wy := wv74x0) 0 y) 0 = y := rfl
@[simp] theorem xe40x0e0 (y : (patsTy [.slot 4 (.pc (.sl T0)), .slot 5 (.pc (.sl T0))]).den) : LQ.isExit (LQ.exit (wy := wv40x0) 0 y) 0 = true := rfl
@[simp] theorem ge40x0e0 (y : (patsTy [.slot 4 (.pc (.sl T0)), .slot 5 (.pc (.sl T0))]).den) : LQ.getExit (LQ.exit (wy := wv40x0) 0 y) 0 = y := rfl
@[simp] theorem xe40x1e2 (y : (patsTy [.slot 10 (.pc (.sl T1))]).den) : LQ.isExit (LQ.exit (wy := wv40x1) 2 y) 2 = true := rfl
@[simp] theorem ge40x1e2 (y : (patsTy [.slot 10 (.pc (.sl T1))]).den) : LQ.getExit (LQ.exit (wy := wv40x1) 2 y) 2 = y := rfl
@[simp] theorem xe22x0e0 (y : (patsTy []).den) : LQ.isExit (LQ.exit (wy := wv22x0) 0 y) 0 = true := rfl
@[simp] theorem ge22x0e0 (y : (patsTy []).den) : LQ.getExit (LQ.exit (wy := wv22x0) 0 y) 0 = y := rfl
@[simp] theorem xe50x0e0 (y : (patsTy [.slot 9 (.pc tI), .slot 10 (.pc tI)]).den) : LQ.isExit (LQ.exit (wy := wv50x0) 0 y) 0 = true := rfl
@[simp] theorem ge50x0e0 (y : (patsTy [.slot 9 (.pc tI), .slot 10 (.pc tI)]).den) : LQ.getExit (LQ.exit (wy := wv50x0) 0 y) 0 = y := rfl
@[simp] theorem xe23x0e0 (y : (patsTy []).den) : LQ.isExit (LQ.exit (wy := wv23x0) 0 y) 0 = true := rfl
@[simp] theorem ge23x0e0 (y : (patsTy []).den) : LQ.getExit (LQ.exit (wy := wv23x0) 0 y) 0 = y := rfl
@[simp] theorem xe24x0e0 (y : (patsTy []).den) : LQ.isExit (LQ.exit (wy := wv24x0) 0 y) 0 = true := rfl
@[simp] theorem ge24x0e0 (y : (patsTy []).den) : LQ.getExit (LQ.exit (wy := wv24x0) 0 y) 0 = y := rfl
@[simp] theorem xe26x0e0 (y : (patsTy [.slot 7 (.pc (.sl T0))]).den) : LQ.isExit (LQ.exit (wy := wv26x0) 0 y) 0 = true := rfl
@[simp] theorem ge26x0e0 (y : (patsTy [.slot 7 (.pc (.sl T0))]).den) : LQ.getExit (LQ.exit (wy := wv26x0) 0 y) 0 = y := rfl
@[simp] theorem xe55x0e0 (y : (patsTy [.slot 5 (.pc (.sl T0))]).den) : LQ.isExit (LQ.exit (wy := wv55x0) 0 y) 0 = true := rfl
@[simp] theorem ge55x0e0 (y : (patsTy [.slot 5 (.pc (.sl T0))]).den) : LQ.getExit (LQ.exit (wy := wv55x0) 0 y) 0 = y := rfl
@[simp] theorem xe52x0e0 (y : (patsTy [.slot 5 (.pc (.sl T1))]).den) : LQ.isExit (LQ.exit (wy := wv52x0) 0 y) 0 = true := rfl
@[simp] theorem ge52x0e0 (y : (patsTy [.slot 5 (.pc (.sl T1))]).den) : LQ.getExit (LQ.exit (wy := wv52x0) 0 y) 0 = y := rfl
@[simp] theorem xe54x0e0 (y : (patsTy [.slot 7 (.pc tI), .slot 8 (.pc tI)]).den) : LQ.isExit (LQ.exit (wy := wv54x0) 0 y) 0 = true := rfl
@[simp] theorem ge54x0e0 (y : (patsTy [.slot 7 (.pc tI), .slot 8 (.pc tI)]).den) : LQ.getExit (LQ.exit (wy := wv54x0) 0 y) 0 = y := rfl
@[simp] theorem xe25x0e0 (y : (patsTy []).den) : LQ.isExit (LQ.exit (wy := wv25x0) 0 y) 0 = true := rfl
@[simp] theorem ge25x0e0 (y : (patsTy []).den) : LQ.getExit (LQ.exit (wy := wv25x0) 0 y) 0 = y := rfl
@[simp] theorem xe51x0e0 (y : (patsTy []).den) : LQ.isExit (LQ.exit (wy := wv51x0) 0 y) 0 = true := rfl
@[simp] theorem ge51x0e0 (y : (patsTy []).den) : LQ.getExit (LQ.exit (wy := wv51x0) 0 y) 0 = y := rfl
@[simp] theorem xe92x0e0 (y : (patsTy []).den) : LQ.isExit (LQ.exit (wy := wv92x0) 0 y) 0 = true := rfl
@[simp] theorem ge92x0e0 (y : (patsTy []).den) : LQ.getExit (LQ.exit (wy := wv92x0) 0 y) 0 = y := rfl
@[simp] theorem xe94x0e0 (y : (patsTy [.slot 6 (.own 1000006 23 T1)]).den) : LQ.isExit (LQ.exit (wy := wv94x0) 0 y) 0 = true := rfl
@[simp] theorem ge94x0e0 (y : (patsTy [.slot 6 (.own 1000006 23 T1)]).den) : LQ.getExit (LQ.exit (wy := wv94x0) 0 y) 0 = y := rfl
@[simp] theorem xe95x0e0 (y : (patsTy [.slot 5 (.pc tI)]).den) : LQ.isExit (LQ.exit (wy := wv95x0) 0 y) 0 = true := rfl
@[simp] theorem ge95x0e0 (y : (patsTy [.slot 5 (.pc tI)]).den) : LQ.getExit (LQ.exit (wy := wv95x0) 0 y) 0 = y := rfl
@[simp] theorem xe96x0e0 (y : (patsTy [.slot 3 (.pc tI)]).den) : LQ.isExit (LQ.exit (wy := wv96x0) 0 y) 0 = true := rfl
@[simp] theorem ge96x0e0 (y : (patsTy [.slot 3 (.pc tI)]).den) : LQ.getExit (LQ.exit (wy := wv96x0) 0 y) 0 = y := rfl
@[simp] theorem xe120x0e0 (y : (patsTy []).den) : LQ.isExit (LQ.exit (wy := wv120x0) 0 y) 0 = true := rfl
@[simp] theorem ge120x0e0 (y : (patsTy []).den) : LQ.getExit (LQ.exit (wy := wv120x0) 0 y) 0 = y := rfl
@[simp] theorem xe97x0e0 (y : (patsTy [.slot 3 (.pc tI)]).den) : LQ.isExit (LQ.exit (wy := wv97x0) 0 y) 0 = true := rfl
@[simp] theorem ge97x0e0 (y : (patsTy [.slot 3 (.pc tI)]).den) : LQ.getExit (LQ.exit (wy := wv97x0) 0 y) 0 = y := rfl
@[simp] theorem xe98x0e0 (y : (patsTy [.slot 3 (.pc tI)]).den) : LQ.isExit (LQ.exit (wy := wv98x0) 0 y) 0 = true := rfl
@[simp] theorem ge98x0e0 (y : (patsTy [.slot 3 (.pc tI)]).den) : LQ.getExit (LQ.exit (wy := wv98x0) 0 y) 0 = y := rfl
@[simp] theorem xe48x0_0_0e4 (y : (patsTy [.slot 9 (.pc (.sl T0)), .slot 10 (.pc (.sl T0))]).den) : LQ.isExit (LQ.exit (wy := wv48x0x0x0) 4 y) 4 = true := rfl
@[simp] theorem ge48x0_0_0e4 (y : (patsTy [.slot 9 (.pc (.sl T0)), .slot 10 (.pc (.sl T0))]).den) : LQ.getExit (LQ.exit (wy := wv48x0x0x0) 4 y) 4 = y := rfl
@[simp] theorem xe124x0e0 (y : (patsTy [.box 5 [.pc (.sl T1)], .box 34 [.pc tI, .pc tI], .box 88 [.mp 97], .box 3 [.pc (.sl T9), .pc tI, .pc tI, .pc tI, .pc tI, .pc tI, .pc tI, .pc tI, .pc tI, .pc tI, .pc tI, .pc tI, .pc tI, .pc tI, .pc tI, .pc tI], .box 61 [.row 70], .box 115 [.clo 124 [5, 34, 88, 3, 61, 115]], .mp 97 T4 .bool, .row 70 3 T0]).den) : LQ.isExit (LQ.exit (wy := wv124x0) 0 y) 0 = true := rfl
@[simp] theorem ge124x0e0 (y : (patsTy [.box 5 [.pc (.sl T1)], .box 34 [.pc tI, .pc tI], .box 88 [.mp 97], .box 3 [.pc (.sl T9), .pc tI, .pc tI, .pc tI, .pc tI, .pc tI, .pc tI, .pc tI, .pc tI, .pc tI, .pc tI, .pc tI, .pc tI, .pc tI, .pc tI, .pc tI], .box 61 [.row 70], .box 115 [.clo 124 [5, 34, 88, 3, 61, 115]], .mp 97 T4 .bool, .row 70 3 T0]).den) : LQ.getExit (LQ.exit (wy := wv124x0) 0 y) 0 = y := rfl
@[simp] theorem xe87x0e0 (y : (patsTy []).den) : LQ.isExit (LQ.exit (wy := wv87x0) 0 y) 0 = true := rfl
@[simp] theorem ge87x0e0 (y : (patsTy []).den) : LQ.getExit (LQ.exit (wy := wv87x0) 0 y) 0 = y := rfl
@[simp] theorem xe28x0e0 (y : (patsTy [.box 183 [.pc tI, .pc tI, .own 1184002 23 T1, .own 1184003 23 T1]]).den) : LQ.isExit (LQ.exit (wy := wv28x0) 0 y) 0 = true := rfl
@[simp] theorem ge28x0e0 (y : (patsTy [.box 183 [.pc tI, .pc tI, .own 1184002 23 T1, .own 1184003 23 T1]]).den) : LQ.getExit (LQ.exit (wy := wv28x0) 0 y) 0 = y := rfl
@[simp] theorem xe38x0e0 (y : (patsTy []).den) : LQ.isExit (LQ.exit (wy := wv38x0) 0 y) 0 = true := rfl
@[simp] theorem ge38x0e0 (y : (patsTy []).den) : LQ.getExit (LQ.exit (wy := wv38x0) 0 y) 0 = y := rfl
@[simp] theorem xe57x0e0 (y : (patsTy []).den) : LQ.isExit (LQ.exit (wy := wv57x0) 0 y) 0 = true := rfl
@[simp] theorem ge57x0e0 (y : (patsTy []).den) : LQ.getExit (LQ.exit (wy := wv57x0) 0 y) 0 = y := rfl
@[simp] theorem xe99x0e0 (y : (patsTy [.slot 9 (.pc (.sl T0))]).den) : LQ.isExit (LQ.exit (wy := wv99x0) 0 y) 0 = true := rfl
@[simp] theorem ge99x0e0 (y : (patsTy [.slot 9 (.pc (.sl T0))]).den) : LQ.getExit (LQ.exit (wy := wv99x0) 0 y) 0 = y := rfl
@[simp] theorem xe100x0e0 (y : (patsTy [.slot 5 (.pc tI)]).den) : LQ.isExit (LQ.exit (wy := wv100x0) 0 y) 0 = true := rfl
@[simp] theorem ge100x0e0 (y : (patsTy [.slot 5 (.pc tI)]).den) : LQ.getExit (LQ.exit (wy := wv100x0) 0 y) 0 = y := rfl
@[simp] theorem xe101x0e0 (y : (patsTy [.slot 3 (.pc tI)]).den) : LQ.isExit (LQ.exit (wy := wv101x0) 0 y) 0 = true := rfl
@[simp] theorem ge101x0e0 (y : (patsTy [.slot 3 (.pc tI)]).den) : LQ.getExit (LQ.exit (wy := wv101x0) 0 y) 0 = y := rfl
@[simp] theorem xe86x0e0 (y : (patsTy [.slot 5 (.pc (.sl T1))]).den) : LQ.isExit (LQ.exit (wy := wv86x0) 0 y) 0 = true := rfl
@[simp] theorem ge86x0e0 (y : (patsTy [.slot 5 (.pc (.sl T1))]).den) : LQ.getExit (LQ.exit (wy := wv86x0) 0 y) 0 = y := rfl
@[simp] theorem xe111x0e0 (y : (patsTy [.slot 10 (.pc tI), .slot 11 (.pc tI)]).den) : LQ.isExit (LQ.exit (wy := wv111x0) 0 y) 0 = true := rfl
@[simp] theorem ge111x0e0 (y : (patsTy [.slot 10 (.pc tI), .slot 11 (.pc tI)]).den) : LQ.getExit (LQ.exit (wy := wv111x0) 0 y) 0 = y := rfl
@[simp] theorem xe111x1e2 (y : (patsTy []).den) : LQ.isExit (LQ.exit (wy := wv111x1) 2 y) 2 = true := rfl
@[simp] theorem ge111x1e2 (y : (patsTy []).den) : LQ.getExit (LQ.exit (wy := wv111x1) 2 y) 2 = y := rfl
@[simp] theorem xe49x0_0_0_0e6 (y : (patsTy [.slot 9 (.pc (.sl T0)), .slot 10 (.pc (.sl T0)), .slot 11 (.pc (.sl T0)), .slot 12 (.pc (.sl T0))]).den) : LQ.isExit (LQ.exit (wy := wv49x0x0x0x0) 6 y) 6 = true := rfl
@[simp] theorem ge49x0_0_0_0e6 (y : (patsTy [.slot 9 (.pc (.sl T0)), .slot 10 (.pc (.sl T0)), .slot 11 (.pc (.sl T0)), .slot 12 (.pc (.sl T0))]).den) : LQ.getExit (LQ.exit (wy := wv49x0x0x0x0) 6 y) 6 = y := rfl
@[simp] theorem xe49x0_0_0e4 (y : (patsTy [.slot 4 (.pc .bool), .box 121 [.pc tI, .pc tI, .pc tI, .pc tI, .pc tI, .pc tI]]).den) : LQ.isExit (LQ.exit (wy := wv49x0x0x0) 4 y) 4 = true := rfl
@[simp] theorem ge49x0_0_0e4 (y : (patsTy [.slot 4 (.pc .bool), .box 121 [.pc tI, .pc tI, .pc tI, .pc tI, .pc tI, .pc tI]]).den) : LQ.getExit (LQ.exit (wy := wv49x0x0x0) 4 y) 4 = y := rfl
@[simp] theorem xe49x0_0e2 (y : (patsTy [.slot 4 (.pc .bool), .box 121 [.pc tI, .pc tI, .pc tI, .pc tI, .pc tI, .pc tI]]).den) : LQ.isExit (LQ.exit (wy := wv49x0x0) 2 y) 2 = true := rfl
@[simp] theorem ge49x0_0e2 (y : (patsTy [.slot 4 (.pc .bool), .box 121 [.pc tI, .pc tI, .pc tI, .pc tI, .pc tI, .pc tI]]).den) : LQ.getExit (LQ.exit (wy := wv49x0x0) 2 y) 2 = y := rfl
@[simp] theorem xe49x0e0 (y : (patsTy [.box 121 [.pc tI, .pc tI, .pc tI, .pc tI, .pc tI, .pc tI]]).den) : LQ.isExit (LQ.exit (wy := wv49x0) 0 y) 0 = true := rfl
@[simp] theorem ge49x0e0 (y : (patsTy [.box 121 [.pc tI, .pc tI, .pc tI, .pc tI, .pc tI, .pc tI]]).den) : LQ.getExit (LQ.exit (wy := wv49x0) 0 y) 0 = y := rfl
@[simp] theorem xe85x0_0_0e4 (y : (patsTy []).den) : LQ.isExit (LQ.exit (wy := wv85x0x0x0) 4 y) 4 = true := rfl
@[simp] theorem ge85x0_0_0e4 (y : (patsTy []).den) : LQ.getExit (LQ.exit (wy := wv85x0x0x0) 4 y) 4 = y := rfl
@[simp] theorem xe85x0_0e2 (y : (patsTy []).den) : LQ.isExit (LQ.exit (wy := wv85x0x0) 2 y) 2 = true := rfl
@[simp] theorem ge85x0_0e2 (y : (patsTy []).den) : LQ.getExit (LQ.exit (wy := wv85x0x0) 2 y) 2 = y := rfl
@[simp] theorem xe85x0e0 (y : (patsTy []).den) : LQ.isExit (LQ.exit (wy := wv85x0) 0 y) 0 = true := rfl
@[simp] theorem ge85x0e0 (y : (patsTy []).den) : LQ.getExit (LQ.exit (wy := wv85x0) 0 y) 0 = y := rfl
@[simp] theorem xe61x0e0 (y : (patsTy []).den) : LQ.isExit (LQ.exit (wy := wv61x0) 0 y) 0 = true := rfl
@[simp] theorem ge61x0e0 (y : (patsTy []).den) : LQ.getExit (LQ.exit (wy := wv61x0) 0 y) 0 = y := rfl
@[simp] theorem xe59x0e0 (y : (patsTy [.box 75 [.pc tI, .pc tI, .pc tI, .own 1076003 3 T0, .own 1076004 3 T0]]).den) : LQ.isExit (LQ.exit (wy := wv59x0) 0 y) 0 = true := rfl
@[simp] theorem ge59x0e0 (y : (patsTy [.box 75 [.pc tI, .pc tI, .pc tI, .own 1076003 3 T0, .own 1076004 3 T0]]).den) : LQ.getExit (LQ.exit (wy := wv59x0) 0 y) 0 = y := rfl
@[simp] theorem xe13x0e0 (y : (patsTy []).den) : LQ.isExit (LQ.exit (wy := wv13x0) 0 y) 0 = true := rfl
@[simp] theorem ge13x0e0 (y : (patsTy []).den) : LQ.getExit (LQ.exit (wy := wv13x0) 0 y) 0 = y := rfl
end Go.Dm

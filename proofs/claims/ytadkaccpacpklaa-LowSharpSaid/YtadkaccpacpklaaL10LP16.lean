/- What is known: words. -/
import Derived.Test.YtadkaccpacpklaaL10LP15
set_option linter.unusedVariables false
set_option linter.unusedSimpArgs false
namespace Go.Dm
set_option maxRecDepth 100000
open Go.Low
variable {s:tS.den}
def Jc (s:tS.den) (b:Bool):Int:=bif Io s && b then (bif Dg s then 0 else 7) else 2
theorem auP (hn:s.1.n<=1000) (hk:∀ t,t < s.1.n->(s.1.g t).2.1.n<=1000) (b:Bool):Sh (no_index (s,(b,())))=some (Jc s b,()):=by
 unfold Sh Q63 Jc
 refine (aK (Us hn hk)).trans ?_
 cases ho:Io s with
 | false=>exact aq rfl
 | true =>
  refine (aR rfl).trans ?_
  cases b with
  | false=>exact aq rfl
  | true =>
   refine (aR rfl).trans ?_
   refine (aK (aiR (qP ho))).trans ?_
   show (bif !Dg s then _ else _)=_
   cases Dg s <;> rfl
def e1:Sl sR.den:=⟨0,fun i=>((0:Int),())⟩
def e2:cT:=⟨0,fun i=>((⟨0,fun i=>((0:Int),())⟩:Sl _),())⟩
end Go.Dm

/- The bounds of the index of a day. -/
import Derived.Test.YtgkaoimndglnoaaGreatL5TP1
set_option linter.unusedVariables false
set_option linter.unusedSimpArgs false
namespace Go.Dm
set_option maxRecDepth 100000
theorem Va {mps:List bg} {β:Type} {o:RO mps} {x:(aa mps).den} {f:(aa mps).den->β} {g:β} (h:o = .next x):eo o f g=f x:=by rw [h]; rfl
def KD (s:ju) (a b:Int):Int:=KW s * AF a b
end Go.Dm

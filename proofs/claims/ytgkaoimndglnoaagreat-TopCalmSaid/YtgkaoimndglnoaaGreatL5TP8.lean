/- What is known of a reading, and what it shows in truth. -/
import Derived.Test.YtgkaoimndglnoaaGreatL5TP7
set_option linter.unusedVariables false
set_option linter.unusedSimpArgs false
namespace Go.Dm
set_option maxRecDepth 100000
abbrev trT:Type:=Int×Int×Int×Int×Int×Int×Int×Unit
def hk (k:Nat):Bool:=match TB ((k:Int) - 300,()) with
 | some (h,_)=>decide ((1:Int)<=(show Int from h)/\(show Int from h)<=10000)
 | none=>false
end Go.Dm

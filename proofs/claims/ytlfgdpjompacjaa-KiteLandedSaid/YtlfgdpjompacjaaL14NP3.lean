/- Heights of marks. -/
import Derived.Test.YtlfgdpjompacjaaL14NP2
set_option linter.unusedVariables false
set_option linter.unusedSimpArgs false
namespace Go.Dm
set_option maxRecDepth 100000

abbrev rowI : Type := Sl (Int × Unit)
def rise (t : traceT) (u : rowI) (j : Nat) : Int := W (Int.tdiv (W ((W ((W ((W ((5464 : Int) + (u.g j).1)) + (u.g (j + 1)).1)) * (W ((t.2.2.1.g j).1 - (t.2.2.1.g (j + 1)).1)))) * (2927 : Int))) (W ((1000 : Int) * (W ((t.2.2.1.g j).1 + (t.2.2.1.g (j + 1)).1)))))
def hs (t : traceT) (b : Int) (u : rowI) : Nat → Int
  | 0 => b
  | j + 1 => W (hs t b u j + rise t u j)
/-! truths of a trace -/
/-! lists that are equal -/
end Go.Dm


/- Readings that are placed on a map. -/
import Derived.Test.YtgkaoimndglnoaaGreatL5TP9
import Derived.Test.YtgkaoimndglnoaaGreatL5TP14
import Derived.Test.YtgkaoimndglnoaaGreatL5TK
set_option linter.unusedVariables false
set_option linter.unusedSimpArgs false
namespace Go.Dm
set_option maxRecDepth 100000
abbrev plT:Type:=Int×Int×Int×Int×Int×Int×Int×Int×Sl ckT×Int×Int×Int×Int×Int×Int×Int×Int×Int×Int×Int×trT
def plP (G:plT):Int:=G.2.2.2.2.2.2.2.2.2.1
end Go.Dm

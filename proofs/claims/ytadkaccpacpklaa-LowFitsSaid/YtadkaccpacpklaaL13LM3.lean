/- Links of a suite that is wider. -/
import Derived.Test.YtadkaccpacpklaaL13LM2
set_option linter.unusedVariables false
set_option linter.unusedSimpArgs false
namespace Go.Low
variable {s s':PS} {L:LL}
end Go.Low

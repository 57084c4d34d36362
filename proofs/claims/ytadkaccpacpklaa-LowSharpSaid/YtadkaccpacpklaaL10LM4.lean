/- One of these for each. -/
import Derived.Test.YtadkaccpacpklaaL10LM3
set_option linter.unusedVariables false
set_option linter.unusedSimpArgs false
namespace Go.Low
variable {s:PS} {L:LL}
end Go.Low

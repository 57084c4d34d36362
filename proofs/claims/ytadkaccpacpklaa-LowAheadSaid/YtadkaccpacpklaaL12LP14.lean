/- LowSwift. -/
import Derived.Test.YtadkaccpacpklaaL12LP13
import Derived.Test.YtadkaccpacpklaaL12LM3
set_option linter.unusedVariables false
set_option linter.unusedSimpArgs false
namespace Go.Dm
set_option maxRecDepth 100000
open Go.Low
variable {s:tS.den}
structure PC (s:tS.den) (rows:cT):Prop where
 n:rows.n=s.1.n
 k:∀ t,t < s.1.n->(rows.g t).1.n=(s.1.g t).2.1.n
def Dg (s:tS.den):Bool:=!(links (cB s)).isEmpty
theorem Ki:Dg s=true↔∃ L,L∈links (cB s):=by
 unfold Dg
 cases links (cB s) with
 | nil=>simp
 | cons a l=>exact ⟨fun _=>⟨a,.head _⟩,fun _=>rfl⟩
end Go.Dm

/- The reference: all links. -/
import Derived.Test.YtadkaccpacpklaaL10LP8
set_option linter.unusedVariables false
set_option linter.unusedSimpArgs false
namespace Go.Dm
set_option maxRecDepth 100000
open Go.Low
variable {s:tS.den}
abbrev zR:=Sl (Ty.den (.cons (.sl (.cons (.sl sR) .nil)) .nil))
theorem Pre.row {L:LL} {r:List Int} (h:Pre s L) (hlt:L.length < s.1.n) (hr:r∈gV (s.1.g (L.length - 1)).2.1.n (s.1.g L.length).2.1.n []):Pre s (L ++ [r]):=by
 have hrow:=NZ.1 hr
 have hpos:=h.sh.pos
 have hsh:Shape s L r:=⟨h.sh.pos,h.sh.le,h.sh.len,h.sh.val,fun _=>by rw [hrow.1]; exact Nat.le_refl _,fun e=>by omega,fun i x hx=>by
  rcases hrow.2 i x hx with q | q
  ·exact .inl q
  ·exact .inr ⟨q.1,q.2.1⟩⟩
 refine ⟨hsh.row hlt hrow.1,?_⟩
 rw [ku hpos]; exact h.first
end Go.Dm

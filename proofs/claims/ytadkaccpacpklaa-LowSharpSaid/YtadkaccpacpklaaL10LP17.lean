/- What is known: the reference's words. -/
import Derived.Test.YtadkaccpacpklaaL10LP16
set_option linter.unusedVariables false
set_option linter.unusedSimpArgs false
namespace Go.Dm
set_option maxRecDepth 100000
open Go.Low
variable {s:tS.den} {all:zR}
theorem aia (hs:(cB s).Ok) {o:cT} (h:aW o∈links (cB s)):PC s o:=by
 have h:=(tX hs).1 h
 have hn:o.n=s.1.n:=by have:=h.len; rw [dI] at this; exact this
 refine ⟨hn,fun t ht=>?_⟩
 have e:=kH (o:=o) (t:=t) (by omega)
 have e2:=iN (o.g t).1
 rw [<- e] at e2
 rw [<- e2]
 cases t with
 | zero=>rw [h.first]; simp [first]; rfl
 | succ t=>exact (h.row t ht).1
end Go.Dm

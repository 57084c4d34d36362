/- LowSwift. -/
import Derived.Test.YtadkaccpacpklaaL10LP13
import Derived.Test.YtadkaccpacpklaaL10LM3
set_option linter.unusedVariables false
set_option linter.unusedSimpArgs false
namespace Go.Dm
set_option maxRecDepth 100000
open Go.Low
variable {s:tS.den}
structure PC (s:tS.den) (rows:cT):Prop where
 n:rows.n=s.1.n
 k:∀ t,t < s.1.n->(rows.g t).1.n=(s.1.g t).2.1.n
theorem aoL (hs:(cB s).Ok) {t:Nat} (ht:t < s.1.n) {L:LL} (h:L∈links (cB s)):L.take (t + 1)∈links (cB (abe s (t + 1))):=by
 have h:=(tX hs).1 h
 have hlen:L.length=s.1.n:=h.len
 have hp:L.take (t + 1) <+: L:=List.take_prefix _ _
 have hl:(L.take (t + 1)).length=t + 1:=by rw [List.length_take]; omega
 have hb:(OC s)=(cB s).born:=rfl
 refine (tX (ae3 hs (by omega) (by omega))).2 ⟨hl,(getD_take (Nat.succ_pos t)).trans h.first,fun u hu=>?_,?_,?_,fun u hu i hi' p Yw=>?_⟩
 ·have Pt:u + 1 < t + 1:=hu
  rw [getD_take Pt]
  exact h.row u (show u + 1 < s.1.n by omega)
 ·have h1:=acG hp
  have h2:=h.born
  have:(cB (abe s (t + 1))).born=(cB s).born:=rfl
  omega
 ·have h1:=acH hp
  have h2:=h.gone
  have:(cB (abe s (t + 1))).gone=(cB s).gone:=rfl
  omega
 ·have Pt:u < t + 1:=hu
  have e:=AZ (L:=L.take (t + 1)) (M:=L.drop (t + 1)) (t:=u) (i:=i) (by omega)
  rw [List.take_append_drop] at e
  rw [<- e] at Yw
  exact h.ch u (show u < s.1.n by omega) i hi' p Yw
def Dg (s:tS.den):Bool:=!(links (cB s)).isEmpty
theorem Ki:Dg s=true↔∃ L,L∈links (cB s):=by
 unfold Dg
 cases links (cB s) with
 | nil=>simp
 | cons a l=>exact ⟨fun _=>⟨a,.head _⟩,fun _=>rfl⟩
theorem afh (hs:(cB s).Ok):(fB (Yn s) s.1.n).isNone=Dg s:=by
 have xU:0 < s.1.n:=hs.n1
 cases h:fB (Yn s) s.1.n with
 | none =>
  have h1:=jg h (s.1.n - 1) (by omega)
  unfold Yn at h1
  rw [Nat.sub_add_cancel xU] at h1
  show true = !(links (cB s)).isEmpty
  have e:(links (cB s)).isEmpty=false:=h1
  rw [e]; rfl
 | some k =>
  obtain ⟨h1,h2,_⟩:=kD h
  cases ha:Dg s with
  | false=>rfl
  | true =>
   obtain ⟨L,hL⟩:=Ki.1 ha
   have h3:=aoL hs h1 hL
   unfold Yn at h2
   rw [List.isEmpty_iff] at h2
   rw [h2] at h3
   cases h3
theorem aAf (hs:Io s=true) (hn:s.1.n<=1000) (hk:∀ t,t < s.1.n->(s.1.g t).2.1.n<=1000):∃ v:Int,Yl (no_index (s,()))=some (v,((bif Dg s then (5:Int) else 0),())):=by
 have h:=auH hs hn hk
 have e:=afh (qP hs)
 rw [<- e]
 revert h
 cases fB (Yn s) s.1.n with
 | none=>intro h; exact ⟨_,h⟩
 | some k=>intro h; exact ⟨_,h⟩
end Go.Dm

/- LowMore. -/
import Derived.Test.YtadkaccpacpklaaL10LP27
import Derived.Test.YtadkaccpacpklaaL10LP19
set_option linter.unusedVariables false
set_option linter.unusedSimpArgs false
namespace Go.Dm
set_option maxRecDepth 100000
open Go.Low
variable {s:tS.den} {fr to:Int}
theorem aWw (hn:s.1.n<=1000) (t i:Int):M35 (no_index (s,(t,(i,()))))=some (lowB s t i,()):=by
 unfold M35 Q35 lowB
 refine (aK (uW _ _ _)).trans ?_
 cases h:oV t 0 (W (((s.1.n:Nat):Int) - 1)) with
 | false=>exact aR rfl
 | true =>
  have h1:=(auQ hn).1 h
  have a:(0:Int)<=t/\t < ((s.1.n:Nat):Int):=by omega
  refine (aq rfl).trans ?_
  refine (aq (decide_eq_true a)).trans ?_
  exact aK (uW _ _ _)
theorem lowB_ex (hn:s.1.n<=1000) (hk:∀ t,t < s.1.n->(s.1.g t).2.1.n<=1000) {t i:Int} (h:lowB s t i=true):∃ t' i':Nat,t=(t':Int)/\i=(i':Int)/\t' < s.1.n/\i' < (s.1.g t').2.1.n:=by
 unfold lowB at h
 rw [Bool.and_eq_true] at h
 have h1:=(auQ hn).1 h.1
 have h2:=(auQ (hk _ h1.2)).1 h.2
 exact ⟨t.toNat,i.toNat,by omega,by omega,h1.2,h2.2⟩
section
variable {sp bn gn:Int} (hx:XOk s fr to sp bn gn) (ho:Io s=true) (ha:Dg (xS fr to sp bn gn s s.1.n)=true)
include hx ho
end
theorem tb {a b:Int} (h:a≠b):(!decide (a=b))=true:=by rw [decide_eq_false h]; rfl
end Go.Dm

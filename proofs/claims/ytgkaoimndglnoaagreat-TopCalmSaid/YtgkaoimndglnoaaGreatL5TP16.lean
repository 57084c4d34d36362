/- TopMapped. -/
import Derived.Test.YtgkaoimndglnoaaGreatL5TP15
set_option linter.unusedVariables false
set_option linter.unusedSimpArgs false
namespace Go.Dm
set_option maxRecDepth 100000
structure afk (m:adh) (l:Sl plT) (f:fdT) (j:Nat) (is:Bool) (st:Sl csT):Prop where
 n:st.n=j
 ok:∀ k,k < j->(st.g k).1=plP (l.g k)/\0<=(st.g k).2.1/\(st.g k).2.1<=(st.g k).2.2.1/\(st.g k).2.2.1<=99999
 is:is=true->∀ k,k < j->∃ p:Nat,plP (l.g k)=(p:Int)/\p < (vls f).n/\(st.g k).2.1<=vlF f p/\vlF f p<=(st.g k).2.2.1
theorem CZ {α:Type} {P:α->Prop} {a b:α} (h:a=b) (hb:P b):P a:=h ▸ hb
def af5 (G:plT) (a b:Int):csT:=(plP G,(a,(b,())))
theorem afk.step {m:adh} {l:Sl plT} {f:fdT} {j:Nat} {is:Bool} {st:Sl csT} (h:afk m l f j is st) {a b:Int} (h1:0<=a/\a<=b/\b<=99999) {is':Bool} (hi:is'=true->is=true/\∃ p:Nat,plP (l.g j)=(p:Int)/\p < (vls f).n/\a<=vlF f p/\vlF f p<=b):afk m l f (j + 1) is' (snoc st (af5 (l.g j) a b)) where
 n:=by rw [qh,h.n]
 ok:=fun k hk=>by
  by_cases e:k=j
  ·subst e
   have:=AE st (af5 (l.g k) a b)
   rw [h.n] at this
   rw [this]; exact ⟨rfl,h1⟩
  ·rw [HV (by rw [h.n]; omega)]
   exact h.ok k (by omega)
 is:=fun q k hk=>by
  obtain ⟨q1,q2⟩:=hi q
  by_cases e:k=j
  ·subst e
   have:=AE st (af5 (l.g k) a b)
   rw [h.n] at this
   rw [this]; exact q2
  ·rw [HV (by rw [h.n]; omega)]
   exact h.is q1 k (by omega)
end Go.Dm

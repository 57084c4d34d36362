/- A suite of which more is known than of another one. -/
import Derived.Test.YtadkaccpacpklaaL10LM5
set_option linter.unusedVariables false
set_option linter.unusedSimpArgs false
namespace Go.Low
variable {s s':PS} {L:LL}
structure Sub (s s':PS):Prop where
 N:s.N=s'.N
 k:∀ t,t < s.N->s.k t=s'.k t
 tm:∀ t,t < s.N->s.tm t=s'.tm t
 dV:∀ a,dV s a<=dV s' a
 born:s.born<=s'.born
 gone:s.gone<=s'.gone
 box:∀ t i,t < s.N->i < s.k t->∀ a,a < 3->lo (s'.box t i) a<=lo (s.box t i) a/\hi (s.box t i) a<=hi (s'.box t i) a
theorem Sub.links (hx:Sub s s') (hs:s.Ok) (hs':s'.Ok) (h:L∈links s):L∈links s':=by
 have h:=(tX hs).1 h
 have hn:=hs.n1
 have hN:=hx.N
 refine (tX hs').2 ⟨h.len.trans hN,?_,fun t ht=>?_,by have:=h.born; have:=hx.born; omega,by have:=h.gone; have:=hx.gone; omega,fun t ht i hi p hp=>?_⟩
 ·rw [h.first]; unfold Go.Low.first; rw [hx.k 0 hn]
 ·have:=h.row t (by omega)
  rwa [hx.k t (by omega),hx.k (t + 1) (by omega)] at this
 ·have ht':t < s.N:=by omega
  have hi':i < s.k t:=by rw [hx.k t ht']; exact hi
  have Yw:p∈uT L t i:=List.mem_of_mem_tail hp
  have h1:=h.ch t ht' i hi' p hp
  have h2:=akX h ht' hi' p Yw
  have h3:=ahU Yw
  have h4:0<=s.tm t - s.tm p.1:=by have:=hs.afG h3 ht'; omega
  intro a ha
  have q1:=h1 a ha
  have q2:=hx.box t i ht' hi' a ha
  have q3:=hx.box p.1 p.2 h2.1 h2.2 a ha
  have q4:Go.Low.dV s a * (s.tm t - s.tm p.1)<=Go.Low.dV s' a * (s.tm t - s.tm p.1):=Int.mul_le_mul_of_nonneg_right (hx.dV a) h4
  dsimp only at q1 ⊢
  rw [<- hx.tm t ht',<- hx.tm p.1 h2.1]
  omega
theorem Sub.nx (hx:Sub s s') {t i:Nat} (ht:t + 1 < s.N):nx s L t i=nx s' L t i:=by
 unfold Go.Low.nx
 rw [hx.k _ ht]
theorem Sub.des (hx:Sub s s'):∀ {m t i:Nat},t + m < s.N->des s L m t i=des s' L m t i
 | 0,t,i,_=>rfl
 | m + 1,t,i,h=>by
  simp only [Go.Low.des]
  rw [hx.nx (by omega)]
  cases Go.Low.nx s' L t i with
  | none=>rfl
  | some j=>dsimp only; rw [hx.des (by omega)]
theorem Sub.chain (hx:Sub s s') {t i:Nat} (ht:t < s.N):chain s L t i=chain s' L t i:=by
 unfold Go.Low.chain
 rw [<- hx.N,hx.des (by omega)]
theorem aKq (h:wD s L) {t i:Nat} (ht:t < s.N) (hi:i < s.k t) {p:Nat×Nat} (hp:p∈chain s L t i):p.1 < s.N/\p.2 < s.k p.1:=by
 rcases List.mem_append.1 hp with hp | hp
 ·exact akX h ht hi p hp
 ·exact atN (fun _ _=>trivial) (by omega) hi p hp
theorem aWv (hs:s.Ok) {t u:Nat} (ht:t < s.N) (hu:u < s.N):0<=dt s t u:=by
 unfold dt
 split
 ·rename_i h; have:=hs.afG h ht; omega
 ·have:=hs.afG (t:=t) (t':=u) (by omega) hu; omega
theorem Sub.dt (hx:Sub s s') {t u:Nat} (ht:t < s.N) (hu:u < s.N):dt s t u=dt s' t u:=by
 unfold Go.Low.dt
 rw [hx.tm t ht,hx.tm u hu]
theorem Sub.pos (hx:Sub s s') (hs:s.Ok) (h:wD s L) {t i:Nat} (ht:t < s.N) (hi':i < s.k t) {a:Nat} (ha:a < 3):lo (pos s' L t i) a<=lo (pos s L t i) a/\hi (pos s L t i) a<=hi (pos s' L t i) a:=by
 have key:∀ p∈Go.Low.chain s L t i,Go.Low.dV s a * Go.Low.dt s t p.1<=Go.Low.dV s' a * Go.Low.dt s' t p.1/\lo (s'.box p.1 p.2) a<=lo (s.box p.1 p.2) a/\hi (s.box p.1 p.2) a<=hi (s'.box p.1 p.2) a:=fun p hp=>by
  have hin:=aKq h ht hi' hp
  rw [<- hx.dt ht hin.1]
  exact ⟨Int.mul_le_mul_of_nonneg_right (hx.dV a) (aWv hs ht hin.1),hx.box _ _ hin.1 hin.2 a ha⟩
 constructor
 ·refine (aEe a _ t i).2 fun p hp=>?_
  rw [<- hx.chain ht] at hp
  have h1:=(aEe (s:=s) (L:=L) a _ t i).1 (Int.le_refl _) p hp
  have:=key p hp
  omega
 ·refine (aEf a _ t i).2 fun p hp=>?_
  rw [<- hx.chain ht] at hp
  have h1:=(aEf (s:=s) (L:=L) a _ t i).1 (Int.le_refl _) p hp
  have:=key p hp
  omega
theorem Sub.where (hx:Sub s s') (hs:s.Ok) (hs':s'.Ok) (hne:Go.Low.links s≠[]) {t i:Nat} (ht:t < s.N) (hi':i < s.k t) {a:Nat} (ha:a < 3):lo (ach s' t i) a<=lo (ach s t i) a/\hi (ach s t i) a<=hi (ach s' t i) a:=by
 have at2:Go.Low.links s'≠[]:=by
  obtain ⟨L,hL⟩:=List.exists_mem_of_ne_nil _ hne
  exact List.ne_nil_of_mem (hx.links hs hs' hL)
 constructor
 ·refine (aAC hne).2 fun L hL=>?_
  have h1:=(aAC (t:=t) (i:=i) (a:=a) at2).1 (Int.le_refl _) L (hx.links hs hs' hL)
  have h2:=(hx.pos hs ((tX hs).1 hL) ht hi' ha).1
  omega
 ·refine (aAD hne).2 fun L hL=>?_
  have h1:=(aAD (t:=t) (i:=i) (a:=a) at2).1 (Int.le_refl _) L (hx.links hs hs' hL)
  have h2:=(hx.pos hs ((tX hs).1 hL) ht hi' ha).2
  omega
end Go.Low

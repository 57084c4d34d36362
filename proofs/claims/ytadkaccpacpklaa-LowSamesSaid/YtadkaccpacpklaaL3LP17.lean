/- What is known: the reference's words. -/
import Derived.Test.YtadkaccpacpklaaL3LP16
set_option linter.unusedVariables false
set_option linter.unusedSimpArgs false
namespace Go.Dm
set_option maxRecDepth 100000
open Go.Low
variable {s:tS.den} {all:zR}
theorem aia (hs:(cB s).Ok) {o:cT} (h:aW o∈links (cB s)):PC s o:=by
 have h:=(tX hs).1 h
 have hn:o.n=s.1.n:=by have:=h.len; rw [dI] at this; exact this
 refine ⟨hn,fun t ht=>?_⟩
 have e:=kH (o:=o) (t:=t) (by omega)
 have e2:=iN (o.g t).1
 rw [<- e] at e2
 rw [<- e2]
 cases t with
 | zero=>rw [h.first]; simp [first]; rfl
 | succ t=>exact (h.row t ht).1
theorem azh (hall:fU all=links (cB s)) {i:Nat} (hi:i < all.n):aW (all.g i).1∈links (cB s):=by
 rw [<- hall]; exact List.mem_of_getElem? (IQ hi)
theorem auS (hall:fU all=links (cB s)):all.n=nL s:=by
 have:=jA all
 rw [hall] at this
 exact this.symm
def abf (q:LL->Bool) (all:zR) (j:Nat):Nat:=((fU all).take j).countP q
theorem aoY {q:LL->Bool} {j:Nat} (h:j < all.n):abf q all (j + 1)=abf q all j + (bif q (aW (all.g j).1) then 1 else 0):=by
 unfold abf
 rw [List.take_add_one,IQ h,List.countP_append]
 cases hq:q (aW (all.g j).1) <;> simp [hq]
theorem azi {q:LL->Bool} {j:Nat}:abf q all j<=j:=by
 unfold abf
 exact Nat.le_trans List.countP_le_length (by rw [List.length_take]; omega)
theorem atO {q:LL->Bool} (hall:fU all=links (cB s)):abf q all all.n=(links (cB s)).countP q:=by
 unfold abf
 rw [List.take_of_length_le (by rw [jA]; exact Nat.le_refl _),hall]
theorem aTP (hs:(cB s).Ok) (hall:fU all=links (cB s)) {t i j:Nat} (ht:t + 1 < s.1.n) (hi:i < (s.1.g (t + 1)).2.1.n) {tb:cT} {rw':Sl sR.den} :
  acR (all,(((t + 1:Nat):Int),((),(tb,((i:Int),(rw',((j:Int),(s,())))))))) ((0:Int),((0:Int),())) = .exit 4 (((cS s (t + 1) i (j:Int):Nat):Int),()):=by
 have hN:=auS hall
 have hsm:=abS hs
 unfold acR cS
 rw [<- atO hall]
 refine bQ (ps:=xz) all.n cz (fun m=>(((abf (fun L=>decide (qR L (t + 1) i=(j:Int))) all m:Nat):Int),((m:Int),()))) (by unfold cz; unfold nL at hN; omega) (fun m hm=>?_) ?_
 ·have ho:=aia hs (azh hall hm)
  have hl:qR (aW (all.g m).1) (t + 1) i=(show Int from (((all.g m).1.g (t + 1)).1.g i).1):=OO (by rw [ho.n]; exact ht) (by rw [ho.k _ ht]; exact hi)
  have hle:=azi (q:=fun L=>decide (qR L (t + 1) i=(j:Int))) (all:=all) (j:=m)
  have hsu:=aoY (q:=fun L=>decide (qR L (t + 1) i=(j:Int))) hm
  have w1:W ((m:Int) + 1)=((m + 1:Nat):Int):=dR hm (by unfold nL at hN; omega)
  unfold acQ acP
  refine (aq (decide_eq_true (dW hm))).trans ?_
  refine (aq (decide_eq_true (aQ hm))).trans ?_
  refine (aq (decide_eq_true (aQ (n:=(all.g m).1.n) (by rw [ho.n]; exact ht)))).trans ?_
  refine (aq (decide_eq_true (aQ (n:=((all.g m).1.g (t + 1)).1.n) (by rw [ho.k _ ht]; exact hi)))).trans ?_
  rw [hl] at hsu
  cases hd:decide ((show Int from (((all.g m).1.g (t + 1)).1.g i).1)=(j:Int)) with
  | true =>
   rw [hd,cond_true] at hsu
   refine (aq hd).trans ?_
   have w2:W (((abf (fun L=>decide (qR L (t + 1) i=(j:Int))) all m:Nat):Int) + 1)=((abf (fun L=>decide (qR L (t + 1) i=(j:Int))) all (m + 1):Nat):Int):=by
    rw [hsu,gQ ⟨by omega,by unfold nL at hN; omega⟩]; rfl
   exact (congrArg (fun q:Int=>(RQ.next (show (aa xz).den from (q,(W ((m:Int) + 1),()))):RQ xz RE)) w2).trans (congrArg (fun q:Int=>(RQ.next (show (aa xz).den from (((abf (fun L=>decide (qR L (t + 1) i=(j:Int))) all (m + 1):Nat):Int),(q,()))):RQ xz RE)) w1)
  | false =>
   rw [hd,cond_false,Nat.add_zero] at hsu
   refine (aR hd).trans ?_
   rw [hsu]
   exact congrArg (fun q:Int=>(RQ.next (show (aa xz).den from (((abf (fun L=>decide (qR L (t + 1) i=(j:Int))) all m:Nat):Int),(q,()))):RQ xz RE)) w1
 ·unfold acQ acP
  have:¬ ((all.n:Int) < (all.n:Int)):=by omega
  exact aR (decide_eq_false this)
theorem afz {q:LL->Bool}:(links (cB s)).countP q<=nL s:=List.countP_le_length
theorem aPB (hs:(cB s).Ok) (hall:fU all=links (cB s)) {t i:Nat} (ht:t + 1 < s.1.n) (hi:i < (s.1.g (t + 1)).2.1.n) {tb:cT} :
  anP (all,(((t + 1:Nat):Int),((),(tb,((i:Int),(s,())))))) (e1,((0:Int),())) = .exit 2 (RH (s.1.g t).2.1.n (fun j=>wd (cS s (t + 1) i (j:Int)) (nL s)),()):=by
 have hN:=auS hall
 have Ml:=dN hs (t:=t) (by omega)
 have h4:=eF hs
 have wp:=wo (n:=s.1.n) (by omega) ht
 have key:∀ w:Int,w=(t:Int)->∀ (j:Int) {α:Type} (x y z:α),(bif decide ((0:Int)<=w/\w < ((s.1.n:Nat):Int)) then bif decide (j < (((s.1.g (Int.toNat w)).2.1.n:Nat):Int)) then x else y else z)=bif decide (j < (((s.1.g t).2.1.n:Nat):Int)) then x else y:=fun w hw j α x y z=>by subst hw; exact aq (decide_eq_true (aQ (by omega)))
 unfold anP
 refine bQ (ps:=Oz) (s.1.g t).2.1.n cz (fun j=>(RH j (fun j=>wd (cS s (t + 1) i (j:Int)) (nL s)),((j:Int),()))) (by unfold cz; omega) (fun j hj=>?_) ?_
 ·have hn:=PD j (fun j=>wd (cS s (t + 1) i (j:Int)) (nL s))
  have h8:((RH j (fun j=>wd (cS s (t + 1) i (j:Int)) (nL s))).n + 1) * 8<=140737488355328:=by omega
  unfold anO anN
  refine (key _ wp _ _ _ _).trans ?_
  refine (aq (decide_eq_true (dW hj))).trans ?_
  refine (bp (aTP hs hall ht hi)).trans ?_
  have h72:=aKk (c:=cS s (t + 1) i (j:Int)) (a:=nL s) afz
  rw [<- hN] at h72
  refine (aK h72).trans ?_
  refine (aq (decide_eq_true h8)).trans ?_
  rw [hN]
  exact congrArg (fun q:Int=>(RQ.next (show (aa Oz).den from (RH (j + 1) (fun j=>wd (cS s (t + 1) i (j:Int)) (nL s)),(q,()))):RQ Oz ah0)) (dR hj (by omega))
 ·unfold anO anN
  refine (key _ wp _ _ _ _).trans ?_
  have:¬ ((((s.1.g t).2.1.n:Nat):Int) < (((s.1.g t).2.1.n:Nat):Int)):=by omega
  exact aR (decide_eq_false this)
theorem aWu (hs:(cB s).Ok) (hall:fU all=links (cB s)) {t:Nat} (ht:t + 1 < s.1.n):M26 (no_index (s,(all,(((t + 1:Nat):Int),()))))=some (Cl s t,()):=by
 have hk:=dN hs ht
 have key:aFj (all,(((t + 1:Nat):Int),((),(s,())))) (e2,((0:Int),())) = .exit 0 (Cl s t,()):=by
  unfold aFj Cl
  refine bQ (ps:=aaX) (s.1.g (t + 1)).2.1.n cz (fun i=>(LW i (fun _=>(s.1.g t).2.1.n) (fun i j=>wd (cS s (t + 1) i (j:Int)) (nL s)),((i:Int),()))) (by unfold cz; omega) (fun i hi=>?_) ?_
  ·have hn:=aa3 i (fun _=>(s.1.g t).2.1.n) (fun i j=>wd (cS s (t + 1) i (j:Int)) (nL s))
   have h24:((LW i (fun _=>(s.1.g t).2.1.n) (fun i j=>wd (cS s (t + 1) i (j:Int)) (nL s))).n + 1) * 24<=140737488355328:=by omega
   unfold aAo aAn
   refine (aq (decide_eq_true (aQ ht))).trans ?_
   refine (aq (decide_eq_true (dW hi))).trans ?_
   refine (bp (aPB hs hall ht hi)).trans ?_
   refine (aq (decide_eq_true h24)).trans ?_
   exact congrArg (fun q:Int=>(RQ.next (show (aa aaX).den from (LW (i + 1) (fun _=>(s.1.g t).2.1.n) (fun i j=>wd (cS s (t + 1) i (j:Int)) (nL s)),(q,()))):RQ aaX att)) (dR hi (by omega))
  ·unfold aAo aAn
   refine (aq (decide_eq_true (aQ ht))).trans ?_
   have:¬ ((((s.1.g (t + 1)).2.1.n:Nat):Int) < (((s.1.g (t + 1)).2.1.n:Nat):Int)):=by omega
   exact aR (decide_eq_false this)
 unfold M26 Q26
 exact bp key
theorem aTQ (hs:(cB s).Ok) (hall:fU all=links (cB s)) {t i:Nat} (ht:t + 1 < s.1.n) (hi:i < (s.1.g (t + 1)).2.1.n) {tb:cT} {rw':Sl sR.den} :
  acL (all,((),(tb,(((t + 1:Nat):Int),(rw',((i:Int),(s,()))))))) ((0:Int),((0:Int),())) = .exit 4 (((cS s (t + 1) i (-1):Nat):Int),()):=by
 have hN:=auS hall
 have hsm:=abS hs
 unfold acL cS
 rw [<- atO hall]
 refine bQ (ps:=xx) all.n cz (fun m=>(((abf (fun L=>decide (qR L (t + 1) i = -1)) all m:Nat):Int),((m:Int),()))) (by unfold cz; unfold nL at hN; omega) (fun m hm=>?_) ?_
 ·have ho:=aia hs (azh hall hm)
  have hl:qR (aW (all.g m).1) (t + 1) i=(show Int from (((all.g m).1.g (t + 1)).1.g i).1):=OO (by rw [ho.n]; exact ht) (by rw [ho.k _ ht]; exact hi)
  have hle:=azi (q:=fun L=>decide (qR L (t + 1) i = -1)) (all:=all) (j:=m)
  have hsu:=aoY (q:=fun L=>decide (qR L (t + 1) i = -1)) hm
  have w1:W ((m:Int) + 1)=((m + 1:Nat):Int):=dR hm (by unfold nL at hN; omega)
  unfold acK acJ
  refine (aq (decide_eq_true (dW hm))).trans ?_
  refine (aq (decide_eq_true (aQ hm))).trans ?_
  refine (aq (decide_eq_true (aQ (n:=(all.g m).1.n) (by rw [ho.n]; exact ht)))).trans ?_
  refine (aq (decide_eq_true (aQ (n:=((all.g m).1.g (t + 1)).1.n) (by rw [ho.k _ ht]; exact hi)))).trans ?_
  rw [hl] at hsu
  cases hd:decide ((show Int from (((all.g m).1.g (t + 1)).1.g i).1) = -1) with
  | true =>
   rw [hd,cond_true] at hsu
   refine (aq hd).trans ?_
   have w2:W (((abf (fun L=>decide (qR L (t + 1) i = -1)) all m:Nat):Int) + 1)=((abf (fun L=>decide (qR L (t + 1) i = -1)) all (m + 1):Nat):Int):=by
    rw [hsu,gQ ⟨by omega,by unfold nL at hN; omega⟩]; rfl
   exact (congrArg (fun q:Int=>(RQ.next (show (aa xx).den from (q,(W ((m:Int) + 1),()))):RQ xx Rx)) w2).trans (congrArg (fun q:Int=>(RQ.next (show (aa xx).den from (((abf (fun L=>decide (qR L (t + 1) i = -1)) all (m + 1):Nat):Int),(q,()))):RQ xx Rx)) w1)
  | false =>
   rw [hd,cond_false,Nat.add_zero] at hsu
   refine (aR hd).trans ?_
   rw [hsu]
   exact congrArg (fun q:Int=>(RQ.next (show (aa xx).den from (((abf (fun L=>decide (qR L (t + 1) i = -1)) all m:Nat):Int),(q,()))):RQ xx Rx)) w1
 ·unfold acK acJ
  have:¬ ((all.n:Int) < (all.n:Int)):=by omega
  exact aR (decide_eq_false this)
theorem aPC (hs:(cB s).Ok) (hall:fU all=links (cB s)) {t:Nat} (ht:t + 1 < s.1.n) {tb:cT} :
  anD (all,((),(tb,(((t + 1:Nat):Int),(s,()))))) (e1,((0:Int),())) = .exit 2 (RH (s.1.g (t + 1)).2.1.n (fun i=>wd (cS s (t + 1) i (-1)) (nL s)),()):=by
 have hN:=auS hall
 have hk:=dN hs ht
 unfold anD
 refine bQ (ps:=Ox) (s.1.g (t + 1)).2.1.n cz (fun j=>(RH j (fun i=>wd (cS s (t + 1) i (-1)) (nL s)),((j:Int),()))) (by unfold cz; omega) (fun j hj=>?_) ?_
 ·have hn:=PD j (fun i=>wd (cS s (t + 1) i (-1)) (nL s))
  have h8:((RH j (fun i=>wd (cS s (t + 1) i (-1)) (nL s))).n + 1) * 8<=140737488355328:=by omega
  unfold anB anA
  refine (aq (decide_eq_true (aQ ht))).trans ?_
  refine (aq (decide_eq_true (dW hj))).trans ?_
  refine (bp (aTQ hs hall ht hj)).trans ?_
  have h72:=aKk (c:=cS s (t + 1) j (-1)) (a:=nL s) afz
  rw [<- hN] at h72
  refine (aK h72).trans ?_
  refine (aq (decide_eq_true h8)).trans ?_
  rw [hN]
  exact congrArg (fun q:Int=>(RQ.next (show (aa Ox).den from (RH (j + 1) (fun i=>wd (cS s (t + 1) i (-1)) (nL s)),(q,()))):RQ Ox ahW)) (dR hj (by omega))
 ·unfold anB anA
  refine (aq (decide_eq_true (aQ ht))).trans ?_
  have:¬ ((((s.1.g (t + 1)).2.1.n:Nat):Int) < (((s.1.g (t + 1)).2.1.n:Nat):Int)):=by omega
  exact aR (decide_eq_false this)
theorem aKl (hs:(cB s).Ok) (hall:fU all=links (cB s)):M24 (no_index (s,(all,())))=some (Kt s,()):=by
 have h4:=eF hs
 have xU:0 < s.1.n:=hs.n1
 have key:aFf (all,((),(s,()))) (e2,((1:Int),())) = .exit 0 (Kt s,()):=by
  unfold aFf Kt
  refine bQ (ps:=aaP) (s.1.n - 1) cz (fun i=>(LW i (fun r=>(s.1.g (r + 1)).2.1.n) (fun r i=>wd (cS s (r + 1) i (-1)) (nL s)),(((i + 1:Nat):Int),()))) (by unfold cz; omega) (fun i hi=>?_) ?_
  ·have hn:=aa3 i (fun r=>(s.1.g (r + 1)).2.1.n) (fun r i=>wd (cS s (r + 1) i (-1)) (nL s))
   have h24:((LW i (fun r=>(s.1.g (r + 1)).2.1.n) (fun r i=>wd (cS s (r + 1) i (-1)) (nL s))).n + 1) * 24<=140737488355328:=by omega
   have hi1:i + 1 < s.1.n:=by omega
   unfold aAi aAh
   refine (aq (decide_eq_true (dW hi1))).trans ?_
   refine (bp (aPC hs hall hi1)).trans ?_
   refine (aq (decide_eq_true h24)).trans ?_
   exact congrArg (fun q:Int=>(RQ.next (show (aa aaP).den from (LW (i + 1) (fun r=>(s.1.g (r + 1)).2.1.n) (fun r i=>wd (cS s (r + 1) i (-1)) (nL s)),(q,()))):RQ aaP atq)) (dR hi1 (by omega))
  ·unfold aAi aAh
   have:¬ (((s.1.n - 1 + 1:Nat):Int) < ((s.1.n:Nat):Int)):=by omega
   exact aR (decide_eq_false this)
 unfold M24 Q24
 exact bp key
theorem aTR (hs:(cB s).Ok) (hall:fU all=links (cB s)) {t i:Nat} (ht:t + 1 < s.1.n) {tb:cT} {rw':Sl sR.den} :
  acO (all,((),(tb,((t:Int),(rw',((i:Int),(s,()))))))) ((0:Int),((0:Int),())) = .exit 4 (((cE s t i:Nat):Int),()):=by
 have hN:=auS hall
 have hsm:=abS hs
 have h4:=eF hs
 have wt:W ((t:Int) + 1)=((t + 1:Nat):Int):=dR (n:=s.1.n) (by omega) (by omega)
 unfold acO cE
 rw [<- atO hall]
 refine bQ (ps:=xy) all.n cz (fun m=>(((abf (fun L=>!has (L.getD (t + 1) []) (i:Int)) all m:Nat):Int),((m:Int),()))) (by unfold cz; unfold nL at hN; omega) (fun m hm=>?_) ?_
 ·have ho:=aia hs (azh hall hm)
  have hg:(aW (all.g m).1).getD (t + 1) []=aV ((all.g m).1.g (t + 1)).1:=kH (by rw [ho.n]; exact ht)
  have hle:=azi (q:=fun L=>!has (L.getD (t + 1) []) (i:Int)) (all:=all) (j:=m)
  have hsu:=aoY (q:=fun L=>!has (L.getD (t + 1) []) (i:Int)) hm
  have w1:W ((m:Int) + 1)=((m + 1:Nat):Int):=dR hm (by unfold nL at hN; omega)
  have key:∀ w:Int,w=((t + 1:Nat):Int)->∀ {α:Type} (f:T3.den->α) (y z:α),(bif decide ((0:Int)<=w/\w < (((all.g m).1.n:Nat):Int)) then cl (r73).dflt (M73 (((all.g m).1.g (Int.toNat w)).1,((i:Int),()))) f y else z)=f (has (aV ((all.g m).1.g (t + 1)).1) (i:Int),()):=fun w hw α f y z=>by
   subst hw
   refine (aq (decide_eq_true (aQ (by rw [ho.n]; exact ht)))).trans ?_
   exact aK (acB ((all.g m).1.g (t + 1)).1 (by rw [ho.k _ ht]; have:=dN hs ht; omega) _)
  unfold acN acM
  refine (aq (decide_eq_true (dW hm))).trans ?_
  refine (aq (decide_eq_true (aQ hm))).trans ?_
  refine (key _ wt _ _ _).trans ?_
  rw [hg] at hsu
  cases hd:has (aV ((all.g m).1.g (t + 1)).1) (i:Int) with
  | false =>
   rw [hd,Bool.not_false,cond_true] at hsu
   refine (aq rfl).trans ?_
   have w2:W (((abf (fun L=>!has (L.getD (t + 1) []) (i:Int)) all m:Nat):Int) + 1)=((abf (fun L=>!has (L.getD (t + 1) []) (i:Int)) all (m + 1):Nat):Int):=by
    rw [hsu,gQ ⟨by omega,by unfold nL at hN; omega⟩]; rfl
   exact (congrArg (fun q:Int=>(RQ.next (show (aa xy).den from (q,(W ((m:Int) + 1),()))):RQ xy RA)) w2).trans (congrArg (fun q:Int=>(RQ.next (show (aa xy).den from (((abf (fun L=>!has (L.getD (t + 1) []) (i:Int)) all (m + 1):Nat):Int),(q,()))):RQ xy RA)) w1)
  | true =>
   rw [hd,Bool.not_true,cond_false,Nat.add_zero] at hsu
   refine (aR rfl).trans ?_
   rw [hsu]
   exact congrArg (fun q:Int=>(RQ.next (show (aa xy).den from (((abf (fun L=>!has (L.getD (t + 1) []) (i:Int)) all m:Nat):Int),(q,()))):RQ xy RA)) w1
 ·unfold acN acM
  have:¬ ((all.n:Int) < (all.n:Int)):=by omega
  exact aR (decide_eq_false this)
theorem aPD (hs:(cB s).Ok) (hall:fU all=links (cB s)) {t:Nat} (ht:t + 1 < s.1.n) {tb:cT} :
  anJ (all,((),(tb,((t:Int),(s,()))))) (e1,((0:Int),())) = .exit 2 (RH (s.1.g t).2.1.n (fun i=>wd (cE s t i) (nL s)),()):=by
 have hN:=auS hall
 have hk:=dN hs (t:=t) (by omega)
 have ht':t < s.1.n:=by omega
 unfold anJ
 refine bQ (ps:=Oy) (s.1.g t).2.1.n cz (fun j=>(RH j (fun i=>wd (cE s t i) (nL s)),((j:Int),()))) (by unfold cz; omega) (fun j hj=>?_) ?_
 ·have hn:=PD j (fun i=>wd (cE s t i) (nL s))
  have h8:((RH j (fun i=>wd (cE s t i) (nL s))).n + 1) * 8<=140737488355328:=by omega
  unfold anI anH
  refine (aq (decide_eq_true (aQ ht'))).trans ?_
  refine (aq (decide_eq_true (dW hj))).trans ?_
  refine (bp (aTR hs hall ht)).trans ?_
  have h72:=aKk (c:=cE s t j) (a:=nL s) afz
  rw [<- hN] at h72
  refine (aK h72).trans ?_
  refine (aq (decide_eq_true h8)).trans ?_
  rw [hN]
  exact congrArg (fun q:Int=>(RQ.next (show (aa Oy).den from (RH (j + 1) (fun i=>wd (cE s t i) (nL s)),(q,()))):RQ Oy ahY)) (dR hj (by omega))
 ·unfold anI anH
  refine (aq (decide_eq_true (aQ ht'))).trans ?_
  have:¬ ((((s.1.g t).2.1.n:Nat):Int) < (((s.1.g t).2.1.n:Nat):Int)):=by omega
  exact aR (decide_eq_false this)
theorem aKm (hs:(cB s).Ok) (hall:fU all=links (cB s)):M25 (no_index (s,(all,())))=some (Xg s,()):=by
 have h4:=eF hs
 have xU:0 < s.1.n:=hs.n1
 have wn:W (((s.1.n:Nat):Int) - 1)=((s.1.n - 1:Nat):Int):=by rw [gQ ⟨by omega,by omega⟩]; omega
 have lt':∀ {α:Type} (i:Int) (x y:α),(bif decide (i < W (((s.1.n:Nat):Int) - 1)) then x else y)=bif decide (i < ((s.1.n - 1:Nat):Int)) then x else y:=fun i x y=>by rw [wn]
 have key:aFh (all,((),(s,()))) (e2,((0:Int),())) = .exit 0 (Xg s,()):=by
  unfold aFh Xg
  refine bQ (ps:=aaT) (s.1.n - 1) cz (fun i=>(LW i (fun r=>(s.1.g r).2.1.n) (fun r i=>wd (cE s r i) (nL s)),((i:Int),()))) (by unfold cz; omega) (fun i hi=>?_) ?_
  ·have hn:=aa3 i (fun r=>(s.1.g r).2.1.n) (fun r i=>wd (cE s r i) (nL s))
   have h24:((LW i (fun r=>(s.1.g r).2.1.n) (fun r i=>wd (cE s r i) (nL s))).n + 1) * 24<=140737488355328:=by omega
   unfold aAl aAk
   refine (lt' _ _ _).trans ?_
   refine (aq (decide_eq_true (dW hi))).trans ?_
   refine (bp (aPD hs hall (t:=i) (by omega))).trans ?_
   refine (aq (decide_eq_true h24)).trans ?_
   exact congrArg (fun q:Int=>(RQ.next (show (aa aaT).den from (LW (i + 1) (fun r=>(s.1.g r).2.1.n) (fun r i=>wd (cE s r i) (nL s)),(q,()))):RQ aaT atr)) (dR hi (by omega))
  ·unfold aAl aAk
   refine (lt' _ _ _).trans ?_
   have:¬ (((s.1.n - 1:Nat):Int) < ((s.1.n - 1:Nat):Int)):=by omega
   exact aR (decide_eq_false this)
 unfold M25 Q25
 exact bp key
def auT (a b:Sl sR.den):Bool:=decide (((a.n:Nat):Int)=((b.n:Nat):Int)) && (List.range a.n).all fun j=>decide ((show Int from (a.g j).1)=(show Int from (b.g j).1))
def aFE (a b:cT):Bool:=decide (((a.n:Nat):Int)=((b.n:Nat):Int)) && (List.range a.n).all fun i=>auT (a.g i).1 (b.g i).1
theorem aTS {a b:cT} {i:Nat} (ha:i < a.n) (hb:i < b.n) (hn:(a.g i).1.n=(b.g i).1.n) (hk:(a.g i).1.n<=1000) :
  vK (a,(b,((i:Int),()))) ((0:Int),())=bif (List.range (a.g i).1.n).all (fun j=>decide ((show Int from ((a.g i).1.g j).1)=(show Int from ((b.g i).1.g j).1))) then .exit 2 () else LQ.ret (wy:=qF) (show (aa qF.ret).den from (false,())):=by
 unfold vK
 refine dX (ps:=fR) (n:=(a.g i).1.n) (f:=fun j=>((j:Int),())) (by unfold cz; omega) (fun j hj _=>?_) (fun _=>?_)
 ·unfold AV AU
  refine (aq (decide_eq_true (aQ ha))).trans ?_
  refine (aq (decide_eq_true (dW hj))).trans ?_
  refine (aq (decide_eq_true (aQ ha))).trans ?_
  refine (aq (decide_eq_true (aQ hj))).trans ?_
  refine (aq (decide_eq_true (aQ hb))).trans ?_
  refine (aq (decide_eq_true (aQ (n:=(b.g i).1.n) (by rw [<- hn]; exact hj)))).trans ?_
  cases hd:decide ((show Int from ((a.g i).1.g j).1)=(show Int from ((b.g i).1.g j).1)) with
  | true =>
   refine (aR (show (!decide ((show Int from ((a.g i).1.g j).1)=(show Int from ((b.g i).1.g j).1)))=false by rw [hd]; rfl)).trans ?_
   exact congrArg (fun q:Int=>(RQ.next (show (aa fR).den from (q,())):RQ fR qF)) (dR hj (by omega))
  | false=>exact aq (show (!decide ((show Int from ((a.g i).1.g j).1)=(show Int from ((b.g i).1.g j).1)))=true by rw [hd]; rfl)
 ·unfold AV AU
  refine (aq (decide_eq_true (aQ ha))).trans ?_
  have:¬ ((((a.g i).1.n:Nat):Int) < (((a.g i).1.n:Nat):Int)):=by omega
  exact aR (decide_eq_false this)
theorem aWt {a b:cT} (hn:a.n<=1000) (hk:∀ i,i < a.n->(a.g i).1.n<=1000):VN (no_index (a,(b,())))=some (aFE a b,()):=by
 unfold VN Q23 aFE
 by_cases hl:((a.n:Nat):Int)=((b.n:Nat):Int)
 ·refine (aR (show (!decide (((a.n:Nat):Int)=((b.n:Nat):Int)))=false by rw [decide_eq_true hl]; rfl)).trans ?_
  rw [decide_eq_true hl,Bool.true_and]
  have key:PR (a,(b,())) ((0:Int),())=bif (List.range a.n).all (fun i=>auT (a.g i).1 (b.g i).1) then .exit 0 () else LQ.ret (wy:=Az) (show (aa Az.ret).den from (false,())):=by
   unfold PR
   refine dX (ps:=lz) (n:=a.n) (f:=fun j=>((j:Int),())) (by unfold cz; omega) (fun j hj _=>?_) (fun _=>?_)
   ·have hj':j < b.n:=by omega
    have Ew:(RQ.next (show (aa lz).den from (W ((j:Int) + 1),())):RQ lz Az) = .next (((j + 1:Nat):Int),()):=by rw [dR hj (by omega)]
    unfold PO PN
    refine (aq (decide_eq_true (dW hj))).trans ?_
    refine (aq (decide_eq_true (aQ hj))).trans ?_
    refine (aq (decide_eq_true (aQ hj'))).trans ?_
    show _=bif auT (a.g j).1 (b.g j).1 then _ else _
    unfold auT
    by_cases hr:(((a.g j).1.n:Nat):Int)=(((b.g j).1.n:Nat):Int)
    ·refine (aR (show (!decide ((((a.g j).1.n:Nat):Int)=(((b.g j).1.n:Nat):Int)))=false by rw [decide_eq_true hr]; rfl)).trans ?_
     rw [decide_eq_true hr,Bool.true_and]
     have hin:=aTS hj hj' (by omega) (hk j hj)
     revert hin
     cases (List.range (a.g j).1.n).all (fun x=>decide ((show Int from ((a.g j).1.g x).1)=(show Int from ((b.g j).1.g x).1))) with
     | true=>intro hin; exact (bp hin).trans Ew
     | false=>intro hin; exact (congrArg (fun o=>aF o 2 _ (bS o _ _)) hin).trans rfl
    ·refine (aq (show (!decide ((((a.g j).1.n:Nat):Int)=(((b.g j).1.n:Nat):Int)))=true by rw [decide_eq_false hr]; rfl)).trans ?_
     rw [decide_eq_false hr,Bool.false_and]; rfl
   ·unfold PO PN
    have:¬ ((a.n:Int) < (a.n:Int)):=by omega
    exact aR (decide_eq_false this)
  revert key
  cases (List.range a.n).all (fun i=>auT (a.g i).1 (b.g i).1) with
  | true=>intro key; exact (bp key).trans rfl
  | false=>intro key; exact (congrArg (fun o=>aF o 0 _ (bS o _ _)) key).trans rfl
 ·refine (aq (show (!decide (((a.n:Nat):Int)=((b.n:Nat):Int)))=true by rw [decide_eq_false hl]; rfl)).trans ?_
  rw [decide_eq_false hl]; rfl
theorem aEb (a:cT):aFE a a=true:=by
 unfold aFE auT
 rw [decide_eq_true rfl,Bool.true_and]
 exact JL fun i _=>by rw [decide_eq_true rfl,Bool.true_and]; exact JL fun j _=>decide_eq_true rfl
end Go.Dm

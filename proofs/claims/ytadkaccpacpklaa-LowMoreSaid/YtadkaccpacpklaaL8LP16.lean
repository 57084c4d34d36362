/- What is known: words. -/
import Derived.Test.YtadkaccpacpklaaL8LP15
set_option linter.unusedVariables false
set_option linter.unusedSimpArgs false
namespace Go.Dm
set_option maxRecDepth 100000
open Go.Low
variable {s:tS.den}
def Jc (s:tS.den) (b:Bool):Int:=bif Io s && b then (bif Dg s then 0 else 7) else 2
theorem auP (hn:s.1.n<=1000) (hk:∀ t,t < s.1.n->(s.1.g t).2.1.n<=1000) (b:Bool):Sh (no_index (s,(b,())))=some (Jc s b,()):=by
 unfold Sh Q63 Jc
 refine (aK (Us hn hk)).trans ?_
 cases ho:Io s with
 | false=>exact aq rfl
 | true =>
  refine (aR rfl).trans ?_
  cases b with
  | false=>exact aq rfl
  | true =>
   refine (aR rfl).trans ?_
   refine (aK (aiR (qP ho))).trans ?_
   show (bif !Dg s then _ else _)=_
   cases Dg s <;> rfl
def wd (c a:Nat):Int:=bif decide (((c:Nat):Int)=(0:Int)) then 1 else bif decide (((c:Nat):Int)=((a:Nat):Int)) then 3 else 2
theorem aQw (c a:Nat):M66 (no_index (((c:Nat):Int),(((a:Nat):Int),())))=some (wd c a,()):=by
 show (bif decide (((c:Nat):Int)=(0:Int)) then some ((1:Int),()) else bif decide (((c:Nat):Int)=((a:Nat):Int)) then some ((3:Int),()) else some ((2:Int),()))=_
 unfold wd
 cases decide (((c:Nat):Int)=(0:Int)) <;> cases decide (((c:Nat):Int)=((a:Nat):Int)) <;> rfl
def e1:Sl sR.den:=⟨0,fun i=>((0:Int),())⟩
def e2:cT:=⟨0,fun i=>((⟨0,fun i=>((0:Int),())⟩:Sl _),())⟩
def RH (C:Nat) (w:Nat->Int):Sl sR.den:=tab e1 (fun j=>(w j,())) C
def LW (R:Nat) (C:Nat->Nat) (w:Nat->Nat->Int):cT:=tab e2 (fun i=>(RH (C i) (w i),())) R
theorem PD (C:Nat) (w:Nat->Int):(RH C w).n=C:=aoU rfl
theorem aoV {C:Nat} {w:Nat->Int} {j:Nat} (h:j < C):(RH C w).g j=(w j,()):=aze (s0:=e1) rfl h
theorem aa3 (R:Nat) (C:Nat->Nat) (w:Nat->Nat->Int):(LW R C w).n=R:=aoU rfl
theorem aoW {R:Nat} {C:Nat->Nat} {w:Nat->Nat->Int} {i:Nat} (h:i < R):(LW R C w).g i=(RH (C i) (w i),()):=aze (s0:=e2) rfl h
theorem aoX {α:Type} {s0:Sl α} {y z:Nat->α}:∀ {n:Nat},(∀ i,i < n->y i=z i)->tab s0 y n=tab s0 z n
 | 0,_=>rfl
 | n + 1,h=>by rw [tab,tab,aoX fun i hi=>h i (by omega),h n (by omega)]
theorem ala {R:Nat} {C C':Nat->Nat} {w w':Nat->Nat->Int} (hC:∀ i,i < R->C i=C' i) (h:∀ i,i < R->∀ j,j < C i->w i j=w' i j):LW R C w=LW R C' w':=
 aoX fun i hi=>by
  rw [<- hC i hi]
  exact congrArg (fun r:Sl sR.den=>(r,())) (aoX fun j hj=>by rw [h i hi j hj])
def cS (s:tS.den) (t i:Nat) (b:Int):Nat:=(links (cB s)).countP fun L=>decide (qR L t i=b)
def nL (s:tS.den):Nat:=(links (cB s)).length
def cF (s:tS.den) (f:Fact):Nat:=cnt f ((links (cB s)).flatMap (facts s.1.n fun t=>(s.1.g t).2.1.n))
theorem aPt {t i b:Nat} (h0:0 < t) (ht:t < s.1.n) (hi:i < (s.1.g t).2.1.n):cF s ((0:Int),((t:Int),((i:Int),((b:Int),()))))=cS s t i (b:Int):=by
 unfold cF cS
 exact an2 fun L _=>by rw [aoS (k:=fun t=>(s.1.g t).2.1.n) ht hi,aKi h0 (by omega)]
theorem aPu (hs:(cB s).Ok) {t i:Nat} (h0:0 < t) (ht:t < s.1.n) (hi:i < (s.1.g t).2.1.n):cF s ((1:Int),((t:Int),((i:Int),((0:Int),()))))=cS s t i (-1):=by
 unfold cF cS
 refine an2 fun L hL=>?_
 obtain ⟨t0,rfl⟩:∃ u,t=u + 1:=⟨t - 1,by omega⟩
 have h:=((tX hs).1 hL).afg (t:=t0) (i:=i) ht hi
 rw [aoS (k:=fun t=>(s.1.g t).2.1.n) ht hi,aKj h0 (h.imp id fun h=>h.1)]
theorem aTE {m:afP} {a:Nat} (hm:∀ f,vM m f=((cF s f:Nat):Int)) {t i K:Nat} (hK:K<=3) {c5:Int} {c6:cT} {c7:Int} :
  zE (((t + 1:Nat):Int),((),(m,(((a:Nat):Int),(c6,((i:Int),(c5,(c7,(((K:Nat):Int),(s,())))))))))) (e1,((0:Int),())) =
   .exit 2 (RH K (fun j=>wd (cF s ((0:Int),(((t + 1:Nat):Int),((i:Int),((j:Int),()))))) a),()):=by
 unfold zE
 refine bQ (ps:=fP) K cz (fun j=>(RH j (fun j=>wd (cF s ((0:Int),(((t + 1:Nat):Int),((i:Int),((j:Int),()))))) a),((j:Int),()))) (by unfold cz; omega) (fun j hj=>?_) ?_
 ·unfold AR AQ
  have hn:=PD j (fun j=>wd (cF s ((0:Int),(((t + 1:Nat):Int),((i:Int),((j:Int),()))))) a)
  have h8:((RH j (fun j=>wd (cF s ((0:Int),(((t + 1:Nat):Int),((i:Int),((j:Int),()))))) a)).n + 1) * 8<=140737488355328:=by omega
  refine (aq (decide_eq_true (dW hj))).trans ?_
  have h66:=aQw (cF s ((0:Int),(((t + 1:Nat):Int),((i:Int),((j:Int),()))))) a
  rw [<- hm] at h66
  refine (aK h66).trans ?_
  refine (aq (decide_eq_true h8)).trans ?_
  exact congrArg (fun q:Int=>(RQ.next (show (aa fP).den from (RH (j + 1) (fun j=>wd (cF s ((0:Int),(((t + 1:Nat):Int),((i:Int),((j:Int),()))))) a),(q,()))):RQ fP sI)) (dR hj (by omega))
 ·unfold AR AQ
  have:¬ (((K:Nat):Int) < ((K:Nat):Int)):=by omega
  exact aR (decide_eq_false this)
theorem aWr (hs:(cB s).Ok) {m:afP} {a:Nat} (hm:∀ f,vM m f=((cF s f:Nat):Int)) {t:Nat} (ht:t + 1 < s.1.n) :
  Xj (((t + 1:Nat):Int),((),(m,(((a:Nat):Int),((((s.1.g (t + 1)).2.1.n:Nat):Int),(s,())))))) (e2,((0:Int),())) =
   .exit 0 (LW (s.1.g (t + 1)).2.1.n (fun _=>(s.1.g t).2.1.n) (fun i j=>wd (cF s ((0:Int),(((t + 1:Nat):Int),((i:Int),((j:Int),()))))) a),()):=by
 have h4:=eF hs
 have hk:=dN hs ht
 have Ml:=dN hs (t:=t) (by omega)
 have wp:=wo (n:=s.1.n) (by omega) ht
 unfold Xj
 refine bQ (ps:=lp) (s.1.g (t + 1)).2.1.n cz (fun i=>(LW i (fun _=>(s.1.g t).2.1.n) (fun i j=>wd (cF s ((0:Int),(((t + 1:Nat):Int),((i:Int),((j:Int),()))))) a),((i:Int),()))) (by unfold cz; omega) (fun i hi=>?_) ?_
 ·have hn:=aa3 i (fun _=>(s.1.g t).2.1.n) (fun i j=>wd (cF s ((0:Int),(((t + 1:Nat):Int),((i:Int),((j:Int),()))))) a)
  have h24:((LW i (fun _=>(s.1.g t).2.1.n) (fun i j=>wd (cF s ((0:Int),(((t + 1:Nat):Int),((i:Int),((j:Int),()))))) a)).n + 1) * 24<=140737488355328:=by omega
  unfold PK PJ
  refine (aq (decide_eq_true (dW hi))).trans ?_
  have key:∀ w:Int,w=(t:Int)->∀ {α:Type} (f:Int->α) (y:α),(bif decide ((0:Int)<=w/\w < ((s.1.n:Nat):Int)) then f (((s.1.g (Int.toNat w)).2.1.n:Nat):Int) else y)=f (((s.1.g t).2.1.n:Nat):Int):=fun w hw α f y=>by subst hw; exact aq (decide_eq_true (aQ (by omega)))
  refine (key _ wp (fun q=>aF (zE (((t + 1:Nat):Int),((),(m,(((a:Nat):Int),(LW i (fun _=>(s.1.g t).2.1.n) (fun i j=>wd (cF s ((0:Int),(((t + 1:Nat):Int),((i:Int),((j:Int),()))))) a),((i:Int),((((s.1.g (t + 1)).2.1.n:Nat):Int),((i:Int),(q,(s,())))))))))) (e1,((0:Int),()))) 2 _ _) _).trans ?_
  refine (bp (aTE hm Ml)).trans ?_
  refine (aq (decide_eq_true h24)).trans ?_
  exact congrArg (fun q:Int=>(RQ.next (show (aa lp).den from (LW (i + 1) (fun _=>(s.1.g t).2.1.n) (fun i j=>wd (cF s ((0:Int),(((t + 1:Nat):Int),((i:Int),((j:Int),()))))) a),(q,()))):RQ lp CD)) (dR hi (by omega))
 ·unfold PK PJ
  have:¬ ((((s.1.g (t + 1)).2.1.n:Nat):Int) < (((s.1.g (t + 1)).2.1.n:Nat):Int)):=by omega
  exact aR (decide_eq_false this)
def Cl (s:tS.den) (t:Nat):cT:=LW (s.1.g (t + 1)).2.1.n (fun _=>(s.1.g t).2.1.n) (fun i j=>wd (cS s (t + 1) i (j:Int)) (nL s))
theorem aFx (ho:Io s=true) (hn:s.1.n<=1000) (hk:∀ t,t < s.1.n->(s.1.g t).2.1.n<=1000) (ha:Dg s=true) {t:Nat} (ht:t + 1 < s.1.n):XV (no_index (s,(((t + 1:Nat):Int),())))=some (Cl s t,((0:Int),())):=by
 have hs:=qP ho
 have h4:=eF hs
 obtain ⟨m,h65,hm⟩:=aQv hs
 have wn:W (((s.1.n:Nat):Int) - 1)=((s.1.n - 1:Nat):Int):=by rw [gQ ⟨by omega,by omega⟩]; omega
 have h64:Kk (((t + 1:Nat):Int),((1:Int),(W (((s.1.n:Nat):Int) - 1),())))=some (true,()):=by
  refine (zk _ _ _).trans ?_
  have:oV ((t + 1:Nat):Int) 1 (W (((s.1.n:Nat):Int) - 1))=true:=by
   unfold oV
   rw [Bool.and_eq_true,wn]
   exact ⟨decide_eq_true (by omega),decide_eq_true (by omega)⟩
  rw [this]
 have h63:=auP hn hk true
 have e0:Jc s true=0:=by unfold Jc; rw [ho,ha]; rfl
 rw [e0] at h63
 unfold XV Q18
 refine (aK h64).trans ?_
 refine (aK h63).trans ?_
 refine (aR rfl).trans ?_
 refine (aK h65).trans ?_
 refine (aq (decide_eq_true (aQ ht))).trans ?_
 refine (bp (aWr hs (a:=nL s) hm ht)).trans ?_
 refine congrArg (fun z:cT=>some (z,((0:Int),()))) ?_
 exact ala (fun _ _=>rfl) fun i hi j hj=>by rw [aPt (by omega) ht hi]
theorem aTF {m:afP} {a:Nat} (hm:∀ f,vM m f=((cF s f:Nat):Int)) {what:Int} {fr r K:Nat} (hK:K<=3) (hr:fr + r<=100) {c6:cT} {c8 c9:Int} :
  zG (what,((fr:Int),((),(m,(((a:Nat):Int),(c6,((r:Int),(c8,(c9,(((K:Nat):Int),(s,()))))))))))) (e1,((0:Int),())) =
   .exit 2 (RH K (fun j=>wd (cF s (what,(((fr + r:Nat):Int),((j:Int),((0:Int),()))))) a),()):=by
 have wr:W ((fr:Int) + (r:Int))=((fr + r:Nat):Int):=by rw [gQ ⟨by omega,by omega⟩]; omega
 unfold zG
 refine bQ (ps:=fQ) K cz (fun j=>(RH j (fun j=>wd (cF s (what,(((fr + r:Nat):Int),((j:Int),((0:Int),()))))) a),((j:Int),()))) (by unfold cz; omega) (fun j hj=>?_) ?_
 ·unfold AT AS
  have hn:=PD j (fun j=>wd (cF s (what,(((fr + r:Nat):Int),((j:Int),((0:Int),()))))) a)
  have h8:((RH j (fun j=>wd (cF s (what,(((fr + r:Nat):Int),((j:Int),((0:Int),()))))) a)).n + 1) * 8<=140737488355328:=by omega
  refine (aq (decide_eq_true (dW hj))).trans ?_
  have h66:=aQw (cF s (what,(((fr + r:Nat):Int),((j:Int),((0:Int),()))))) a
  rw [<- hm,<- wr] at h66
  refine (aK h66).trans ?_
  refine (aq (decide_eq_true h8)).trans ?_
  rw [wr]
  exact congrArg (fun q:Int=>(RQ.next (show (aa fQ).den from (RH (j + 1) (fun j=>wd (cF s (what,(((fr + r:Nat):Int),((j:Int),((0:Int),()))))) a),(q,()))):RQ fQ sJ)) (dR hj (by omega))
 ·unfold AT AS
  have:¬ (((K:Nat):Int) < ((K:Nat):Int)):=by omega
  exact aR (decide_eq_false this)
theorem aWs (hs:(cB s).Ok) {m:afP} {a:Nat} (hm:∀ f,vM m f=((cF s f:Nat):Int)) {what:Int} {fr:Nat} (hf:fr<=1) :
  Xk (what,((fr:Int),((),(m,(((a:Nat):Int),(((s.1.n - 1:Nat):Int),(s,()))))))) (e2,((0:Int),())) =
   .exit 0 (LW (s.1.n - 1) (fun r=>(s.1.g (fr + r)).2.1.n) (fun r j=>wd (cF s (what,(((fr + r:Nat):Int),((j:Int),((0:Int),()))))) a),()):=by
 have h4:=eF hs
 unfold Xk
 refine bQ (ps:=lq) (s.1.n - 1) cz (fun i=>(LW i (fun r=>(s.1.g (fr + r)).2.1.n) (fun r j=>wd (cF s (what,(((fr + r:Nat):Int),((j:Int),((0:Int),()))))) a),((i:Int),()))) (by unfold cz; omega) (fun i hi=>?_) ?_
 ·have hn:=aa3 i (fun r=>(s.1.g (fr + r)).2.1.n) (fun r j=>wd (cF s (what,(((fr + r:Nat):Int),((j:Int),((0:Int),()))))) a)
  have h24:((LW i (fun r=>(s.1.g (fr + r)).2.1.n) (fun r j=>wd (cF s (what,(((fr + r:Nat):Int),((j:Int),((0:Int),()))))) a)).n + 1) * 24<=140737488355328:=by omega
  have hk:=dN hs (t:=fr + i) (by omega)
  have wr:W ((fr:Int) + (i:Int))=((fr + i:Nat):Int):=by rw [gQ ⟨by omega,by omega⟩]; omega
  unfold PM PL
  refine (aq (decide_eq_true (dW hi))).trans ?_
  have key:∀ w:Int,w=((fr + i:Nat):Int)->∀ {α:Type} (f:Int->α) (y:α),(bif decide ((0:Int)<=w/\w < ((s.1.n:Nat):Int)) then f (((s.1.g (Int.toNat w)).2.1.n:Nat):Int) else y)=f (((s.1.g (fr + i)).2.1.n:Nat):Int):=fun w hw α f y=>by subst hw; exact aq (decide_eq_true (aQ (by omega)))
  refine (key _ wr (fun q=>aF (zG (what,((fr:Int),((),(m,(((a:Nat):Int),(LW i (fun r=>(s.1.g (fr + r)).2.1.n) (fun r j=>wd (cF s (what,(((fr + r:Nat):Int),((j:Int),((0:Int),()))))) a),((i:Int),(((s.1.n - 1:Nat):Int),((i:Int),(q,(s,()))))))))))) (e1,((0:Int),()))) 2 _ _) _).trans ?_
  refine (bp (aTF hm hk (by omega))).trans ?_
  refine (aq (decide_eq_true h24)).trans ?_
  exact congrArg (fun q:Int=>(RQ.next (show (aa lq).den from (LW (i + 1) (fun r=>(s.1.g (fr + r)).2.1.n) (fun r j=>wd (cF s (what,(((fr + r:Nat):Int),((j:Int),((0:Int),()))))) a),(q,()))):RQ lq CF)) (dR hi (by omega))
 ·unfold PM PL
  have:¬ (((s.1.n - 1:Nat):Int) < ((s.1.n - 1:Nat):Int)):=by omega
  exact aR (decide_eq_false this)
theorem aQx (ho:Io s=true) (hn:s.1.n<=1000) (hk:∀ t,t < s.1.n->(s.1.g t).2.1.n<=1000) (ha:Dg s=true) {what to:Int} {fr:Nat} (hf:fr<=1) (hto:W (W (to - (fr:Int)) + 1)=((s.1.n - 1:Nat):Int)) :
  M67 (no_index (s,(what,((fr:Int),(to,())))))=some (LW (s.1.n - 1) (fun r=>(s.1.g (fr + r)).2.1.n) (fun r j=>wd (cF s (what,(((fr + r:Nat):Int),((j:Int),((0:Int),()))))) (nL s)),((0:Int),())):=by
 have hs:=qP ho
 obtain ⟨m,h65,hm⟩:=aQv hs
 have h63:=auP hn hk true
 have e0:Jc s true=0:=by unfold Jc; rw [ho,ha]; rfl
 rw [e0] at h63
 unfold M67 Q67
 refine (aK h63).trans ?_
 refine (aR rfl).trans ?_
 refine (aK h65).trans ?_
 have hL:=aWs hs (a:=nL s) hm (what:=what) hf
 rw [<- hto] at hL
 exact bp hL
theorem aFy (hn:s.1.n<=1000) (hk:∀ t,t < s.1.n->(s.1.g t).2.1.n<=1000) (x:T2.den) (h:Jc s true≠0):M67 (no_index (s,x))=some (e2,(Jc s true,())):=by
 unfold M67 Q67
 refine (aK (auP hn hk _)).trans ?_
 have:(!decide (Jc s true=0))=true:=by rw [decide_eq_false h]; rfl
 exact aq this
def Kt (s:tS.den):cT:=LW (s.1.n - 1) (fun r=>(s.1.g (r + 1)).2.1.n) (fun r i=>wd (cS s (r + 1) i (-1)) (nL s))
theorem aAB (ho:Io s=true) (hn:s.1.n<=1000) (hk:∀ t,t < s.1.n->(s.1.g t).2.1.n<=1000) (ha:Dg s=true):M19 (no_index (s,()))=some (Kt s,((0:Int),())):=by
 have hs:=qP ho
 have xU:0 < s.1.n:=hs.n1
 have wn:W (((s.1.n:Nat):Int) - 1)=((s.1.n - 1:Nat):Int):=by rw [gQ ⟨by omega,by omega⟩]; omega
 have h:=aQx ho hn hk ha (what:=1) (to:=W (((s.1.n:Nat):Int) - 1)) (fr:=1) (Nat.le_refl _) (by
  rw [wn,gQ (n:=((s.1.n - 1:Nat):Int) - ((1:Nat):Int)) ⟨by omega,by omega⟩,gQ ⟨by omega,by omega⟩]; omega)
 unfold M19 Q19
 refine (aK h).trans ?_
 refine congrArg (fun z:cT=>some (z,((0:Int),()))) ?_
 exact ala (fun r _=>by show (s.1.g (1 + r)).2.1.n=(s.1.g (r + 1)).2.1.n; rw [Nat.add_comm]) fun r hr i hi=>by
  rw [Nat.add_comm 1 r] at hi ⊢
  rw [aPu hs (by omega) (by omega) hi]
theorem aqa (hn:s.1.n<=1000) (hk:∀ t,t < s.1.n->(s.1.g t).2.1.n<=1000) (h:Jc s true≠0):M19 (no_index (s,()))=some (e2,(Jc s true,())):=by
 unfold M19 Q19
 exact (aK (aFy hn hk _ h)).trans rfl
end Go.Dm

/- Orders that extend others; how a search goes. -/
import Derived.Test.YtgkaoimndglnoaaGreatL3TW3
set_option linter.unusedVariables false
set_option linter.unusedSimpArgs false
namespace Go.Dm.Wat
set_option maxRecDepth 100000
abbrev iT:Type:=bI×Int×Unit
def xk (o p:bI):Prop:=o.n<=p.n/\∀ j,j < o.n->p.g j=o.g j
def HZ (o p:bI):Prop:=o.n=p.n/\∀ j,j < o.n->p.g j=o.g j
theorem HZ.ext {o p:bI} (h:HZ o p):xk o p:=⟨by have:=h.1; omega,h.2⟩
theorem HZ.symm {o p:bI} (h:HZ o p):HZ p o:=⟨h.1.symm,fun j hj=>(h.2 j (by have:=h.1; omega)).symm⟩
theorem xk.trans {o p q:bI} (h:xk o p) (h':xk p q):xk o q:=⟨Nat.le_trans h.1 h'.1,fun j hj=>(h'.2 j (Nat.lt_of_lt_of_le hj h.1)).trans (h.2 j hj)⟩
theorem HZ.trans {o p q:bI} (h:HZ o p) (h':HZ p q):HZ o q:=⟨h.1.trans h'.1,fun j hj=>(h'.2 j (by have:=h.1; omega)).trans (h.2 j hj)⟩
theorem xk.vk {o p:bI} (h:xk o p) {j:Nat} (hj:j < o.n):vk p j=vk o j:=by
 unfold Go.Dm.Wat.vk
 exact all_congr j fun k hk _=>by rw [h.2 j hj,h.2 k (by omega)]
theorem xk.yl {r:dx} {o p:bI} (h:xk o p) {j:Nat} (hj:j < o.n):yl r p j=yl r o j:=by
 unfold Go.Dm.Wat.yl
 rw [h.vk hj,h.2 j hj]
theorem xk.order {r:dx} {o p:bI} (h:xk o p) (hp:bL r p=true):bL r o=true:=
 xd fun j hj=>by rw [<- h.yl hj]; exact iR hp (Nat.lt_of_lt_of_le hj h.1)
theorem xk.KX {o p:bI} (h:xk o p):∀ {j:Nat},j<=o.n->KX p j=KX o j
 | 0,_=>rfl
 | j + 1,hj=>by rw [acN,acN,h.2 j (by omega)]
theorem xk.road {r:dx} {o p:bI} (h:xk o p) {j:Nat} (hj:j < o.n):road r p j=road r o j:=by
 unfold Go.Dm.Wat.road
 rw [h.KX (by omega),h.2 j hj]
theorem xk.st {r:dx} {o p:bI} (h:xk o p) {l l':Nat->Int} (hl:∀ j,j < o.n->l j=l' j):∀ {j:Nat},j<=o.n->st r p l j=st r o l' j
 | 0,_=>rfl
 | j + 1,hj=>by rw [Go.Dm.Wat.st,Go.Dm.Wat.st,h.st hl (by omega),hl j (by omega),h.2 j (by omega)]
theorem xk.hi {r:dx} {o p:bI} (h:xk o p) {j:Nat} (hj:j < o.n):gX r p j=gX r o j:=by
 unfold gX; rw [h.road hj]
theorem xk.late {r:dx} {o p:bI} (h:xk o p) {j:Nat} (hj:j < o.n):rZ r p j=rZ r o j:=by
 unfold rZ arr
 rw [h.2 j hj,h.st (fun i hi=>h.hi hi) (Nat.le_of_lt hj),h.hi hj]
theorem xk.sure {r:dx} {o p:bI} (h:xk o p) (hp:iS r p=true):iS r o=true:=
 xd fun j hj=>by rw [<- h.late hj]; exact iR hp (Nat.lt_of_lt_of_le hj h.1)
def CW (r:dx) (o:bI):Int:=st r o (gX r o) o.n
theorem HZ.order {r:dx} {o p:bI} (h:HZ o p):bL r p=bL r o:=by
 cases e:bL r o with
 | true=>exact h.symm.ext.order e
 | false =>
  cases e':bL r p with
  | false=>rfl
  | true=>rw [h.ext.order e'] at e; cases e
theorem HZ.sure {r:dx} {o p:bI} (h:HZ o p):iS r p=iS r o:=by
 cases e:iS r o with
 | true=>exact h.symm.ext.sure e
 | false =>
  cases e':iS r p with
  | false=>rfl
  | true=>rw [h.ext.sure e'] at e; cases e
theorem HZ.CW {r:dx} {o p:bI} (h:HZ o p):CW r p=CW r o:=by
 unfold Go.Dm.Wat.CW
 rw [<- h.1]
 exact h.ext.st (fun i hi=>h.ext.hi hi) (Nat.le_refl _)
theorem alg (o:bI) (h:o.n<=10):∃ o',R53 (no_index (o,()))=some o'/\HZ o o':=by
 have h8:o.n * 8<=140737488355328:=by omega
 unfold R53 X53
 simp only [h8,decide_true,cond_true]
 cases hb:Nat.blt 0 o.n with
 | true=>exact ⟨o,rfl,rfl,fun _ _=>rfl⟩
 | false =>
  have h0:o.n=0:=by
   cases e:o.n with
   | zero=>rfl
   | succ n=>rw [e] at hb; cases hb
  refine ⟨⟨0,fun _=>Ty.dflt T0⟩,?_,h0,fun j hj=>by omega⟩
  have ha:WI 3 T0 (some (⟨3,T0,o⟩:FR))=some (o:Sl (Ty.den T0)):=rfl
  have hb':WI 3 T0 (some (⟨3,T0,(⟨0,fun i=>((0:Int),())⟩:Sl (Ty.den T0))⟩:FR))=some (⟨0,fun i=>((0:Int),())⟩:Sl (Ty.den T0)):=rfl
  simp only [cond_false]
  rw [ha,hb']
  show (bif Nat.beq 0 0 && Nat.beq o.n 0 then _ else _)=_
  rw [h0]; rfl
def Ph:Nat->Nat
 | 0=>0
 | f + 1=>1 + 6 * Ph f
def sIn (o:bI) (r:dx) (all:Sl iT):(aa dR).den:=(o,((),((),((),(r,((all,()),(((),()),())))))))
def aid (r:dx) (all:Sl iT):GO xj (aD dR):=.ok () (r,((all,()),(((),()),())))
def Good (r:dx) (p:iT):Prop:=bL r p.1=true/\iS r p.1=true/\p.2.1=CW r p.1
structure ym (r:dx) (all all':Sl iT):Prop where
 le:all.n<=all'.n
 old:∀ j,j < all.n->all'.g j=all.g j
 new:∀ j,all.n<=j->j < all'.n->Good r (all'.g j)
theorem ym.rfl {r:dx} {a:Sl iT}:ym r a a:=⟨Nat.le_refl _,fun _ _=>Eq.refl _,fun j h h'=>by omega⟩
theorem ym.trans {r:dx} {a b c:Sl iT} (h:ym r a b) (h':ym r b c):ym r a c:=
 ⟨Nat.le_trans h.le h'.le,fun j hj=>(h'.old j (Nat.lt_of_lt_of_le hj h.le)).trans (h.old j hj),fun j h1 h2=>by
  by_cases e:j < b.n
  ·rw [h'.old j e]; exact h.new j h1 e
  ·exact h'.new j (by omega) h2⟩
def Has (all:Sl iT) (p:bI):Prop:=∃ j,j < all.n/\HZ (all.g j).1 p
theorem Has.grow {r:dx} {a b:Sl iT} {p:bI} (h:Has a p) (g:ym r a b):Has b p:=by
 obtain ⟨j,h1,h2⟩:=h
 exact ⟨j,Nat.lt_of_lt_of_le h1 g.le,by rw [g.old j h1]; exact h2⟩
def aCI (r:dx) (f:Nat) (F:(aa dR).den->GO xj (aD dR)):Prop:=
 ∀ (o:bI) (all:Sl iT),bL r o=true->r.2.1.n < f + o.n->all.n + Ph f<=2147483648 ->
  ∃ all',F (sIn o r all)=aid r all'/\all'.n<=all.n + Ph f/\ym r all all'/\∀ p,xk o p->bL r p=true->iS r p=true->Has all' p
theorem aie {c:Nat->Bool} {n:Nat} (h:(List.range n).any c=true):∃ k,k < n/\c k=true:=by
 obtain ⟨k,h1,h2⟩:=List.any_eq_true.1 h
 exact ⟨k,by simpa using h1,h2⟩
theorem att {c:Nat->Bool} {n:Nat} (h:(List.range n).any c=false) {k:Nat} (hk:k < n):c k=false:=by
 cases e:c k with
 | false=>rfl
 | true =>
  have:(List.range n).any c=true:=List.any_eq_true.2 ⟨k,by simpa using hk,e⟩
  rw [this] at h; cases h
structure Mid (r:dx) (o:bI) (a1:Sl iT) (f:Nat) (j:Nat) (a:Sl iT):Prop where
 gr:ym r a1 a
 sz:a.n<=a1.n + j * Ph f
 hv:∀ p,xk o p->bL r p=true->iS r p=true->o.n < p.n->(p.g o.n).1 < (j:Int)->Has a p
theorem AH {r:dx} (hr:bQ r=true):1<=r.2.1.n/\r.2.1.n<=6:=by
 simp only [bQ,Bool.and_eq_true] at hr
 have:=rW hr.2.1
 omega
theorem KL {r:dx} (hr:bQ r=true) {f:Nat} {F:(aa dR).den->GO xj (aD dR)} (hF:aCI r f F) {o:bI} (ho:bL r o=true) (hf:r.2.1.n < f + 1 + o.n) (a1:Sl iT) (hs:a1.n + 6 * Ph f<=2147483648) :
  ∃ a,Re F (no_index (o,((),((),((),(((r.2.1.n:Nat):Int),())))))) (no_index ((0:Int),(r,((a1,()),(((),()),()))))) = .exit 0 (r,((a,()),(((),()),())))/\Mid r o a1 f r.2.1.n a:=by
 have hm:=AH hr
 have hon:=kM ho (by omega)
 unfold Re
 have:=Ex (ps:=lD) (wy:=uP) (step:=Em F (no_index (o,((),((),((),(((r.2.1.n:Nat):Int),()))))))) (N:=dw)
  (P:=fun j s=>∃ a,s=((j:Int),(r,((a,()),(((),()),()))))/\Mid r o a1 f j a)
  (q:=fun s=>.exit 0 (s.2.1,(s.2.2.1,(((),()),())))) r.2.1.n (ep (by omega)) ?_ ?_ ((0:Int),(r,((a1,()),(((),()),())))) ⟨a1,rfl,ym.rfl,by simp,fun p h1 h2 h3 h4 h5=>absurd h5 (by have:=(fo hr h2 h4).1; omega)⟩
 ·obtain ⟨s',⟨a,rfl,hM⟩,e⟩:=this
  exact ⟨a,e,hM⟩
 ·rintro j s hj ⟨a,rfl,hM⟩
  have hmul:j * Ph f + Ph f<=6 * Ph f:=by
   have:(j + 1) * Ph f<=6 * Ph f:=Nat.mul_le_mul_right _ (by omega)
   rw [Nat.succ_mul] at this; exact this
  have hsz:=hM.sz
  unfold Em Ki
  simp only [dW hj,decide_true,cond_true,alh o (j:Int) (by omega),bU,ec hj (by omega:r.2.1.n<=140737488355328)]
  cases aCJ:(List.range o.n).any (fun k=>decide ((j:Int)=(o.g k).1)) with
  | true =>
   refine ⟨_,rfl,a,rfl,hM.gr,by rw [Nat.succ_mul]; omega,fun p h1 h2 h3 h4 h5=>?_⟩
   obtain ⟨k,k1,k2⟩:=aie aCJ
   have k2:=of_decide_eq_true k2
   by_cases e:(p.g o.n).1 < (j:Int)
   ·exact hM.hv p h1 h2 h3 h4 e
   ·have e':(p.g o.n).1=(j:Int):=by omega
    have:=iR h2 h4
    simp only [yl,Bool.and_eq_true] at this
    have:=iR this.2 k1
    rw [e',h1.2 k k1,<- k2] at this
    simp at this
  | false =>
   obtain ⟨o',e1,hS⟩:=alg o (by omega)
   simp only [cond_false,e1,bU]
   have h8:(o'.n + 1) * 8<=140737488355328:=by have:=hS.1; omega
   have hq:∀ q:bI,q=snoc o' ((j:Int),())->bL r q=true/\q.n=o.n + 1/\xk o q/\q.g o.n=((j:Int),()):=by
    rintro q rfl
    have hx:xk o (snoc o' ((j:Int),())):=⟨by rw [qh]; have:=hS.1; omega,fun k hk=>by rw [HV (by have:=hS.1; omega)]; exact hS.2 k hk⟩
    have Lp:(snoc o' ((j:Int),())).g o.n=((j:Int),()):=by rw [hS.1]; exact AE _ _
    refine ⟨xd fun k hk=>?_,by rw [qh,<- hS.1],hx,Lp⟩
    rw [qh,<- hS.1] at hk
    by_cases e:k < o.n
    ·rw [hx.yl e]; exact iR ho e
    ·obtain rfl:k=o.n:=by omega
     unfold yl vk
     rw [Lp]
     have:iQ ((j:Int),()).1 0 (W (((r.2.1.n:Nat):Int) - 1))=true:=by
      rw [eU ⟨by omega,by omega⟩]
      exact decide_eq_true (by omega)
     rw [this,Bool.true_and]
     exact xd fun i hi=>by
      have:=att aCJ hi
      rw [hx.2 i hi]
      simp only [this,Bool.not_false]
   obtain ⟨q1,q2,q3,q4⟩:=hq _ rfl
   obtain ⟨a',e2,s2,g2,c2⟩:=hF (snoc o' ((j:Int),())) a q1 (by omega) (by omega)
   have e2':F (no_index ((cj o' (⟨1,fun i=>List.getD [((j:Int),())] i ((j:Int),())⟩:Sl (Ty.den T0))),((),((),((),(r,((a,()),(((),()),()))))))))=aid r a':=e2
   simp only [h8,decide_true,cond_true]
   rw [e2']
   refine ⟨_,rfl,a',rfl,hM.gr.trans g2,by rw [Nat.succ_mul]; omega,fun p h1 h2 h3 h4 h5=>?_⟩
   by_cases e:(p.g o.n).1 < (j:Int)
   ·exact (hM.hv p h1 h2 h3 h4 e).grow g2
   ·have e':(p.g o.n).1=(j:Int):=by omega
    refine c2 p ⟨by omega,fun k hk=>?_⟩ h2 h3
    by_cases hk':k < o.n
    ·rw [h1.2 k hk',q3.2 k hk']
    ·obtain rfl:k=o.n:=by omega
     rw [q4,<- e']
 ·rintro s ⟨a,rfl,hM⟩
  unfold Em Ki
  simp
theorem KM {r:dx} (hr:bQ r=true):∀ f,aCI r f (F51 f)
 | 0=>fun o all ho hf hs=>by
  have hm:=AH hr
  have:=kM ho (by omega)
  omega
 | f + 1=>fun o all ho hf hs=>by
  have hm:=AH hr
  have hon:=kM ho (by omega)
  have hs':all.n + (1 + 6 * Ph f)<=2147483648:=hs
  show ∃ all':Sl iT,U51 (F51 f) (sIn o r all)=aid r all'/\all'.n<=all.n + (1 + 6 * Ph f)/\ym r all all'/\∀ p,xk o p->bL r p=true->iS r p=true->Has all' p
  unfold U51 Q51 sIn
  simp only [aCK hr ho (by omega:o.n<=10),bU]
  cases hsu:iS r o with
  | false=>exact ⟨all,rfl,by omega,ym.rfl,fun p h1 h2 h3=>by rw [h1.sure h3] at hsu; cases hsu⟩
  | true =>
   obtain ⟨o',e1,hS⟩:=alg o (by omega)
   have aU3:(all.n + 1) * 32<=140737488355328:=by omega
   simp only [cond_true,Bool.not_true,cond_false,e1,bU,aU3,decide_true]
   obtain ⟨a,e2,hM⟩:=KL hr (KM hr f) ho hf (snoc all (o',(CW r o,()))) (by rw [qh]; omega)
   have hg:ym r all (snoc all (o',(CW r o,()))):=⟨by rw [qh]; omega,fun j hj=>HV hj,fun j h1 h2=>by
    rw [qh] at h2
    obtain rfl:j=all.n:=by omega
    rw [AE]
    exact ⟨by rw [hS.order]; exact ho,by rw [hS.sure]; exact hsu,hS.CW.symm⟩⟩
   refine ⟨a,congrArg (fun (q:LQ uP)=>bp q 0 (fun (u5:(aa (ct uP 0)).den)=>(GO.ok () (u5.1,(u5.2.1,(((),()),()))):GO xj (aD dR))) .bad) e2,?_,hg.trans hM.gr,fun p h1 h2 h3=>?_⟩
   ·have:=hM.sz
    rw [qh] at this
    have:r.2.1.n * Ph f<=6 * Ph f:=Nat.mul_le_mul_right _ (by omega)
    omega
   ·by_cases e:o.n < p.n
    ·exact hM.hv p h1 h2 h3 e (fo hr h2 e).2.1
    ·refine Has.grow ⟨all.n,by rw [qh]; omega,?_⟩ hM.gr
     rw [AE]
     exact hS.symm.trans ⟨by have:=h1.1; omega,h1.2⟩
end Go.Dm.Wat

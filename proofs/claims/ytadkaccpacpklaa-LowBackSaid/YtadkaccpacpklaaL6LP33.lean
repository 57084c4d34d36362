/- LowBack. -/
import Derived.Test.YtadkaccpacpklaaL6LP32
set_option linter.unusedVariables false
set_option linter.unusedSimpArgs false
namespace Go.Dm
set_option maxRecDepth 100000
open Go.Low
variable {s:tS.den}
theorem ai7 {a b c d:cT} {K:Nat} (ha:a.n=K) (hb:b.n=K) (hc:c.n=K) (hd:d.n=K) (hK:K<=1000) (h1:∀ k,k < K->a.g k=b.g (K - 1 - k)) (h2:∀ k,k < K->c.g k=d.g (K - 1 - k)) (h3:∀ k,k < K->(a.g k).1.n<=1000/\(c.g k).1.n<=1000) {c0 c1 c5 c9:Int} {xs:tS.den} :
  aTq (c0,(c1,((),((),(a,(c5,(b,(c,(d,(c9,(s,(xs,())))))))))))) ((0:Int),()) = .exit 0 ():=by
 unfold aTq
 refine bQ (ps:=apd) K cz (fun j=>((j:Int),())) (by unfold cz; omega) (fun j hj=>?_) ?_
 ·have w:W (W (((a.n:Nat):Int) - 1) - (j:Int))=((K - 1 - j:Nat):Int):=by
   have:W (((a.n:Nat):Int) - 1)=((a.n:Nat):Int) - 1:=gQ ⟨by omega,by omega⟩
   rw [this,gQ ⟨by omega,by omega⟩]; omega
  have h23:=aWt (a:=(⟨2,fun i=>List.getD [(a.g j),(c.g j)] i (a.g j)⟩:cT)) (b:=(⟨2,fun i=>List.getD [(a.g j),(c.g j)] i (a.g j)⟩:cT)) (by show 2<=1000; omega) (fun i hi=>by
   have:=h3 j hj
   match i,hi with
   | 0,_=>exact this.1
   | 1,_=>exact this.2)
  rw [aEb] at h23
  have key:∀ z:Int,z=((K - 1 - j:Nat):Int)->∀ (p q r1 r2 r3:RQ apd aFs),(bif (decide ((0:Int)<=z/\z < ((b.n:Nat):Int))) then bif (decide ((0:Int)<=z/\z < ((d.n:Nat):Int))) then cl (IN).dflt (VN ((⟨2,fun i=>List.getD [(a.g j),(c.g j)] i (a.g j)⟩:Sl _),((⟨2,fun i=>List.getD [(b.g (Int.toNat z)),(d.g (Int.toNat z))] i (b.g (Int.toNat z))⟩:Sl _),()))) (fun u0=>bif (!u0.1) then p else q) r1 else r2 else r3)=q:=fun z hz p q r1 r2 r3=>by
   subst hz
   refine (aq (decide_eq_true (aQ (by omega)))).trans ?_
   refine (aq (decide_eq_true (aQ (by omega)))).trans ?_
   have e:Int.toNat ((K - 1 - j:Nat):Int)=K - 1 - j:=rfl
   rw [e,<- h1 j hj,<- h2 j hj]
   exact (aK h23).trans (aR rfl)
  unfold aTp aTo
  refine (aq (decide_eq_true (dW (n:=a.n) (by omega)))).trans ?_
  refine (aq (decide_eq_true (aQ (n:=a.n) (by omega)))).trans ?_
  refine (aq (decide_eq_true (aQ (n:=c.n) (by omega)))).trans ?_
  refine (key _ w _ _ _ _ _).trans ?_
  exact congrArg (fun q:Int=>(RQ.next (show (aa apd).den from (q,())):RQ apd aFs)) (dR hj (by omega))
 ·unfold aTp aTo
  have:¬ (((K:Nat):Int) < ((a.n:Nat):Int)):=by omega
  exact aR (decide_eq_false this)
theorem ao1 {a b:cT} {R C:Nat} (ha:a.n=R) (hb:b.n=C) (hR:R<=1000) (hC:C<=1000) (h1:∀ q,q < R->(a.g q).1.n=C) (h2:∀ r,r < C->(b.g r).1.n=R) (h3:∀ q r,q < R->r < C->(show Int from ((a.g q).1.g r).1)=(show Int from ((b.g r).1.g q).1)) {q:Nat} (hq:q < R) :
  aza (a,(b,((q:Int),()))) ((0:Int),()) = .exit 4 ():=by
 have g1:=h1 q hq
 have abb:(0:Int)<=(q:Int)/\(q:Int) < ((a.n:Nat):Int):=by omega
 unfold aza
 refine bQ (ps:=abR) C cz (fun j=>((j:Int),())) (by unfold cz; omega) (fun j hj=>?_) ?_
 ·have g2:=h2 j hj
  have a2:(0:Int)<=(j:Int)/\(j:Int) < (((a.g q).1.n:Nat):Int):=by omega
  have a3:(0:Int)<=(j:Int)/\(j:Int) < ((b.n:Nat):Int):=by omega
  have a4:(0:Int)<=(q:Int)/\(q:Int) < (((b.g j).1.n:Nat):Int):=by omega
  unfold aD7 aD6
  refine (aq (decide_eq_true abb)).trans ?_
  refine (aq (decide_eq_true a2.2)).trans ?_
  refine (aq (decide_eq_true abb)).trans ?_
  refine (aq (decide_eq_true a2)).trans ?_
  refine (aq (decide_eq_true a3)).trans ?_
  refine (aq (decide_eq_true a4)).trans ?_
  refine (aR (nb (h3 q j hq hj))).trans ?_
  exact congrArg (fun q:Int=>(RQ.next (show (aa abR).den from (q,())):RQ abR ap2)) (dR hj (by omega))
 ·unfold aD7 aD6
  have:¬ (((C:Nat):Int) < (((a.g q).1.n:Nat):Int)):=by omega
  refine (aq (decide_eq_true abb)).trans ?_
  exact aR (decide_eq_false this)
theorem avc {a b:cT} {R C:Nat} (ha:a.n=R) (hb:b.n=C) (hR:R<=1000) (hC:C<=1000) (h1:∀ q,q < R->(a.g q).1.n=C) (h2:∀ r,r < C->(b.g r).1.n=R) (h3:∀ q r,q < R->r < C->(show Int from ((a.g q).1.g r).1)=(show Int from ((b.g r).1.g q).1)) :
  aJ0 (a,(b,())) ((0:Int),()) = .exit 2 ():=by
 unfold aJ0
 refine bQ (ps:=ape) R cz (fun j=>((j:Int),())) (by unfold cz; omega) (fun j hj=>?_) ?_
 ·unfold aTu aTt
  refine (aq (decide_eq_true (dW (n:=a.n) (by omega)))).trans ?_
  refine (bp (ao1 ha hb hR hC h1 h2 h3 hj)).trans ?_
  exact congrArg (fun q:Int=>(RQ.next (show (aa ape).den from (q,())):RQ ape aFt)) (dR hj (by omega))
 ·unfold aTu aTt
  have:¬ (((R:Nat):Int) < ((a.n:Nat):Int)):=by omega
  exact aR (decide_eq_false this)
theorem abK (ho:Io s=true) (at':Int) :
  (bif (decide (at' < (1:Int))) then cl (nQ).dflt (qf ()) (fun u30=>some u30) (none) else bif (decide ((W (((s.1.n:Nat):Int) - (1:Int))) < at')) then cl (nQ).dflt (qf ()) (fun u31=>some u31) (none) else cl (MF).dflt (XV (s,(at',()))) (fun u32=>cl (MF).dflt (XV ((abc s),((W ((W ((W (((s.1.n:Nat):Int) - (1:Int))) - at')) + (1:Int))),()))) (fun u33=>bif (!(decide (u32.2.1=u33.2.1))) then (some (false,())) else bif (!(decide (u32.2.1=(Jc s true)))) then (some (false,())) else bif (!(decide (u32.2.1=(0:Int)))) then cl (nQ).dflt (qf ()) (fun u34=>some u34) (none) else bif (decide (((0:Int)<=at')/\(at' < ((s.1.n:Nat):Int)))) then bif (decide (((0:Int)<=(W (at' - (1:Int))))/\((W (at' - (1:Int))) < ((s.1.n:Nat):Int)))) then cl (r31).dflt (M31 (u32.1,((((s.1.g (Int.toNat at')).2.1.n:Nat):Int),((((s.1.g (Int.toNat (W (at' - (1:Int))))).2.1.n:Nat):Int),())))) (fun u35=>bif (!u35.1) then (some (false,())) else bif (decide (((0:Int)<=(W (at' - (1:Int))))/\((W (at' - (1:Int))) < ((s.1.n:Nat):Int)))) then bif (decide (((0:Int)<=at')/\(at' < ((s.1.n:Nat):Int)))) then cl (r31).dflt (M31 (u33.1,((((s.1.g (Int.toNat (W (at' - (1:Int))))).2.1.n:Nat):Int),((((s.1.g (Int.toNat at')).2.1.n:Nat):Int),())))) (fun u36=>bif (!u36.1) then (some (false,())) else aF (aJ0 (u32.1,(u33.1,())) ((0:Int),())) 2 (fun u37=>cl (nQ).dflt (qf ()) (fun u38=>some u38) (none)) (bS (aJ0 (u32.1,(u33.1,())) ((0:Int),())) (fun u39=>some u39) (none))) (none) else none else none) (none) else none else none) (none)) (none):Option (Ty.den (.cons .bool .nil)))=some (true,()):=by
 have hs:=qP ho
 have hox:=afS ho
 have hx:=qP hox
 have WM:=eF hs
 have R:=aeh (s:=s)
 have hwn:=wn1 hs
 have hnx:=ack (s:=s)
 have hlx:((abc s).1.n:Nat)<=1000:=by omega
 have hkx:∀ t,t < (abc s).1.n->((abc s).1.g t).2.1.n<=1000:=(abi hx).2
 by_cases c1:at' < 1
 ·exact (aq (decide_eq_true c1)).trans (aK eZ)
 refine (aR (decide_eq_false c1)).trans ?_
 by_cases c2:W (((s.1.n:Nat):Int) - 1) < at'
 ·exact (aq (decide_eq_true c2)).trans (aK eZ)
 refine (aR (decide_eq_false c2)).trans ?_
 rw [hwn] at c2
 obtain ⟨t,rfl⟩:∃ t:Nat,at'=((t + 1:Nat):Int):=⟨(at' - 1).toNat,by omega⟩
 have ht:t + 1 < s.1.n:=by omega
 obtain ⟨u,hu⟩:∃ u,s.1.n - 1 - t=u + 1:=⟨s.1.n - 2 - t,by omega⟩
 have hu2:u=s.1.n - 1 - (t + 1):=by omega
 have w2:W (W (W (((s.1.n:Nat):Int) - 1) - ((t + 1:Nat):Int)) + 1)=((u + 1:Nat):Int):=by
  rw [hwn]
  have:W (((s.1.n - 1:Nat):Int) - ((t + 1:Nat):Int))=((u:Nat):Int):=by rw [gQ ⟨by omega,by omega⟩]; omega
  rw [this,gQ ⟨by omega,by omega⟩]; rfl
 have hux:u + 1 < (abc s).1.n:=by omega
 have r1:=aQz hs (x:=((t + 1:Nat):Int)) (by omega) (by omega)
 have r2:=aQz hx (x:=((u + 1:Nat):Int)) (by omega) (by omega)
 rw [w2]
 have ai9:=acn R hs hx
 cases ha:Dg s with
 | false =>
  have es:Jc s true=7:=by unfold Jc; rw [ho,ha]; rfl
  have ex:Jc (abc s) true=7:=by unfold Jc; rw [hox,<- ai9,ha]; rfl
  have s18:=aiw (s:=s) (abi hs).1 (abi hs).2 ((t + 1:Nat):Int) (by rw [r1,es]; decide)
  have x18:=aiw (s:=abc s) hlx hkx ((u + 1:Nat):Int) (by rw [r2,ex]; decide)
  rw [r1,es] at s18
  rw [r2,ex] at x18
  rw [es]
  refine (aK s18).trans ?_
  refine (aK x18).trans ?_
  exact (aR rfl).trans ((aR rfl).trans ((aq rfl).trans (aK eZ)))
 | true =>
  have es:Jc s true=0:=by unfold Jc; rw [ho,ha]; rfl
  have hax:Dg (abc s)=true:=by rw [<- ai9,ha]
  have wp:=wo (n:=s.1.n) (by omega) ht
  have k1:((abc s).1.g u).2.1.n=(s.1.g (t + 1)).2.1.n:=by rw [hu2,abq ht]
  have k0:((abc s).1.g (u + 1)).2.1.n=(s.1.g t).2.1.n:=by rw [<- hu,abq (by omega)]
  have q1:=dN hs ht
  have q0:=dN hs (t:=t) (by omega)
  have m31:=aKv hx hux
  rw [k1,k0] at m31
  rw [es]
  refine (aK (aFx ho (abi hs).1 (abi hs).2 ha ht)).trans ?_
  refine (aK (aFx hox hlx hkx hax hux)).trans ?_
  refine (aR rfl).trans ((aR rfl).trans ((aR rfl).trans ?_))
  refine (aq (decide_eq_true (aQ ht))).trans ?_
  rw [wp]
  refine (aq (decide_eq_true (aQ (n:=s.1.n) (by omega)))).trans ?_
  refine (aK (aKv hs ht)).trans ?_
  refine (aR rfl).trans ?_
  refine (aq (decide_eq_true (aQ (n:=s.1.n) (by omega)))).trans ?_
  refine (aq (decide_eq_true (aQ ht))).trans ?_
  refine (aK m31).trans ?_
  refine (aR rfl).trans ?_
  refine (bp (avc (a:=Cl s t) (b:=Cl (abc s) u) (R:=(s.1.g (t + 1)).2.1.n) (C:=(s.1.g t).2.1.n) (azj s t) ((azj _ u).trans k0) (by omega) (by omega) (fun q hq=>by rw [azk hq]; exact PD _ _) (fun r hr=>by rw [azk (by rw [k0]; exact hr)]; exact (PD _ _).trans k1) fun q r hq hr=>?_)).trans ?_
  ·rw [azk hq,azk (by rw [k0]; exact hr)]
   dsimp only
   rw [aoV hr,aoV (by rw [k1]; exact hq)]
   have:=aiY R hs hx ht hq hr
   rw [hu] at this
   exact this
  ·exact aK eZ
theorem aja (s:tS.den) (at' one:Int):M6 (s,(at',(one,())))=some (true,()):=by
 unfold M6 Q6
 obtain ⟨b,h1,h2⟩:=aau (s:=s)
 refine (aK h1).trans ?_
 cases b with
 | false=>exact (aq rfl).trans (aK eZ)
 | true =>
 refine (aR rfl).trans ?_
 obtain ⟨hn,hk⟩:=h2 rfl
 have hn':s.1.n<=1000:=by omega
 have hk':∀ t,t < s.1.n->(s.1.g t).2.1.n<=1000:=fun t ht=>by have:=hk t ht; omega
 refine (aK (JM hn' hk')).trans ?_
 cases ho:Io s with
 | false=>exact (aq rfl).trans (aK eZ)
 | true =>
 refine (aR rfl).trans ?_
 obtain ⟨b27,h27⟩:=auI (s:=s) hn'
 refine (aK h27).trans ?_
 cases b27 with
 | false=>exact (aq rfl).trans (aK eZ)
 | true =>
 refine (aR rfl).trans ?_
 have hs:=qP ho
 have hox:=afS ho
 have hx:=qP hox
 have WM:=eF hs
 have R:=aeh (s:=s)
 have hwn:=wn1 hs
 have hnx:=ack (s:=s)
 have hlx:((abc s).1.n:Nat)<=1000:=by omega
 have hkx:∀ t,t < (abc s).1.n->((abc s).1.g t).2.1.n<=1000:=(abi hx).2
 have ai9:=acn R hs hx
 have s28:=auJ ho hn' hk'
 have x28:=auJ hox hlx hkx
 have ey:fB (Jb (abc s)) 51=fB (Jb s) 51:=atU fun v hv=>by
  have hv':(0:Int)<=(v:Int)/\(v:Int)<=50:=by omega
  have:=acn (ao0 R rfl (v:Int)) (ahT hs hv') (ahT hx hv')
  exact this.symm
 rw [ey] at x28
 refine (aK (aBG hs)).trans ?_
 cases ha:Dg s with
 | false =>
  have es:Jc s true=7:=by unfold Jc; rw [ho,ha]; rfl
  have ex:Jc (abc s) true=7:=by unfold Jc; rw [hox,<- ai9,ha]; rfl
  have s19:=aqa (s:=s) hn' hk' (by rw [es]; decide)
  have s20:=aFz (s:=s) hn' hk' (by rw [es]; decide)
  have x19:=aqa (s:=abc s) hlx hkx (by rw [ex]; decide)
  have x20:=aFz (s:=abc s) hlx hkx (by rw [ex]; decide)
  rw [ex] at x19 x20
  rw [es] at s20
  have e7:(7:Int)=Jc s true:=es.symm
  rw [e7] at x19 x20 s20
  refine (aK s19).trans ?_
  refine (aK x20).trans ?_
  refine (aK s20).trans ?_
  refine (aK x19).trans ?_
  refine (aK s28).trans ?_
  refine (aK x28).trans ?_
  refine (aR (nb rfl)).trans ?_
  refine (aR (nb rfl)).trans ?_
  refine (aR (nb rfl)).trans ?_
  refine (aR (nb rfl)).trans ?_
  refine (aR (nb rfl)).trans ?_
  refine (aR rfl).trans ((aR rfl).trans ((aR rfl).trans ?_))
  refine (bp (ai7 (K:=0) rfl rfl rfl rfl (by omega) (fun k hk=>absurd hk (Nat.not_lt_zero _)) (fun k hk=>absurd hk (Nat.not_lt_zero _)) fun k hk=>absurd hk (Nat.not_lt_zero _))).trans ?_
  refine (aK (aWw hn' at' one)).trans ?_
  cases hl:lowB s at' one with
  | false=>exact (aR rfl).trans (abK ho at')
  | true =>
   refine (aq rfl).trans ?_
   obtain ⟨t,i,rfl,rfl,ht,hi⟩:=lowB_ex hn' hk' hl
   have w1:W (W (((s.1.n:Nat):Int) - 1) - (t:Int))=((s.1.n - 1 - t:Nat):Int):=by rw [hwn,gQ ⟨by omega,by omega⟩]; omega
   have aBL:lowB (abc s) ((s.1.n - 1 - t:Nat):Int) (i:Int)=true:=lowB_nat hox (by omega) (by rw [abq ht]; exact hi)
   have s36:=aFD (s:=s) hn' hk' (t:Int) (i:Int) (by rw [hl,es]; decide)
   have x36:=aFD (s:=abc s) hlx hkx ((s.1.n - 1 - t:Nat):Int) (i:Int) (by rw [aBL,ex]; decide)
   rw [hl,es] at s36
   rw [aBL,ex,<- w1] at x36
   refine (aK s36).trans ?_
   refine (aK x36).trans ?_
   refine (aR rfl).trans ((aR rfl).trans ?_)
   exact abK ho (t:Int)
 | true =>
  have es:Jc s true=0:=by unfold Jc; rw [ho,ha]; rfl
  have hax:Dg (abc s)=true:=by rw [<- ai9,ha]
  have bn:=an3 s
  have en:=aKx s
  have bnx:=an3 (abc s)
  have enx:=aKx (abc s)
  rw [hnx] at bnx enx
  have aah:∀ t,t < s.1.n->((abc s).1.g (s.1.n - 1 - t)).2.1.n=(s.1.g t).2.1.n:=fun t ht=>by rw [abq ht]
  have b1:∀ k,k < s.1.n - 1->(Kt s).g k=(Xg (abc s)).g (s.1.n - 1 - 1 - k):=fun k hk=>by
   have e:s.1.n - 1 - 1 - k=s.1.n - 1 - (k + 1):=by omega
   rw [aFF (by omega),e,aKy (by omega)]
   refine congrArg (fun q:Sl sR.den=>(q,())) (abU (aah _ (by omega)).symm fun j hj=>?_)
   exact ab1 R hs hx (by omega) hj
  have b2:∀ k,k < s.1.n - 1->(Xg s).g k=(Kt (abc s)).g (s.1.n - 1 - 1 - k):=fun k hk=>by
   have e:s.1.n - 1 - 1 - k + 1=s.1.n - 1 - k:=by omega
   rw [aKy (by omega),aFF (by omega),e]
   refine congrArg (fun q:Sl sR.den=>(q,())) (abU (aah _ (by omega)).symm fun j hj=>?_)
   have h0:=ab1 R.symm hx hs (t:=s.1.n - 1 - 1 - k) (i:=j) (by omega) (by rw [e,aah _ (by omega)]; exact hj)
   have e2:(abc s).1.n - 1 - (s.1.n - 1 - 1 - k + 1)=k:=by omega
   rw [e2,e] at h0
   exact h0.symm
  have b3:∀ k,k < s.1.n - 1->((Kt s).g k).1.n<=1000/\((Xg s).g k).1.n<=1000:=fun k hk=>by
   rw [aFF (by omega),aKy (by omega)]
   dsimp only
   rw [PD,PD]
   have:=dN hs (t:=k) (by omega)
   have:=dN hs (t:=k + 1) (by omega)
   omega
  refine (aK (aAB ho hn' hk' ha)).trans ?_
  refine (aK (aQy hox hlx hkx hax)).trans ?_
  refine (aK (aQy ho hn' hk' ha)).trans ?_
  refine (aK (aAB hox hlx hkx hax)).trans ?_
  refine (aK s28).trans ?_
  refine (aK x28).trans ?_
  refine (aR (nb rfl)).trans ?_
  refine (aR (nb rfl)).trans ?_
  refine (aR (nb rfl)).trans ?_
  refine (aR (nb rfl)).trans ?_
  refine (aR (nb rfl)).trans ?_
  refine (aR (nb (show (((Kt s).n:Nat):Int)=(((Xg (abc s)).n:Nat):Int) by omega))).trans ?_
  refine (aR (nb (show (((Xg s).n:Nat):Int)=(((Kt (abc s)).n:Nat):Int) by omega))).trans ?_
  refine (aR (nb (show (((Kt s).n:Nat):Int)=(((Xg s).n:Nat):Int) by omega))).trans ?_
  refine (bp (ai7 (K:=s.1.n - 1) bn enx en bnx (by omega) b1 b2 b3)).trans ?_
  refine (aK (aWw hn' at' one)).trans ?_
  have tail:=abK ho
  rw [es] at tail
  cases hl:lowB s at' one with
  | false=>exact (aR rfl).trans (tail at')
  | true =>
   refine (aq rfl).trans ?_
   obtain ⟨t,i,rfl,rfl,ht,hi⟩:=lowB_ex hn' hk' hl
   have w1:W (W (((s.1.n:Nat):Int) - 1) - (t:Int))=((s.1.n - 1 - t:Nat):Int):=by rw [hwn,gQ ⟨by omega,by omega⟩]; omega
   have hne:links (cB s)≠[]:=by
    obtain ⟨L,hL⟩:=Ki.1 ha
    exact List.ne_nil_of_mem hL
   have s36:=aKu ho ha ht hi
   have x36:=aKu hox hax (t:=s.1.n - 1 - t) (i:=i) (by omega) (by rw [abq ht]; exact hi)
   have Ag:ach (cB (abc s)) (s.1.n - 1 - t) i=ach (cB s) t i:=R.where hs hx ht hi hne
   rw [Ag,<- w1] at x36
   refine (aK s36).trans ?_
   refine (aK x36).trans ?_
   have same:∀ b:B6,(!((decide (b.1=b.1)) && ((decide (b.2.1=b.2.1)) && ((decide (b.2.2.1=b.2.2.1)) && ((decide (b.2.2.2.1=b.2.2.2.1)) && ((decide (b.2.2.2.2.1=b.2.2.2.2.1)) && ((decide (b.2.2.2.2.2.1=b.2.2.2.2.2.1)) && true)))))))=false:=fun b=>by simp
   refine (aR (same _)).trans ?_
   refine (aR rfl).trans ?_
   exact tail (t:Int)
theorem bdW (x:(a6).den):M6 x=some (true,()):=by
 obtain ⟨s,at',one,⟨⟩⟩:=x
 exact aja s at' one
end Go.Dm

/- LowMore. -/
import Derived.Test.YtadkaccpacpklaaL8LP27
import Derived.Test.YtadkaccpacpklaaL8LP19
set_option linter.unusedVariables false
set_option linter.unusedSimpArgs false
namespace Go.Dm
set_option maxRecDepth 100000
open Go.Low
variable {s:tS.den} {fr to:Int}
theorem aWw (hn:s.1.n<=1000) (t i:Int):M35 (no_index (s,(t,(i,()))))=some (lowB s t i,()):=by
 unfold M35 Q35 lowB
 refine (aK (uW _ _ _)).trans ?_
 cases h:oV t 0 (W (((s.1.n:Nat):Int) - 1)) with
 | false=>exact aR rfl
 | true =>
  have h1:=(auQ hn).1 h
  have a:(0:Int)<=t/\t < ((s.1.n:Nat):Int):=by omega
  refine (aq rfl).trans ?_
  refine (aq (decide_eq_true a)).trans ?_
  exact aK (uW _ _ _)
theorem lowB_ex (hn:s.1.n<=1000) (hk:∀ t,t < s.1.n->(s.1.g t).2.1.n<=1000) {t i:Int} (h:lowB s t i=true):∃ t' i':Nat,t=(t':Int)/\i=(i':Int)/\t' < s.1.n/\i' < (s.1.g t').2.1.n:=by
 unfold lowB at h
 rw [Bool.and_eq_true] at h
 have h1:=(auQ hn).1 h.1
 have h2:=(auQ (hk _ h1.2)).1 h.2
 exact ⟨t.toNat,i.toNat,by omega,by omega,h1.2,h2.2⟩
structure aEg (a b:cT) (R:Nat) (C:Nat->Nat):Prop where
 an:a.n=R
 bn:b.n=R
 R1:R<=1000
 ak:∀ i,i < R->(a.g i).1.n=C i
 bk:∀ i,i < R->(b.g i).1.n=C i
 C1:∀ i,i < R->C i<=1000
 eq:∀ i j,i < R->j < C i->(show Int from ((a.g i).1.g j).1)≠2->(show Int from ((b.g i).1.g j).1)=(show Int from ((a.g i).1.g j).1)
theorem aQB {α:Type} {x y:Int} (h:x≠2->y=x) {p q:α}:(bif (!(decide (x=(2:Int)))) then (bif (!(decide (y=x))) then p else q) else q)=q:=by
 by_cases c:x=2
 ·rw [decide_eq_true c]; rfl
 ·rw [decide_eq_false c,decide_eq_true (h c)]; rfl
theorem aPx {a b:cT} {R:Nat} {C:Nat->Nat} (hK:aEg a b R C) {t:Nat} (ht:t < R) {c1:Int} {xs:tS.den}:aoP (c1,((),((),(a,(b,((t:Int),(s,(xs,())))))))) ((0:Int),()) = .exit 6 ():=by
 have h1:=hK.an
 have h2:=hK.bn
 have h3:=hK.ak t ht
 have h4:=hK.bk t ht
 have h5:=hK.C1 t ht
 unfold aoP
 refine bQ (ps:=Qb) (a.g t).1.n cz (fun j=>((j:Int),())) (by unfold cz; omega) (fun j hj=>?_) ?_
 ·have hj':j < C t:=by omega
  have a1:(0:Int)<=(t:Int)/\(t:Int) < ((a.n:Nat):Int):=by omega
  have a2:(0:Int)<=(j:Int)/\(j:Int) < (((a.g t).1.n:Nat):Int):=by omega
  have b1:(0:Int)<=(t:Int)/\(t:Int) < ((b.n:Nat):Int):=by omega
  have b2:(0:Int)<=(j:Int)/\(j:Int) < (((b.g t).1.n:Nat):Int):=by omega
  have key:∀ p q r1 r2 r3 r4:RQ Qb aiu,(bif (!(decide ((show Int from ((a.g t).1.g j).1)=(2:Int)))) then bif (decide ((0:Int)<=(t:Int)/\(t:Int) < ((b.n:Nat):Int))) then bif (decide ((0:Int)<=(j:Int)/\(j:Int) < (((b.g t).1.n:Nat):Int))) then bif (decide ((0:Int)<=(t:Int)/\(t:Int) < ((a.n:Nat):Int))) then bif (decide ((0:Int)<=(j:Int)/\(j:Int) < (((a.g t).1.n:Nat):Int))) then (bif (!(decide ((show Int from ((b.g t).1.g j).1)=(show Int from ((a.g t).1.g j).1)))) then p else q) else r1 else r2 else r3 else r4 else q)=q:=fun p q r1 r2 r3 r4=>by
   rw [decide_eq_true b1,decide_eq_true b2,decide_eq_true a1,decide_eq_true a2]
   exact aQB (hK.eq t j ht hj')
  unfold atG atF
  refine (aq (decide_eq_true a1)).trans ?_
  refine (aq (decide_eq_true (dW hj))).trans ?_
  refine (aq (decide_eq_true a1)).trans ?_
  refine (aq (decide_eq_true a2)).trans ?_
  refine (key _ _ _ _ _ _).trans ?_
  exact congrArg (fun q:Int=>(RQ.next (show (aa Qb).den from (q,())):RQ Qb aiu)) (dR hj (by omega))
 ·have a1:(0:Int)<=(t:Int)/\(t:Int) < ((a.n:Nat):Int):=by omega
  unfold atG atF
  have:¬ ((((a.g t).1.n:Nat):Int) < (((a.g t).1.n:Nat):Int)):=by omega
  refine (aq (decide_eq_true a1)).trans ?_
  exact aR (decide_eq_false this)
theorem aTN {a b:cT} {R:Nat} {C:Nat->Nat} (hK:aEg a b R C) {c1:Int} {xs:tS.den}:aD8 (c1,((),((),(a,(b,(s,(xs,()))))))) ((0:Int),()) = .exit 4 ():=by
 have h1:=hK.an
 have h2:=hK.bn
 have h3:=hK.R1
 unfold aD8
 refine bQ (ps:=ah7) a.n cz (fun j=>((j:Int),())) (by unfold cz; omega) (fun j hj=>?_) ?_
 ·have hj':j < R:=by omega
  have e:(((a.g j).1.n:Nat):Int)=(((b.g j).1.n:Nat):Int):=by rw [hK.ak j hj',hK.bk j hj']
  unfold aKb aKa
  refine (aq (decide_eq_true (dW hj))).trans ?_
  refine (aq (decide_eq_true (aQ hj))).trans ?_
  refine (aq (decide_eq_true (aQ (n:=b.n) (by omega)))).trans ?_
  refine (aR (nb e)).trans ?_
  refine (bp (aPx hK hj')).trans ?_
  exact congrArg (fun q:Int=>(RQ.next (show (aa ah7).den from (q,())):RQ ah7 aAz)) (dR hj (by omega))
 ·unfold aKb aKa
  have:¬ (((a.n:Nat):Int) < ((a.n:Nat):Int)):=by omega
  exact aR (decide_eq_false this)
theorem aPy {a b:cT} {R K:Nat} (hK:aEg a b R fun _=>K) {t:Nat} (ht:t < R) {c3:Int}:aoQ (a,(b,(c3,((K:Int),((t:Int),()))))) ((0:Int),()) = .exit 10 ():=by
 have h1:=hK.an
 have h2:=hK.bn
 have h3:=hK.ak t ht
 have h4:=hK.bk t ht
 have h5:=hK.C1 t ht
 unfold aoQ
 refine bQ (ps:=Qc) K cz (fun j=>((j:Int),())) (by unfold cz; omega) (fun j hj=>?_) ?_
 ·have a1:(0:Int)<=(t:Int)/\(t:Int) < ((a.n:Nat):Int):=by omega
  have a2:(0:Int)<=(j:Int)/\(j:Int) < (((a.g t).1.n:Nat):Int):=by omega
  have b1:(0:Int)<=(t:Int)/\(t:Int) < ((b.n:Nat):Int):=by omega
  have b2:(0:Int)<=(j:Int)/\(j:Int) < (((b.g t).1.n:Nat):Int):=by omega
  have key:∀ p q r1 r2 r3 r4:RQ Qc aiv,(bif (!(decide ((show Int from ((a.g t).1.g j).1)=(2:Int)))) then bif (decide ((0:Int)<=(t:Int)/\(t:Int) < ((b.n:Nat):Int))) then bif (decide ((0:Int)<=(j:Int)/\(j:Int) < (((b.g t).1.n:Nat):Int))) then bif (decide ((0:Int)<=(t:Int)/\(t:Int) < ((a.n:Nat):Int))) then bif (decide ((0:Int)<=(j:Int)/\(j:Int) < (((a.g t).1.n:Nat):Int))) then (bif (!(decide ((show Int from ((b.g t).1.g j).1)=(show Int from ((a.g t).1.g j).1)))) then p else q) else r1 else r2 else r3 else r4 else q)=q:=fun p q r1 r2 r3 r4=>by
   rw [decide_eq_true b1,decide_eq_true b2,decide_eq_true a1,decide_eq_true a2]
   exact aQB (hK.eq t j ht hj)
  unfold atJ atI
  refine (aq (decide_eq_true (dW hj))).trans ?_
  refine (aq (decide_eq_true a1)).trans ?_
  refine (aq (decide_eq_true a2)).trans ?_
  refine (key _ _ _ _ _ _).trans ?_
  exact congrArg (fun q:Int=>(RQ.next (show (aa Qc).den from (q,())):RQ Qc aiv)) (dR hj (by omega))
 ·unfold atJ atI
  have:¬ (((K:Nat):Int) < ((K:Nat):Int)):=by omega
  exact aR (decide_eq_false this)
theorem aTO {a b:cT} {R K:Nat} (hK:aEg a b R fun _=>K):aD9 (a,(b,((R:Int),((K:Int),())))) ((0:Int),()) = .exit 8 ():=by
 have h3:=hK.R1
 unfold aD9
 refine bQ (ps:=ah8) R cz (fun j=>((j:Int),())) (by unfold cz; omega) (fun j hj=>?_) ?_
 ·unfold aKg aKf
  refine (aq (decide_eq_true (dW hj))).trans ?_
  refine (bp (aPy hK hj)).trans ?_
  exact congrArg (fun q:Int=>(RQ.next (show (aa ah8).den from (q,())):RQ ah8 aAA)) (dR hj (by omega))
 ·unfold aKg aKf
  have:¬ (((R:Nat):Int) < ((R:Nat):Int)):=by omega
  exact aR (decide_eq_false this)
theorem aAE {R R':Nat} {C C':Nat->Nat} {w w':Nat->Nat->Int} (hR:R'=R) (h1:R<=1000) (hC:∀ i,i < R->C' i=C i) (h2:∀ i,i < R->C i<=1000) (h:∀ i j,i < R->j < C i->w i j≠2->w' i j=w i j):aEg (LW R C w) (LW R' C' w') R C:=by
 subst hR
 have g:∀ i,i < R'->(LW R' C w).g i=(RH (C i) (w i),()):=fun i hi=>aoW hi
 have g':∀ i,i < R'->(LW R' C' w').g i=(RH (C' i) (w' i),()):=fun i hi=>aoW hi
 refine ⟨aa3 _ _ _,aa3 _ _ _,h1,fun i hi=>by rw [g i hi]; exact PD _ _,fun i hi=>by rw [g' i hi]; exact (PD _ _).trans (hC i hi),h2,fun i j hi hj=>?_⟩
 have e:(show Int from (((LW R' C w).g i).1.g j).1)=w i j:=by rw [g i hi]; dsimp only; rw [aoV hj]
 have e':(show Int from (((LW R' C' w').g i).1.g j).1)=w' i j:=by rw [g' i hi]; dsimp only; rw [aoV (by rw [hC i hi]; exact hj)]
 rw [e,e']
 exact h i j hi hj
theorem aop (ha:Dg s=true):0 < nL s:=by
 obtain ⟨L,hL⟩:=Ki.1 ha
 exact List.length_pos_of_mem hL
section
variable {sp bn gn:Int} (hx:XOk s fr to sp bn gn) (ho:Io s=true) (ha:Dg (xS fr to sp bn gn s s.1.n)=true)
include hx ho
theorem aKr (ha:Dg (xS fr to sp bn gn s s.1.n)=true):Dg s=true:=by
 obtain ⟨L,hL⟩:=Ki.1 ha
 exact Ki.2 ⟨L,(aEd hx ho).links (qP (aKp hx ho)) (qP ho) hL⟩
include ha
theorem auR {q:LL->Bool}:wd ((links (cB s)).countP q) (nL s)≠2->wd ((links (cB (xS fr to sp bn gn s s.1.n))).countP q) (nL (xS fr to sp bn gn s s.1.n))=wd ((links (cB s)).countP q) (nL s):=by
 have h:=aGF (q:=q) (l:=links (cB (xS fr to sp bn gn s s.1.n))) (l':=links (cB s)) fun L hL=>(aEd hx ho).links (qP (aKp hx ho)) (qP ho) hL
 exact aTM (aop ha) h.1 h.2
theorem aGG:aEg (Kt s) (Kt (xS fr to sp bn gn s s.1.n)) (s.1.n - 1) (fun r=>(s.1.g (r + 1)).2.1.n):=by
 have hs:=qP ho
 have WM:=eF hs
 have hn:(xS fr to sp bn gn s s.1.n).1.n=s.1.n:=aPw
 refine aAE (by rw [hn]) (by omega) (fun i hi=>?_) (fun i hi=>by have:=dN hs (t:=i + 1) (by omega); omega) fun i j hi hj=>auR hx ho ha
 rw [azg (by omega)]; exact alb
theorem aGH {t:Nat} (ht:t + 1 < s.1.n):aEg (Cl s t) (Cl (xS fr to sp bn gn s s.1.n) t) (s.1.g (t + 1)).2.1.n (fun _=>(s.1.g t).2.1.n):=by
 have hs:=qP ho
 have WM:=eF hs
 refine aAE ?_ (by have:=dN hs ht; omega) (fun i hi=>?_) (fun i hi=>by have:=dN hs (t:=t) (by omega); omega) fun i j hi hj=>auR hx ho ha
 ·rw [azg ht]; exact alb
 ·rw [azg (by omega)]; exact alb
end
theorem tb {a b:Int} (h:a≠b):(!decide (a=b))=true:=by rw [decide_eq_false h]; rfl
theorem aKt (s:tS.den) (fr to sp bn gn at' one:Int):M8 (s,(fr,(to,(sp,(bn,(gn,(at',(one,()))))))))=some (true,()):=by
 unfold M8 Q8
 obtain ⟨b,h1,h2⟩:=aau (s:=s)
 refine (aK h1).trans ?_
 cases b with
 | false=>exact (aq rfl).trans (aK eZ)
 | true =>
  refine (aR rfl).trans ?_
  obtain ⟨hn,hk⟩:=h2 rfl
  have hn':s.1.n<=1000:=by omega
  have hk':∀ t,t < s.1.n->(s.1.g t).2.1.n<=1000:=fun t ht=>by have:=hk t ht; omega
  refine (aK (JM hn' hk')).trans ?_
  cases ho:Io s with
  | false=>exact (aq rfl).trans (aK eZ)
  | true =>
   refine (aR rfl).trans ?_
   by_cases c1:fr < 0
   ·exact (aq (decide_eq_true c1)).trans (aK eZ)
   refine (aR (decide_eq_false c1)).trans ?_
   by_cases c2:to < fr
   ·exact (aq (decide_eq_true c2)).trans (aK eZ)
   refine (aR (decide_eq_false c2)).trans ?_
   by_cases c3:100 < to
   ·exact (aq (decide_eq_true c3)).trans (aK eZ)
   refine (aR (decide_eq_false c3)).trans ?_
   by_cases c4:sp < 0
   ·exact (aq (decide_eq_true c4)).trans (aK eZ)
   refine (aR (decide_eq_false c4)).trans ?_
   by_cases c5:pN s < sp
   ·exact (aq (decide_eq_true c5)).trans (aK eZ)
   refine (aR (decide_eq_false c5)).trans ?_
   by_cases c6:bn < 0
   ·exact (aq (decide_eq_true c6)).trans (aK eZ)
   refine (aR (decide_eq_false c6)).trans ?_
   by_cases c7:OC s < bn
   ·exact (aq (decide_eq_true c7)).trans (aK eZ)
   refine (aR (decide_eq_false c7)).trans ?_
   by_cases c8:gn < 0
   ·exact (aq (decide_eq_true c8)).trans (aK eZ)
   refine (aR (decide_eq_false c8)).trans ?_
   by_cases c9:Sa s < gn
   ·exact (aq (decide_eq_true c9)).trans (aK eZ)
   refine (aR (decide_eq_false c9)).trans ?_
   refine (aK (aWw hn' at' one)).trans ?_
   cases hl:lowB s at' one with
   | false=>exact (aq rfl).trans (aK eZ)
   | true =>
    refine (aR rfl).trans ?_
    have hx:XOk s fr to sp bn gn:=⟨by omega,by omega,by omega,by omega,by omega,by omega,by omega,by omega,by omega⟩
    have hs:=qP ho
    have hox:=aKp hx ho
    have hsx:=qP hox
    obtain ⟨t,i,rfl,rfl,ht,hi⟩:=lowB_ex hn' hk' hl
    have hnx:(xS fr to sp bn gn s s.1.n).1.n=s.1.n:=aPw
    have hkx:∀ u,u < s.1.n->((xS fr to sp bn gn s s.1.n).1.g u).2.1.n=(s.1.g u).2.1.n:=fun u hu=>by rw [azg hu]; exact alb
    have aPz:(xS fr to sp bn gn s s.1.n).1.n<=1000:=by omega
    have aPA:∀ u,u < (xS fr to sp bn gn s s.1.n).1.n->((xS fr to sp bn gn s s.1.n).1.g u).2.1.n<=1000:=fun u hu=>by rw [hkx u (by omega)]; exact hk' u (by omega)
    have hlx:lowB (xS fr to sp bn gn s s.1.n) (t:Int) (i:Int)=true:=lowB_nat hox (by omega) (by rw [hkx t ht]; exact hi)
    refine (bp (aTK hs hx.p0 hx.pq hx.q1)).trans ?_
    cases hax:Dg (xS fr to sp bn gn s s.1.n) with
    | false =>
     have ex:Jc (xS fr to sp bn gn s s.1.n) true=7:=by unfold Jc; rw [hox,hax]; rfl
     have b19:=aqa (s:=xS fr to sp bn gn s s.1.n) aPz aPA (by rw [ex]; decide)
     have b36:=aFD (s:=xS fr to sp bn gn s s.1.n) aPz aPA (t:Int) (i:Int) (by rw [hlx,ex]; decide)
     rw [ex] at b19
     rw [hlx,ex] at b36
     cases has:Dg s with
     | false =>
      have es:Jc s true=7:=by unfold Jc; rw [ho,has]; rfl
      have s19:=aqa (s:=s) hn' hk' (by rw [es]; decide)
      have s36:=aFD (s:=s) hn' hk' (t:Int) (i:Int) (by rw [hl,es]; decide)
      rw [es] at s19
      rw [hl,es] at s36
      refine (aK s19).trans ?_
      refine (aK b19).trans ?_
      refine (aK s36).trans ?_
      refine (aK b36).trans ?_
      refine (aR rfl).trans ((aR rfl).trans ((aR rfl).trans ((aq rfl).trans ((aq rfl).trans ?_))))
      exact aK eZ
     | true =>
      refine (aK (aAB ho hn' hk' has)).trans ?_
      refine (aK b19).trans ?_
      refine (aK (aKu ho has ht hi)).trans ?_
      refine (aK b36).trans ?_
      refine (aR rfl).trans ((aR rfl).trans ((aR rfl).trans ((aq rfl).trans ((aq rfl).trans ?_))))
      exact aK eZ
    | true =>
     have has:=aKr hx ho hax
     have hne:links (cB (xS fr to sp bn gn s s.1.n))≠[]:=by
      obtain ⟨L,hL⟩:=Ki.1 hax
      exact List.ne_nil_of_mem hL
     have hwh:=fun a ha=>(aEd hx ho).where hsx hs hne (t:=t) (i:=i) (show t < (xS fr to sp bn gn s s.1.n).1.n by omega) (show i < ((xS fr to sp bn gn s s.1.n).1.g t).2.1.n by rw [hkx t ht]; exact hi) (a:=a) ha
     have w0:=hwh 0 (by omega)
     have w1:=hwh 1 (by omega)
     have w2:=hwh 2 (by omega)
     have q3:(((Kt s).n:Nat):Int)=W (((s.1.n:Nat):Int) - 1):=by rw [an3,wn1 hs]
     have q4:(((Kt (xS fr to sp bn gn s s.1.n)).n:Nat):Int)=(((Kt s).n:Nat):Int):=by rw [an3,an3,hnx]
     refine (aK (aAB ho hn' hk' has)).trans ?_
     refine (aK (aAB hox aPz aPA hax)).trans ?_
     refine (aK (aKu ho has ht hi)).trans ?_
     refine (aK (aKu hox hax (by omega) (by rw [hkx t ht]; exact hi))).trans ?_
     refine (aq rfl).trans ((aR rfl).trans ((aR rfl).trans ((aR rfl).trans ((aR rfl).trans ?_))))
     refine (aR (nb q3)).trans ?_
     refine (aR (nb q4)).trans ?_
     refine (aR (decide_eq_false (Int.not_lt.2 w0.1))).trans ?_
     refine (aR (decide_eq_false (Int.not_lt.2 w0.2))).trans ?_
     refine (aR (decide_eq_false (Int.not_lt.2 w1.1))).trans ?_
     refine (aR (decide_eq_false (Int.not_lt.2 w1.2))).trans ?_
     refine (aR (decide_eq_false (Int.not_lt.2 w2.1))).trans ?_
     refine (aR (decide_eq_false (Int.not_lt.2 w2.2))).trans ?_
     refine (bp (aTN (aGG hx ho hax))).trans ?_
     by_cases c0:(t:Int)=0
     ·exact (aq (decide_eq_true c0)).trans (aK eZ)
     refine (aR (decide_eq_false c0)).trans ?_
     obtain ⟨u,rfl⟩:∃ u,t=u + 1:=⟨t - 1,by omega⟩
     have wp:=wo (n:=s.1.n) (by omega) ht
     have m31:=aKv hsx (t:=u) (by show u + 1 < (xS fr to sp bn gn s s.1.n).1.n; omega)
     rw [hkx u (by omega),hkx (u + 1) ht] at m31
     refine (aK (aFx ho hn' hk' has ht)).trans ?_
     refine (aK (aFx hox aPz aPA hax (by omega))).trans ?_
     refine (aq (decide_eq_true (aQ ht))).trans ?_
     dsimp only
     rw [wp]
     refine (aq (decide_eq_true (aQ (n:=s.1.n) (by omega)))).trans ?_
     refine (aR rfl).trans ((aR rfl).trans ?_)
     refine (aK (aKv hs ht)).trans ?_
     refine (aR rfl).trans ?_
     refine (aK m31).trans ?_
     refine (aR rfl).trans ?_
     refine (bp (aTO (aGH hx ho hax ht))).trans ?_
     exact aK eZ
theorem bcQ (x:(a8).den):M8 x=some (true,()):=by
 obtain ⟨s,fr,to,sp,bn,gn,at',one,⟨⟩⟩:=x
 exact aKt s fr to sp bn gn at' one
end Go.Dm

/- LowSames. -/
import Derived.Test.YtadkaccpacpklaaL3LP17
set_option linter.unusedVariables false
set_option linter.unusedSimpArgs false
namespace Go.Dm
set_option maxRecDepth 100000
open Go.Low
variable {s:tS.den}
theorem aTG {all:zR} (hall:fU all=links (cB s)):decide (((all.n:Nat):Int)=(0:Int)) = !Dg s:=by
 have h:=jA all
 rw [hall] at h
 unfold Dg
 rw [Bool.not_not,<- h]
 cases links (cB s) with
 | nil=>rfl
 | cons a l=>exact decide_eq_false (by rw [List.length_cons]; omega)
theorem wn1 (hs:(cB s).Ok):W (((s.1.n:Nat):Int) - 1)=((s.1.n - 1:Nat):Int):=by
 have:=eF hs
 have xU:0 < s.1.n:=hs.n1
 rw [gQ ⟨by omega,by omega⟩]; omega
theorem aFA {x:Int} (h:x < 1) (b:Int):oV x 1 b=false:=by
 unfold oV; rw [decide_eq_false (by omega:¬ (1<=x)),Bool.false_and]
theorem aFB (hs:(cB s).Ok) {x:Int} (h:((s.1.n:Nat):Int)<=x):oV x 1 (W (((s.1.n:Nat):Int) - 1))=false:=by
 have xU:0 < s.1.n:=hs.n1
 unfold oV; rw [wn1 hs,decide_eq_false (by omega:¬ (x<=((s.1.n - 1:Nat):Int))),Bool.and_false]
theorem aQz (hs:(cB s).Ok) {x:Int} (h0:¬ (x < 1)) (h:¬ (((s.1.n:Nat):Int)<=x)):oV x 1 (W (((s.1.n:Nat):Int) - 1))=true:=by
 have xU:0 < s.1.n:=hs.n1
 unfold oV; rw [wn1 hs,decide_eq_true (by omega:1<=x),decide_eq_true (by omega:x<=((s.1.n - 1:Nat):Int))]; rfl
theorem aEa {R:Nat} {C:Nat->Nat} {w:Nat->Nat->Int} (hR:R<=1000) (hC:∀ i,i < R->C i<=1000):(LW R C w).n<=1000/\∀ i,i < (LW R C w).n->((LW R C w).g i).1.n<=1000:=by
 rw [aa3]
 refine ⟨hR,fun i hi=>?_⟩
 rw [aoW hi]
 show (RH (C i) (w i)).n<=1000
 rw [PD]; exact hC i hi
theorem atM {R:Nat} {C:Nat->Nat} {w:Nat->Nat->Int} (hR:R<=1000) (hC:∀ i,i < R->C i<=1000):VN (no_index (LW R C w,(LW R C w,())))=some (true,()):=by
 have h:=aEa (w:=w) hR hC
 rw [aWt h.1 h.2,aEb]
theorem aGD (s:tS.den) (at':Int):M3 (s,(at',()))=some (true,()):=by
 unfold M3 Q3
 obtain ⟨b,h1,h2⟩:=aau (s:=s)
 refine (aK h1).trans ?_
 cases b with
 | false=>exact (aq rfl).trans (aK eZ)
 | true =>
  refine (aR rfl).trans ?_
  obtain ⟨hn,hk⟩:=h2 rfl
  have hn':s.1.n<=1000:=by omega
  have hk':∀ t,t < s.1.n->(s.1.g t).2.1.n<=1000:=fun t ht=>by have:=hk t ht; omega
  cases ho:Io s with
  | false =>
   have ea:∀ b,Jc s b=2:=fun b=>by unfold Jc; rw [ho]; rfl
   have h18:=aiw hn' hk' at' (by rw [ea]; decide)
   have h19:=aqa hn' hk' (by rw [ea]; decide)
   have h20:=aFz hn' hk' (by rw [ea]; decide)
   rw [ea] at h18 h19 h20
   refine (aK h18).trans ?_
   refine (aK h19).trans ?_
   refine (aK h20).trans ?_
   refine (aK (JM hn' hk')).trans ?_
   rw [ho]
   exact (aq rfl).trans ((aq rfl).trans ((aq rfl).trans ((aq rfl).trans ((aq rfl).trans (aK eZ)))))
  | true =>
   have hs:=qP ho
   have h4:=eF hs
   obtain ⟨all,h22,hall⟩:=asM hs
   have han:=aTG hall
   cases ha:Dg s with
   | false =>
    have e2':Jc s false=2:=by unfold Jc; rw [ho]; rfl
    have e7:Jc s true=7:=by unfold Jc; rw [ho,ha]; rfl
    have h19:=aqa hn' hk' (by rw [e7]; decide)
    have h20:=aFz hn' hk' (by rw [e7]; decide)
    rw [e7] at h19 h20
    rw [ha] at han
    by_cases c1:at' < 1
    ·have h18:=aiw hn' hk' at' (by rw [aFA c1,e2']; decide)
     rw [aFA c1,e2'] at h18
     refine (aK h18).trans ?_
     refine (aK h19).trans ?_
     refine (aK h20).trans ?_
     refine (aK (JM hn' hk')).trans ?_
     rw [ho]
     refine (aR rfl).trans ?_
     refine (aK h22).trans ?_
     refine (aq han).trans ((aR rfl).trans ((aR rfl).trans ((aR rfl).trans ?_)))
     refine (aq (decide_eq_true c1)).trans ?_
     exact (aq rfl).trans ((aq rfl).trans (aK eZ))
    ·by_cases c2:((s.1.n:Nat):Int)<=at'
     ·have h18:=aiw hn' hk' at' (by rw [aFB hs c2,e2']; decide)
      rw [aFB hs c2,e2'] at h18
      refine (aK h18).trans ?_
      refine (aK h19).trans ?_
      refine (aK h20).trans ?_
      refine (aK (JM hn' hk')).trans ?_
      rw [ho]
      refine (aR rfl).trans ?_
      refine (aK h22).trans ?_
      refine (aq han).trans ((aR rfl).trans ((aR rfl).trans ((aR rfl).trans ?_)))
      refine (aR (decide_eq_false c1)).trans ((aq (decide_eq_true c2)).trans ?_)
      exact (aq rfl).trans ((aq rfl).trans (aK eZ))
     ·have h18:=aiw hn' hk' at' (by rw [aQz hs c1 c2,e7]; decide)
      rw [aQz hs c1 c2,e7] at h18
      refine (aK h18).trans ?_
      refine (aK h19).trans ?_
      refine (aK h20).trans ?_
      refine (aK (JM hn' hk')).trans ?_
      rw [ho]
      refine (aR rfl).trans ?_
      refine (aK h22).trans ?_
      refine (aq han).trans ((aR rfl).trans ((aR rfl).trans ((aR rfl).trans ?_)))
      refine (aR (decide_eq_false c1)).trans ((aR (decide_eq_false c2)).trans ((aq han).trans ?_))
      exact (aq rfl).trans ((aq rfl).trans (aK eZ))
   | true =>
    have h19:=aAB ho hn' hk' ha
    have h20:=aQy ho hn' hk' ha
    rw [ha] at han
    have e2':Jc s false=2:=by unfold Jc; rw [ho]; rfl
    have hk3:∀ t,t < s.1.n->(s.1.g t).2.1.n<=1000:=hk'
    have r1:VN (Kt s,(Kt s,()))=some (true,()):=atM (by omega) fun i hi=>hk3 _ (by omega)
    have r2:VN (Xg s,(Xg s,()))=some (true,()):=atM (by omega) fun i hi=>hk3 _ (by omega)
    by_cases c1:at' < 1
    ·have h18:=aiw hn' hk' at' (by rw [aFA c1,e2']; decide)
     rw [aFA c1,e2'] at h18
     refine (aK h18).trans ?_
     refine (aK h19).trans ?_
     refine (aK h20).trans ?_
     refine (aK (JM hn' hk')).trans ?_
     rw [ho]
     refine (aR rfl).trans ?_
     refine (aK h22).trans ?_
     refine (aR han).trans ((aR rfl).trans ((aR rfl).trans ?_))
     refine (aK (aKl hs hall)).trans ?_
     refine (aK r1).trans ((aR rfl).trans ?_)
     refine (aK (aKm hs hall)).trans ?_
     refine (aK r2).trans ((aR rfl).trans ?_)
     refine (aq (decide_eq_true c1)).trans ?_
     exact (aq rfl).trans ((aq rfl).trans (aK eZ))
    ·by_cases c2:((s.1.n:Nat):Int)<=at'
     ·have h18:=aiw hn' hk' at' (by rw [aFB hs c2,e2']; decide)
      rw [aFB hs c2,e2'] at h18
      refine (aK h18).trans ?_
      refine (aK h19).trans ?_
      refine (aK h20).trans ?_
      refine (aK (JM hn' hk')).trans ?_
      rw [ho]
      refine (aR rfl).trans ?_
      refine (aK h22).trans ?_
      refine (aR han).trans ((aR rfl).trans ((aR rfl).trans ?_))
      refine (aK (aKl hs hall)).trans ?_
      refine (aK r1).trans ((aR rfl).trans ?_)
      refine (aK (aKm hs hall)).trans ?_
      refine (aK r2).trans ((aR rfl).trans ?_)
      refine (aR (decide_eq_false c1)).trans ((aq (decide_eq_true c2)).trans ?_)
      exact (aq rfl).trans ((aq rfl).trans (aK eZ))
     ·obtain ⟨t,rfl⟩:∃ t:Nat,at'=((t + 1:Nat):Int):=⟨(at' - 1).toNat,by omega⟩
      have ht:t + 1 < s.1.n:=by omega
      have h18:=aFx ho hn' hk' ha ht
      have r3:VN (Cl s t,(Cl s t,()))=some (true,()):=atM (hk3 _ ht) fun i hi=>hk3 _ (by omega)
      refine (aK h18).trans ?_
      refine (aK h19).trans ?_
      refine (aK h20).trans ?_
      refine (aK (JM hn' hk')).trans ?_
      rw [ho]
      refine (aR rfl).trans ?_
      refine (aK h22).trans ?_
      refine (aR han).trans ((aR rfl).trans ((aR rfl).trans ?_))
      refine (aK (aKl hs hall)).trans ?_
      refine (aK r1).trans ((aR rfl).trans ?_)
      refine (aK (aKm hs hall)).trans ?_
      refine (aK r2).trans ((aR rfl).trans ?_)
      refine (aR (decide_eq_false c1)).trans ((aR (decide_eq_false c2)).trans ((aR han).trans ((aq rfl).trans ?_)))
      refine (aK (aWu hs hall ht)).trans ?_
      exact (aK r3).trans ((aq rfl).trans (aK eZ))
theorem bcO (x:(a3).den):M3 x=some (true,()):=by
 obtain ⟨s,at',⟨⟩⟩:=x
 exact aGD s at'
end Go.Dm

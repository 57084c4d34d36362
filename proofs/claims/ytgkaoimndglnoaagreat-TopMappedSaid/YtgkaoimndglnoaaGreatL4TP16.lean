/- TopMapped. -/
import Derived.Test.YtgkaoimndglnoaaGreatL4TP15
set_option linter.unusedVariables false
set_option linter.unusedSimpArgs false
namespace Go.Dm
set_option maxRecDepth 100000
def aiD (m:adh) (st:Sl csT):adh:=(m.1,(m.2.1,(m.2.2.1,(st,()))))
structure afk (m:adh) (l:Sl plT) (f:fdT) (j:Nat) (is:Bool) (st:Sl csT):Prop where
 n:st.n=j
 ok:∀ k,k < j->(st.g k).1=plP (l.g k)/\0<=(st.g k).2.1/\(st.g k).2.1<=(st.g k).2.2.1/\(st.g k).2.2.1<=99999
 is:is=true->∀ k,k < j->∃ p:Nat,plP (l.g k)=(p:Int)/\p < (vls f).n/\(st.g k).2.1<=vlF f p/\vlF f p<=(st.g k).2.2.1
theorem CZ {α:Type} {P:α->Prop} {a b:α} (h:a=b) (hb:P b):P a:=h ▸ hb
def St4 (m:adh) (l:Sl plT) (f:fdT) (j:Nat) (q:RQ yZ RJ):Prop:=q = .out (.ret (true,()))\/∃ is st,afk m l f (j + 1) is st/\q = .next (is,(((j + 1:Nat):Int),(aiD m st,())))
def af5 (G:plT) (a b:Int):csT:=(plP G,(a,(b,())))
theorem afk.step {m:adh} {l:Sl plT} {f:fdT} {j:Nat} {is:Bool} {st:Sl csT} (h:afk m l f j is st) {a b:Int} (h1:0<=a/\a<=b/\b<=99999) {is':Bool} (hi:is'=true->is=true/\∃ p:Nat,plP (l.g j)=(p:Int)/\p < (vls f).n/\a<=vlF f p/\vlF f p<=b):afk m l f (j + 1) is' (snoc st (af5 (l.g j) a b)) where
 n:=by rw [qh,h.n]
 ok:=fun k hk=>by
  by_cases e:k=j
  ·subst e
   have:=AE st (af5 (l.g k) a b)
   rw [h.n] at this
   rw [this]; exact ⟨rfl,h1⟩
  ·rw [HV (by rw [h.n]; omega)]
   exact h.ok k (by omega)
 is:=fun q k hk=>by
  obtain ⟨q1,q2⟩:=hi q
  by_cases e:k=j
  ·subst e
   have:=AE st (af5 (l.g k) a b)
   rw [h.n] at this
   rw [this]; exact q2
  ·rw [HV (by rw [h.n]; omega)]
   exact h.is q1 k (by omega)
theorem aHP {m:adh} {l:Sl plT} {f:fdT} (hm:aqq m) (hl:l.n<=6) {j:Nat} (hj:j < l.n) (hp:alF m (l.g j)) {is:Bool} {st:Sl csT} (hs:afk m l f j is st) :
  St4 m l f j (asR (l,((),((),((),(m,(f,())))))) (is,((j:Int),(aiD m st,())))):=by
 have hS:=KC hp.st
 have hR:=aYj hp.rd
 obtain ⟨h1,h2,z1,z2,e22⟩:=aYP hp.st hp.ag hp.rd
 obtain ⟨h3,z3,e23⟩:=aYR hp.st hp.ag hp.rd hp.tr
 have hin:=aV4 hS hp.ag hR hp.tr
 have eN:W ((j:Int) + 1)=((j + 1:Nat):Int):=ec hj (by omega)
 have hpt:=hp.pt
 obtain ⟨p,hpp⟩:∃ p:Nat,plP (l.g j)=(p:Int):=⟨(plP (l.g j)).toNat,by omega⟩
 generalize biH (mer (plR (l.g j))) (ade (plS (l.g j)) (plR (l.g j)) true true false true)=lo at *
 generalize biH (mer (plR (l.g j))) (ade (plS (l.g j)) (plR (l.g j)) false false true true)=hi at *
 generalize biH (mer (plR (l.g j))) (aDc (l.g j))=w at *
 unfold asR asQ
 refine CZ (P:=St4 m l f j) (cn (decide_eq_true (dW hj))) ?_
 refine CZ (P:=St4 m l f j) (cn (decide_eq_true (bO hj))) ?_
 refine CZ (P:=St4 m l f j) (cn (decide_eq_true (bO hj))) ?_
 refine CZ (P:=St4 m l f j) (cI e22) ?_
 refine CZ (P:=St4 m l f j) (cn (decide_eq_true (bO hj))) ?_
 refine CZ (P:=St4 m l f j) (cn (decide_eq_true (bO hj))) ?_
 refine CZ (P:=St4 m l f j) (cn (decide_eq_true (bO hj))) ?_
 refine CZ (P:=St4 m l f j) (cI e23) ?_
 refine CZ (P:=St4 m l f j) (cR rfl) ?_
 refine CZ (P:=St4 m l f j) (cR rfl) ?_
 by_cases c1:lo < 0
 ·exact .inl ((cn (decide_eq_true c1)).trans (cI fI))
 refine CZ (P:=St4 m l f j) (cR (decide_eq_false c1)) ?_
 by_cases c2:(99999:Int) < hi
 ·exact .inl ((cn (decide_eq_true c2)).trans (cI fI))
 refine CZ (P:=St4 m l f j) (cR (decide_eq_false c2)) ?_
 refine CZ (P:=St4 m l f j) (cn (decide_eq_true (bO hj))) ?_
 refine CZ (P:=St4 m l f j) (cn (decide_eq_true (by show (st.n + 1) * 24<=140737488355328; rw [hs.n]; omega))) ?_
 have h0:0<=lo/\lo<=hi/\hi<=99999:=by omega
 have fin:∀ b,RQ.next (b,(W ((j:Int) + 1),((m.1,(m.2.1,(m.2.2.1,(cj st (⟨1,fun i=>List.getD [af5 (l.g j) lo hi] i (af5 (l.g j) lo hi)⟩:Sl csT),())))),())))=(RQ.next (b,(((j + 1:Nat):Int),(aiD m (snoc st (af5 (l.g j) lo hi)),()))):RQ yZ RJ):=fun b=>by rw [<- eN]; rfl
 cases is with
 | false =>
  exact .inr ⟨false,_,hs.step h0 (fun q=>by cases q),fin false⟩
 | true =>
  refine CZ (P:=St4 m l f j) (cn rfl) ?_
  refine CZ (P:=St4 m l f j) (cn (decide_eq_true (bO hj))) ?_
  by_cases c3:plP (l.g j) < (((vls f).n:Nat):Int)
  ·refine CZ (P:=St4 m l f j) (cn (decide_eq_true c3)) ?_
   refine CZ (P:=St4 m l f j) (cn (decide_eq_true (bO hj))) ?_
   refine CZ (P:=St4 m l f j) (cn (decide_eq_true (show 0<=plP (l.g j)/\plP (l.g j) < (((vls f).n:Nat):Int) from ⟨hpt.1,c3⟩)) ) ?_
   refine .inr ⟨_,_,hs.step h0 (is':=decide (((vls f).g (Int.toNat (plP (l.g j)))).1=w)) fun q=>⟨rfl,p,hpp,by omega,?_⟩,fin _⟩
   have:=of_decide_eq_true q
   rw [hpp,Int.toNat_natCast] at this
   unfold vlF
   rw [this]
   exact hin
  ·exact .inr ⟨false,_,hs.step h0 (fun q=>by cases q),(cR (decide_eq_false c3)).trans (fin false)⟩
theorem atX {m:adh} {l:Sl plT} {f:fdT} (hm:aqq m) (hl:l.n<=6) (hp:∀ j,j < l.n->alF m (l.g j)) :
    asS (l,((),((),((),(m,(f,())))))) (true,((0:Int),(aiD m ⟨0,fun _=>((0:Int),((0:Int),((0:Int),())))⟩,()))) = .ret (true,()) \/
    ∃ is st,afk m l f l.n is st/\asS (l,((),((),((),(m,(f,())))))) (true,((0:Int),(aiD m ⟨0,fun _=>((0:Int),((0:Int),((0:Int),())))⟩,()))) = .exit 0 (is,(aiD m st,())):=
  qj (ps:=yZ) (wy:=RJ) (N:=dw) (step:=asR (l,((),((),((),(m,(f,())))))))
    (P:=fun j v=>∃ is st,afk m l f j is st/\v=(is,((j:Int),(aiD m st,()))))
    (Q:=fun q=>q = .ret (true,())\/∃ is st,afk m l f l.n is st/\q = .exit 0 (is,(aiD m st,())))
    l.n (by unfold dw; omega)
    (fun j v hj hq=>by
      obtain ⟨is,st,hs,rfl⟩:=hq
      rcases aHP hm hl hj (hp j hj) hs with e | ⟨is',st',hs',e⟩
      · exact .inr ⟨_,e,.inl rfl⟩
      · exact .inl ⟨_,e,is',st',hs',rfl⟩)
    (fun v hq=>by
      obtain ⟨is,st,hs,rfl⟩:=hq
      refine ⟨_,?_,.inr ⟨is,st,hs,rfl⟩⟩
      unfold asR asQ
      exact cR (decide_eq_false (by show ¬ (((l.n:Nat):Int) < ((l.n:Nat):Int)); omega)))
    _ ⟨true,_,⟨rfl,fun k hk=>by omega,fun _ k hk=>by omega⟩,rfl⟩
theorem aDd {x:adh} {f:fdT} (h:aqq x) (hf:ajX x f=true):AgC x:=by
 unfold ajX at hf
 rw [Bool.and_eq_true] at hf
 intro i k hik hk
 have hi:=h.ac8 (show i < (sta x).n by omega)
 have hk':=h.ac8 hk
 have s1:iQ (vlF f (adf x i)) (plo x i) (phi x i)=true:=iR hf.1 (show i < (sta x).n by omega)
 have s2:iQ (vlF f (adf x k)) (plo x k) (phi x k)=true:=iR hf.1 hk
 have s1:=rW s1
 have s2:=rW s2
 have g:=alD h hf.2 hi.2 hk'.2
 unfold AF at g
 unfold adu
 rw [decide_eq_false (by omega),decide_eq_false (by omega)]
 rfl
theorem aDe {x:adh} {f:fdT} (h:aqq x) (hS:aFC x f) (hf:ajX x f=true) {p:Nat} (hp:p < adr x):loA x p<=vlF f p/\vlF f p<=hiA x p:=by
 unfold ajX at hf
 rw [Bool.and_eq_true] at hf
 have hv:=hS.v p (by rw [hS.n]; exact hp)
 refine ⟨alM hv.1 fun j hj=>?_,aja hv.2 fun j hj=>?_⟩
 ·have hj':=h.ac8 hj
  have s1:iQ (vlF f (adf x j)) (plo x j) (phi x j)=true:=iR hf.1 hj
  have s1:=rW s1
  have g:=alD h hf.2 hp hj'.2
  unfold AF at g
  omega
 ·have hj':=h.ac8 hj
  have s1:iQ (vlF f (adf x j)) (plo x j) (phi x j)=true:=iR hf.1 hj
  have s1:=rW s1
  have g:=alD h hf.2 hp hj'.2
  unfold AF at g
  omega
theorem ajd (m:adh) (n:Nat):(aiz m n).n=n:=ji rfl
theorem apA (m:adh) {n p:Nat} (hp:p < n):(aiz m n).g p=(loA m p,(hiA m p,())):=qi rfl hp
theorem aj5 (m:adh) (n:Nat):(drawn m n).n=n:=ji rfl
theorem atY (m:adh) {n p:Nat} (hp:p < n):(drawn m n).g p=(ajb m p,()):=qi rfl hp
theorem at1 {x:adh} {f d:fdT} {fits:Bool} (h:aqq x) (hfit:fits=true->aFC x f/\ajX x f=true) :
  yh (no_index ((),((),(fits,(aiz x (adr x),((),((((adr x):Nat):Int),(f,(x,(d,()))))))))))  (no_index ((0:Int),())) = .exit 2 ():=by
 have hN:=h.eN
 unfold yh
 refine cX (ps:=zb) (adr x) dw (fun p=>((p:Int),())) (by unfold dw; omega) (fun p hp=>?_) ?_
 ·unfold asU asT
  have n1:=ajd x (adr x)
  have eN:W ((p:Int) + 1)=((p + 1:Nat):Int):=ec hp (by omega)
  refine (cn (decide_eq_true (dW hp))).trans ?_
  cases hc:fits with
  | false=>rw [<- eN]; rfl
  | true =>
  obtain ⟨hS,hf⟩:=hfit hc
  have hin:=aDe h hS hf hp
  have hpf:p < (vls f).n:=by rw [hS.n]; exact hp
  have hpb:p < (aiz x (adr x)).n:=by omega
  have es:=apA x hp
  refine (cn rfl).trans ?_
  refine (cn (decide_eq_true (bO hpf))).trans ?_
  refine (cn (decide_eq_true (bO hpb))).trans ?_
  refine (cR (decide_eq_false (by show ¬ (vlF f p < ((aiz x (adr x)).g p).1); rw [es]; show ¬ (vlF f p < loA x p); omega))).trans ?_
  refine (cn (decide_eq_true (bO hpf))).trans ?_
  refine (cn (decide_eq_true (bO hpb))).trans ?_
  refine (cR (decide_eq_false (by show ¬ (((aiz x (adr x)).g p).2.1 < vlF f p); rw [es]; show ¬ (hiA x p < vlF f p); omega))).trans ?_
  rw [<- eN]
 ·unfold asU asT
  exact cR (decide_eq_false (by show ¬ (((adr x:Nat):Int) < ((adr x:Nat):Int)); omega))
theorem alG {x:adh} (h:aqq x) (ha:AgC x):yj (no_index ((),((),(x,((x.1,(drawn x (adr x),())),()))))) (no_index ((0:Int),())) = .exit 4 ():=by
 have hN:=h.eN
 have hn:=h.n
 unfold yj
 refine cX (ps:=zc) (sta x).n dw (fun p=>((p:Int),())) (by unfold dw; omega) (fun j hj=>?_) ?_
 ·unfold asW asV
  have hp:=h.ac8 hj
  have n1:=aj5 x (adr x)
  have eN:W ((j:Int) + 1)=((j + 1:Nat):Int):=ec hj (by omega)
  have hpd:adf x j < (drawn x (adr x)).n:=by omega
  have ed:=atY x hp.2
  have eg:((drawn x (adr x)).g (Int.toNat ((sta x).g j).1)).1=ajb x (adf x j):=by rw [hp.1,Int.toNat_natCast,ed]
  have hm:=ax5 h ha (adf x j)
  have h1:=(alO x (adf x j) (n:=(sta x).n)).2 j hj
  have h2:=(alQ x (adf x j) (n:=(sta x).n)).2 j hj
  rw [aET] at h1 h2
  have h3:plo x j<=loA x (adf x j):=by unfold loA; omega
  have h4:hiA x (adf x j)<=phi x j:=by unfold hiA; omega
  have hid:0<=((sta x).g j).1/\((sta x).g j).1 < (((drawn x (adr x)).n:Nat):Int):=by rw [hp.1]; exact bO hpd
  refine (cn (decide_eq_true (dW hj))).trans ?_
  refine (cn (decide_eq_true (bO hj))).trans ?_
  refine (cn (decide_eq_true hid)).trans ?_
  refine (cR (decide_eq_false (by show ¬ (((drawn x (adr x)).g (Int.toNat ((sta x).g j).1)).1 < plo x j); rw [eg]; omega))).trans ?_
  refine (cn (decide_eq_true hid)).trans ?_
  refine (cR (decide_eq_false (by show ¬ (phi x j < ((drawn x (adr x)).g (Int.toNat ((sta x).g j).1)).1); rw [eg]; omega))).trans ?_
  rw [<- eN]
 ·unfold asW asV
  exact cR (decide_eq_false (by show ¬ ((((sta x).n:Nat):Int) < (((sta x).n:Nat):Int)); omega))
end Go.Dm

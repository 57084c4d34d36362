/-
 Of the plain law.
-/
import Derived.Test.YtadkaccpacpklaaL7LP36
set_option linter.unusedVariables false
set_option linter.unusedSimpArgs false
namespace Go.Dm
set_option maxRecDepth 100000
open Go.Low
variable {s:tS.den}
theorem aw1 {b:B6} (h0:0<=b.1/\b.1<=100) (h1:0<=b.2.1/\b.2.1<=100):M42 (no_index (b,()))=some (aco b,()):=by
 have w1:W ((100:Int) - b.2.1)=100 - b.2.1:=gQ ⟨by omega,by omega⟩
 have w2:W ((100:Int) - b.1)=100 - b.1:=gQ ⟨by omega,by omega⟩
 have h48:vA ((W ((100:Int) - b.2.1)),((W ((100:Int) - b.1)),()))=some ((100 - b.2.1,(100 - b.1,())),()):=by rw [w1,w2]; rfl
 unfold M42 Q42
 refine (aK h48).trans ?_
 rfl
def al6 (r:Sl Py.den) (n:Nat):Sl Py.den:=tab e3 (fun i=>aco (r.g i)) n
def aw2 (s:tS.den) (n:Nat):Sl Tc.den:=tab e4 (fun t=>(mT s t,(al6 (s.1.g t).2.1 (s.1.g t).2.1.n,()))) n
def atZ (s:tS.den) (n:Nat):tS.den:=(aw2 s n,s.2)
def acr (s:tS.den):tS.den:=atZ s s.1.n
theorem apP (ho:Io s=true) {t i:Nat} (ht:t < s.1.n) (hi:i < (s.1.g t).2.1.n):(0<=((s.1.g t).2.1.g i).1/\((s.1.g t).2.1.g i).1<=100)/\(0<=((s.1.g t).2.1.g i).2.1/\((s.1.g t).2.1.g i).2.1<=100):=by
 obtain ⟨i0,_,_⟩:=aFC.1 (((aGE ho).1 t ht).2.2.2 i hi)
 exact ⟨⟨i0.1,Int.le_trans i0.2.1 i0.2.2⟩,Int.le_trans i0.1 i0.2.1,i0.2.2⟩
theorem aw3 (ho:Io s=true) {t:Nat} (ht:t < s.1.n) {xs ms:tS.den} :
  ay2 ((),((),((),((t:Int),((),(s,(xs,(ms,())))))))) ((0:Int),((mT s t,(e3,())),())) = .exit 2 ((mT s t,(al6 (s.1.g t).2.1 (s.1.g t).2.1.n,())),()):=by
 have hs:=qP ho
 have hk:=dN hs ht
 unfold ay2
 refine bQ (ps:=WD) (s.1.g t).2.1.n cz (fun j=>((j:Int),((mT s t,(al6 (s.1.g t).2.1 j,())),()))) (by unfold cz; omega) (fun j hj=>?_) ?_
 ·have hb:=apP ho ht hj
  have hn:(al6 (s.1.g t).2.1 j).n=j:=aoU rfl
  have h48:((al6 (s.1.g t).2.1 j).n + 1) * 48<=140737488355328:=by omega
  unfold ay1 ay0
  refine (aq (decide_eq_true (aQ ht))).trans ?_
  refine (aq (decide_eq_true (dW hj))).trans ?_
  refine (aq (decide_eq_true (aQ ht))).trans ?_
  refine (aq (decide_eq_true (aQ hj))).trans ?_
  refine (aK (aw1 hb.1 hb.2)).trans ?_
  refine (aq (decide_eq_true h48)).trans ?_
  exact congrArg (fun q:Int=>(RQ.next (show (aa WD).den from (q,((mT s t,(al6 (s.1.g t).2.1 (j + 1),())),()))):RQ WD anR)) (dR hj (by omega))
 ·unfold ay1 ay0
  have:¬ ((((s.1.g t).2.1.n:Nat):Int) < (((s.1.g t).2.1.n:Nat):Int)):=by omega
  refine (aq (decide_eq_true (aQ ht))).trans ?_
  exact aR (decide_eq_false this)
theorem aLQ (ho:Io s=true):M38 (no_index (s,()))=some (acr s,()):=by
 have hs:=qP ho
 have WM:=eF hs
 have key:aQc ((),((),((),(s,(((⟨0,fun i=>((0:Int),((⟨0,fun i=>((0:Int),((0:Int),((0:Int),((0:Int),((0:Int),((0:Int),()))))))⟩:Sl _),()))⟩:Sl _),((0:Int),((0:Int),((0:Int),((0:Int),()))))),()))))) ((0:Int),(atZ s 0,())) = .exit 0 (acr s,()):=by
  unfold aQc
  refine bQ (ps:=ah3) s.1.n cz (fun j=>((j:Int),(atZ s j,()))) (by unfold cz; omega) (fun j hj=>?_) ?_
  ·have hn:(aw2 s j).n=j:=aoU rfl
   have h32:((aw2 s j).n + 1) * 32<=140737488355328:=by omega
   unfold aJI aJH
   refine (aq (decide_eq_true (dW hj))).trans ?_
   refine (aq (decide_eq_true (aQ hj))).trans ?_
   refine (bp (aw3 ho hj)).trans ?_
   refine (aq (decide_eq_true h32)).trans ?_
   exact congrArg (fun q:Int=>(RQ.next (show (aa ah3).den from (q,(atZ s (j + 1),()))):RQ ah3 ay3)) (dR hj (by omega))
  ·unfold aJI aJH
   exact aR (decide_eq_false (by omega:¬ ((s.1.n:Int) < (s.1.n:Int))))
 unfold M38 Q38
 exact (bp key).trans rfl
theorem aqZ:(acr s).1.n=s.1.n:=aoU rfl
theorem an7 {t:Nat} (h:t < s.1.n):(acr s).1.g t=(mT s t,(al6 (s.1.g t).2.1 (s.1.g t).2.1.n,())):=aze (s0:=e4) rfl h
theorem at0 {r:Sl Py.den} {i:Nat} (h:i < r.n):(al6 r r.n).g i=aco (r.g i):=aze (s0:=e3) rfl h
theorem apA {r:Sl Py.den}:(al6 r r.n).n=r.n:=aoU rfl
theorem arz {t:Nat} (h:t < s.1.n):((acr s).1.g t).2.1.n=(s.1.g t).2.1.n:=by rw [an7 h]; exact apA
theorem amE:aib (cB s) (cB (acr s)):=by
 refine ⟨aqZ,fun t ht=>arz ht,fun t ht=>?_,fun t i ht hi=>?_,rfl,rfl,rfl,rfl⟩
 ·show ((acr s).1.g t).1=mT s t
  rw [an7 ht]
 ·show ((acr s).1.g t).2.1.g i=aco ((s.1.g t).2.1.g i)
  rw [an7 ht]
  exact at0 hi
theorem aFZ {a b:Int} (h1:0<=a) (h2:a<=b) (h3:b<=100):0<=100 - b/\100 - b<=100 - a/\100 - a<=100:=by omega
theorem aAM {wl wh pl ph bl bh:Int} (h1:wl<=pl) (h2:ph<=wh) (h4:pl<=ph) (h5:bl<=wl) (h6:wh<=bh) (b1:0<=bl) (b2:bh<=100):(0<=wl/\wl<=100)/\(0<=wh/\wh<=100):=by omega
theorem aAN (ho:Io s=true):Io (acr s)=true:=by
 obtain ⟨h1,h2,h3,h4,h5,h6⟩:=aGE ho
 have hn:=aqZ (s:=s)
 refine aTL (fun t ht=>?_) (by rw [hn]; exact h2) h3 h4 h5 h6
 rw [hn] at ht
 have hm:∀ u,u < s.1.n->mT (acr s) u=mT s u:=fun u hu=>by
  show ((acr s).1.g u).1=_
  rw [an7 hu]
 have hp:jI (acr s) t=jI s t:=by
  cases t with
  | zero=>rfl
  | succ u=>exact hm u (by omega)
 obtain ⟨a,b,c,d⟩:=h1 t ht
 rw [hm t ht,hp,an7 ht]
 refine ⟨a,b,?_,fun j hj=>?_⟩
 ·dsimp only; rw [apA]; exact c
 ·dsimp only at hj ⊢
  rw [apA] at hj
  rw [at0 hj]
  obtain ⟨i0,i1,i2⟩:=aFC.1 (d j hj)
  exact aFC.2 ⟨⟨i1.1,i1.2.1,i1.2.2⟩,aFZ i0.1 i0.2.1 i0.2.2,i2⟩
theorem arB (ho:Io s=true) (ha:Dg s=true) {t i:Nat} (ht:t < s.1.n) (hi':i < (s.1.g t).2.1.n):(0<=(ach (cB s) t i).1/\(ach (cB s) t i).1<=100)/\(0<=(ach (cB s) t i).2.1/\(ach (cB s) t i).2.1<=100):=by
 have hs:=qP ho
 obtain ⟨L,hL⟩:=Ki.1 ha
 have hne:links (cB s)≠[]:=List.ne_nil_of_mem hL
 have hb:=apP ho ht hi'
 have h1:=(aAC (s:=cB s) (t:=t) (i:=i) (a:=0) hne).1 (Int.le_refl _) L hL
 have h2:=(aAD (s:=cB s) (t:=t) (i:=i) (a:=0) hne).1 (Int.le_refl _) L hL
 have h4:=aTY hs ((tX hs).1 hL) (t:=t) (i:=i) ht hi' 0 (by omega)
 have h5:=(aAC (s:=cB s) (t:=t) (i:=i) (a:=0) (y:=lo ((s.1.g t).2.1.g i) 0) hne).2 fun L _=>aTZ (s:=cB s)
 have h6:=(aAD (s:=cB s) (t:=t) (i:=i) (a:=0) (y:=hi ((s.1.g t).2.1.g i) 0) hne).2 fun L _=>aT0 (s:=cB s)
 exact aAM h1 h2 h4 h5 h6 hb.1.1 hb.2.2
theorem aut {b:B6} {h:Int} {p:PS} (hr:p.speed=p.speed):ain (wide p (aco b) h)=aco (ain (wide p b h)):=by
 obtain ⟨b1,b2,b3,b4,b5,b6,⟨⟩⟩:=b
 unfold ain wide aco
 dsimp only
 have a1:max 0 (100 - b2 - p.speed * h)=100 - min 100 (b2 + p.speed * h):=by omega
 have a2:min 100 (100 - b1 + p.speed * h)=100 - max 0 (b1 - p.speed * h):=by omega
 rw [a1,a2]
end Go.Dm
namespace Go.Dm
set_option maxRecDepth 100000
open Go.Low
variable {s:tS.den}
theorem aAP (hs:(cB s).Ok):(links (cB s)).length<=1000000:=Nat.le_trans (abS hs) (by omega)
theorem asl {P:cT} {n:Nat} (hn:P.n<=n) (h:∀ x∈aW P,x.length<=1000):∀ i,i < P.n->(P.g i).1.n<=1000:=fun i hi=>by
 have:=h _ (List.mem_of_getElem? (tW hi))
 rwa [iN] at this
theorem at3 (p:PS) (L:LL):∀ (m t i:Nat),(des p L m t i).length<=m + 1
 | 0,t,i=>by simp [des]
 | m + 1,t,i=>by
  simp only [des,List.length_cons]
  cases nx p L t i with
  | none=>simp
  | some j=>have:=at3 p L m (t + 1) j; dsimp only; omega
theorem an8:∀ {l m:LL},l.Pairwise llt->(∀ x∈l,x∈m)->l.length<=m.length
 | [],m,_,_=>Nat.zero_le _
 | a :: l,m,h,hm=>by
  rw [List.pairwise_cons] at h
  have ha:=hm a (.head _)
  have ih:=an8 (l:=l) (m:=m.erase a) h.2 fun x hx=>by
   have hne:x≠a:=fun e=>by subst e; exact ajd (h.1 _ hx)
   exact (List.mem_erase_of_ne hne).2 (hm x (.tail _ hx))
  have:=List.length_erase_of_mem ha
  have hpos:=List.length_pos_of_mem ha
  rw [List.length_cons]
  omega
theorem amX (hs:(cB s).Ok) {P:cT} {m t i:Nat} (hm:m<=10) (p1:(aW P).Pairwise llt) (p2:∀ x,x∈aW P↔∃ L∈links (cB s),x=acT (cB s) L m t i):P.n<=1000000/\∀ j,j < P.n->(P.g j).1.n<=1000:=by
 have hPn:P.n<=1000000:=by
  have hm:=an8 p1 (m:=(links (cB s)).map fun L=>acT (cB s) L m t i) fun x hx=>by
   obtain ⟨L,hL,e⟩:=(p2 x).1 hx
   rw [e]; exact List.mem_map_of_mem hL
  rw [List.length_map,dI] at hm
  exact Nat.le_trans hm (aAP hs)
 refine ⟨hPn,asl hPn fun x hx=>?_⟩
 obtain ⟨L,hL,e⟩:=(p2 x).1 hx
 rw [e]
 unfold acT
 rw [List.length_map]
 have:=at3 (cB s) L m t i
 omega
end Go.Dm
namespace Go.Dm
set_option maxRecDepth 100000
open Go.Low
variable {s:tS.den}
theorem arH {L:LL} {m t i:Nat} (h:t + m < s.1.n):acT (cB (acr s)) L m t i=acT (cB s) L m t i:=by
 unfold acT
 rw [(amE (s:=s)).des (by exact h)]
theorem ajA (hs:(cB s).Ok):links (cB (acr s))=links (cB s):=(amE (s:=s)).links hs.n1
theorem apQ (hs:(cB s).Ok):Dg (acr s)=Dg s:=by
 unfold Dg
 rw [ajA hs]
theorem aCS (b:B6):(!((decide (b.1=b.1)) && ((decide (b.2.1=b.2.1)) && ((decide (b.2.2.1=b.2.2.1)) && ((decide (b.2.2.2.1=b.2.2.2.1)) && ((decide (b.2.2.2.2.1=b.2.2.2.2.1)) && ((decide (b.2.2.2.2.2.1=b.2.2.2.2.2.1)) && true)))))))=false:=by simp
theorem arI (s:tS.den) (at' one h:Int):M7 (s,(at',(one,(h,()))))=some (true,()):=by
 unfold M7 Q7
 obtain ⟨b,h1,h2⟩:=aau (s:=s)
 refine (aK h1).trans ?_
 cases b with
 | false=>exact (aq rfl).trans (aK eZ)
 | true =>
 refine (aR rfl).trans ?_
 obtain ⟨hn,hk⟩:=h2 rfl
 have hn':s.1.n<=1000:=by omega
 have hk':∀ t,t < s.1.n->(s.1.g t).2.1.n<=1000:=fun t ht=>by have:=hk t ht; omega
 refine (aK (JM hn' hk')).trans ?_
 cases ho:Io s with
 | false=>exact (aq rfl).trans (aK eZ)
 | true =>
 refine (aR rfl).trans ?_
 refine (aK (aWw hn' at' one)).trans ?_
 cases hl:lowB s at' one with
 | false=>exact (aq rfl).trans (aK eZ)
 | true =>
 refine (aR rfl).trans ?_
 refine (aK (aBB h)).trans ?_
 cases hh:oV h 0 200 with
 | false=>exact (aq rfl).trans (aK eZ)
 | true =>
 refine (aR rfl).trans ?_
 obtain ⟨q0,q1⟩:=au7 hh
 have hs:=qP ho
 have hox:=aAN ho
 have hx:=qP hox
 have WM:=eF hs
 have T:=amE (s:=s)
 have hnx:=aqZ (s:=s)
 have hlx:((acr s).1.n:Nat)<=1000:=by omega
 have hkx:∀ t,t < (acr s).1.n->((acr s).1.g t).2.1.n<=1000:=(abi hx).2
 have hwn:=wn1 hs
 obtain ⟨t,i,rfl,rfl,ht,hi⟩:=lowB_ex hn' hk' hl
 have hix:i < ((acr s).1.g t).2.1.n:=by rw [arz ht]; exact hi
 have aBL:lowB (acr s) (t:Int) (i:Int)=true:=lowB_nat hox (by omega) hix
 refine (aK (aLQ ho)).trans ?_
 cases ha:Dg s with
 | false =>
  have hax:Dg (acr s)=false:=by rw [apQ hs,ha]
  have es:Jc s true=7:=by unfold Jc; rw [ho,ha]; rfl
  have ex:Jc (acr s) true=7:=by unfold Jc; rw [hox,hax]; rfl
  have s39:=atY (s:=s) hn' hk' (t:Int) (i:Int) (by rw [hl,es]; decide)
  have x39:=atY (s:=acr s) hlx hkx (t:Int) (i:Int) (by rw [aBL,ex]; decide)
  have s36:=aFD (s:=s) hn' hk' (t:Int) (i:Int) (by rw [hl,es]; decide)
  have x36:=aFD (s:=acr s) hlx hkx (t:Int) (i:Int) (by rw [aBL,ex]; decide)
  have s40:=aos (s:=s) hn' hk' (by rw [es]; decide)
  have x40:=aos (s:=acr s) hlx hkx (by rw [ex]; decide)
  rw [hl,es] at s39 s36
  rw [aBL,ex] at x39 x36
  rw [es] at s40
  rw [ex] at x40
  have m41:=awZ (a:=(e2:cT)) (b:=(e2:cT)) (Nat.zero_le _) (fun i hi=>absurd hi (Nat.not_lt_zero _)) rfl
  refine (aK s39).trans ?_
  refine (aK x39).trans ?_
  refine (aK s36).trans ?_
  refine (aK x36).trans ?_
  refine (aK s40).trans ?_
  refine (aK x40).trans ?_
  refine (aR rfl).trans ((aR rfl).trans ((aR rfl).trans ((aR rfl).trans ((aR rfl).trans ?_))))
  refine (aK m41).trans ?_
  refine (aR rfl).trans ((aR rfl).trans ?_)
  refine (aK m41).trans ?_
  exact (aR rfl).trans ((aq rfl).trans (aK eZ))
 | true =>
  have hax:Dg (acr s)=true:=by rw [apQ hs,ha]
  have hne:links (cB s)≠[]:=by
   obtain ⟨L,hL⟩:=Ki.1 ha
   exact List.ne_nil_of_mem hL
  obtain ⟨P,s39,p1,p2⟩:=awX ho ha ht hi
  obtain ⟨P',x39,p3,p4⟩:=awX hox hax (t:=t) (i:=i) (by omega) hix
  rw [hnx,ajA hs] at p4
  have abT:aW P=aW P':=apb p1 p3 fun x=>by
   rw [p2,p4]
   refine exists_congr fun L=>and_congr_right fun _=>?_
   rw [arH (by omega)]
  obtain ⟨hPn,hPk⟩:=amX hs (by omega) p1 p2
  obtain ⟨rows,s40,f1⟩:=aBC ho ha
  obtain ⟨aLS,x40,f2⟩:=aBC hox hax
  have xU:0 < s.1.n:=hs.n1
  rw [ajA hs,<- f1] at f2
  rw [f2,arz xU] at x40
  have hL:aW rows∈links (cB s):=by rw [f1]; exact abZ hne
  have hr:=aia hs hL
  obtain ⟨_,_,_,r4,r5⟩:=acj hs hr
  have m41:=awZ (a:=P) (b:=P') hPn hPk abT
  have aVx:=awZ (a:=rows) (b:=aLS) (by omega) (fun i hi=>by have:=r5 i hi; omega) f2.symm
  have Ag:ach (cB (acr s)) t i=aco (ach (cB s) t i):=T.where hs ht hi hne
  have x36:=aKu hox hax (t:=t) (i:=i) (by omega) hix
  rw [Ag] at x36
  have sd:=arB ho ha ht hi
  refine (aK s39).trans ?_
  refine (aK x39).trans ?_
  refine (aK (aKu ho ha ht hi)).trans ?_
  refine (aK x36).trans ?_
  refine (aK s40).trans ?_
  refine (aK x40).trans ?_
  refine (aR rfl).trans ((aR rfl).trans ((aR rfl).trans ((aR rfl).trans ((aR rfl).trans ?_))))
  refine (aK m41).trans ?_
  refine (aR rfl).trans ?_
  refine (aR (nb rfl)).trans ?_
  refine (aK aVx).trans ?_
  refine (aR rfl).trans ((aR rfl).trans ?_)
  refine (aK (aw1 sd.1 sd.2)).trans ?_
  refine (aR (aCS _)).trans ?_
  by_cases c:(t:Int)=W (((s.1.n:Nat):Int) - 1)
  ·refine (aq (decide_eq_true c)).trans ?_
   rw [hwn] at c
   obtain rfl:t=s.1.n - 1:=by omega
   have s43:=aBv ho ha hi q0 q1
   have x43:=aBv hox hax (i:=i) (by rw [hnx]; exact hix) q0 q1
   rw [hnx,Ag] at x43
   have abW:ain (wide (cB (acr s)) (aco (ach (cB s) (s.1.n - 1) i)) h)=aco (ain (wide (cB s) (ach (cB s) (s.1.n - 1) i) h)):=aut (p:=cB s) rfl
   rw [abW] at x43
   have sp:=hs.dV 0
   have hf:0<=dV (cB s) 0 * h:=Int.mul_nonneg sp q0
   have sd2:∀ b:B6,(0<=b.1/\b.1<=100)/\(0<=b.2.1/\b.2.1<=100)->(0<=(ain (wide (cB s) b h)).1/\(ain (wide (cB s) b h)).1<=100)/\(0<=(ain (wide (cB s) b h)).2.1/\(ain (wide (cB s) b h)).2.1<=100):=by
    intro b hb
    obtain ⟨b1,b2,b3,b4,b5,b6,⟨⟩⟩:=b
    have hb:(0<=b1/\b1<=100)/\(0<=b2/\b2<=100):=hb
    show (0<=max 0 (b1 - dV (cB s) 0 * h)/\max 0 (b1 - dV (cB s) 0 * h)<=100)/\(0<=min 100 (b2 + dV (cB s) 0 * h)/\min 100 (b2 + dV (cB s) 0 * h)<=100)
    omega
   have sd3:=sd2 _ sd
   refine (aK s43).trans ?_
   refine (aK x43).trans ?_
   refine (aR rfl).trans ((aR rfl).trans ?_)
   refine (aK (aw1 sd3.1 sd3.2)).trans ?_
   refine (aR (aCS _)).trans ?_
   exact aK eZ
  ·exact (aR (decide_eq_false c)).trans (aK eZ)
theorem bik (x:(a7).den):M7 x=some (true,()):=by
 obtain ⟨s,at',one,h,⟨⟩⟩:=x
 exact arI s at' one h
end Go.Dm

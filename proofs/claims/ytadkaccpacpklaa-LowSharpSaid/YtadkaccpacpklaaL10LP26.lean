/- low.Where in plain terms. -/
import Derived.Test.YtadkaccpacpklaaL10LP18
import Derived.Test.YtadkaccpacpklaaL10LM5
set_option linter.unusedVariables false
set_option linter.unusedSimpArgs false
namespace Go.Dm
set_option maxRecDepth 100000
open Go.Low
variable {s:tS.den}
theorem azl {p w:B6} (h:UY (inter p w)=true):xB (no_index (p,((⟨1,fun i=>List.getD [w] i w⟩:Sl Py.den),())))=some (inter p w,()):=by
 obtain ⟨p1,p2,p3,p4,p5,p6,⟨⟩⟩:=p
 obtain ⟨w1,w2,w3,w4,w5,w6,⟨⟩⟩:=w
 have h:(decide (max p1 w1<=min p2 w2) && decide (max p3 w3<=min p4 w4) && decide (max p5 w5<=min p6 w6))=true:=h
 simp only [Bool.and_eq_true,decide_eq_true_eq] at h
 obtain ⟨⟨d1,d2⟩,d3⟩:=h
 have s0:∀ v:(aa fT).den,v.1=1->zJ ((),((),((⟨1,fun i=>List.getD [((w1,(w2,(w3,(w4,(w5,(w6,())))))):B6)] i (w1,(w2,(w3,(w4,(w5,(w6,()))))))⟩:Sl Py.den),(((1:Nat):Int),(((0:Int),((0:Int),((0:Int),((0:Int),((0:Int),((0:Int),())))))),()))))) v = .out (.exit 0 (v.2.1,())):=fun v hv=>by
  unfold zJ Cc
  rw [hv]
  rfl
 have s1:zJ ((),((),((⟨1,fun i=>List.getD [((w1,(w2,(w3,(w4,(w5,(w6,())))))):B6)] i (w1,(w2,(w3,(w4,(w5,(w6,()))))))⟩:Sl Py.den),(((1:Nat):Int),(((0:Int),((0:Int),((0:Int),((0:Int),((0:Int),((0:Int),())))))),()))))) ((0:Int),((p1,(p2,(p3,(p4,(p5,(p6,())))))),())) =
   bif decide (mn p2 w2 < mx p1 w1) then .out (.cw 150 OA ((0:Int),()) ()) else bif decide (mn p4 w4 < mx p3 w3) then .out (.cw 150 OA ((1:Int),()) ()) else bif decide (mn p6 w6 < mx p5 w5) then .out (.cw 150 OA ((2:Int),()) ()) else .next ((1:Int),((mx p1 w1,(mn p2 w2,(mx p3 w3,(mn p4 w4,(mx p5 w5,(mn p6 w6,())))))),())):=rfl
 rw [GU,GU,GU,LI,LI,LI] at s1
 have c1:¬ (min p2 w2 < max p1 w1):=by omega
 have c2:¬ (min p4 w4 < max p3 w3):=by omega
 have c3:¬ (min p6 w6 < max p5 w5):=by omega
 rw [decide_eq_false c1,cond_false,decide_eq_false c2,cond_false,decide_eq_false c3,cond_false] at s1
 have key:AW ((),((),((⟨1,fun i=>List.getD [((w1,(w2,(w3,(w4,(w5,(w6,())))))):B6)] i (w1,(w2,(w3,(w4,(w5,(w6,()))))))⟩:Sl Py.den),(((1:Nat):Int),(((0:Int),((0:Int),((0:Int),((0:Int),((0:Int),((0:Int),())))))),()))))) ((0:Int),((p1,(p2,(p3,(p4,(p5,(p6,())))))),())) = .exit 0 ((max p1 w1,(min p2 w2,(max p3 w3,(min p4 w4,(max p5 w5,(min p6 w6,())))))),()):=by
  unfold AW
  refine bQ (ps:=fT) 1 cz (fun j=>match j with | 0=>((0:Int),((p1,(p2,(p3,(p4,(p5,(p6,())))))),())) | _=>((1:Int),((max p1 w1,(min p2 w2,(max p3 w3,(min p4 w4,(max p5 w5,(min p6 w6,())))))),()))) (by unfold cz; omega) (fun j hj=>?_) ?_
  ·obtain rfl:j=0:=by omega
   exact s1
  ·exact s0 _ rfl
 unfold xB RV
 exact bp key
theorem aAH (hs:(cB s).Ok) {t i:Nat} (ht:t < s.1.n) (hi':i < (s.1.g t).2.1.n) {b:B6} (hne:ne b) (h1:∀ a,lo ((s.1.g t).2.1.g i) a<=lo b a) (h2:∀ a,hi b a<=hi ((s.1.g t).2.1.g i) a):vL b:=fun a ha=>by
 have q1:=lE hs ht hi' a ha
 have q2:=hne a ha
 have q3:=h1 a
 have q4:=h2 a
 omega
theorem aEh (hs:(cB s).Ok) {L:LL} (h:wD (cB s) L) {t i:Nat} (ht:t < s.1.n) (hi':i < (s.1.g t).2.1.n):vL (Low.can (cB s) L t i):=by
 refine aAH hs ht hi' (azm hs h ht hi') (fun a=>?_) fun a=>?_
 ·have:=(Mi (s:=cB s) L a _ t i).1 (Int.le_refl _) _ (aa4 L t i)
  rw [Int.sub_self,Int.mul_zero,Int.sub_zero] at this
  exact this
 ·have:=(Mj (s:=cB s) L a _ t i).1 (Int.le_refl _) _ (aa4 L t i)
  rw [Int.sub_self,Int.mul_zero,Int.add_zero] at this
  exact this
theorem aAI (L:LL) (m t i:Nat):(t,i)∈des (cB s) L m t i:=by cases m <;> simp [des]
theorem aGJ (hs:(cB s).Ok) {L:LL} (h:wD (cB s) L) {m t i:Nat} (ht:t + m < s.1.n) (hi':i < (s.1.g t).2.1.n):vL (fut (cB s) L m t i):=by
 refine aAH hs (t:=t) (by omega) hi' (azn hs h ht hi') (fun a=>?_) fun a=>?_
 ·have:=(atS (s:=cB s) L a m t i _).1 (Int.le_refl _) _ (aAI L m t i)
  rw [Int.sub_self,Int.mul_zero,Int.sub_zero] at this
  exact this
 ·have:=(atT (s:=cB s) L a m t i _).1 (Int.le_refl _) _ (aAI L m t i)
  rw [Int.sub_self,Int.mul_zero,Int.add_zero] at this
  exact this
theorem atU {c d:Nat->Bool}:∀ {n:Nat},(∀ j,j < n->c j=d j)->fB c n=fB d n
 | 0,_=>rfl
 | n + 1,h=>by
  have ih:=atU (n:=n) fun j hj=>h j (by omega)
  simp only [fB,ih,h n (by omega)]
theorem aKC (hs:(cB s).Ok) {rows:cT} (hL:aW rows∈links (cB s)):∀ (n t i:Nat),t < n->t < s.1.n->i < (s.1.g t).2.1.n ->
  Yc n (no_index ((vw s rows).1,((t:Int),((i:Int),()))))=some (Low.can (cB s) (aW rows) t i,())
 | 0,t,i,h,_,_=>by omega
 | n + 1,0,i,_,ht,hi'=>by
  show UT (Yc n) _=_
  unfold UT acd
  refine (aK (Po ht hi')).trans ?_
  exact aR rfl
 | n + 1,t + 1,i,hn,ht,hi'=>by
  have hr:=aia hs hL
  have hI:=(tX hs).1 hL
  have WM:=eF hs
  have hk:=dN hs (t:=t) (by omega)
  have hr0:=hr.n
  have tY:i < (rows.g (t + 1)).1.n:=by rw [hr.k _ ht]; exact hi'
  have RI:t + 1 < rows.n:=by rw [hr.n]; exact ht
  have hl:qR (aW rows) (t + 1) i=(show Int from ((rows.g (t + 1)).1.g i).1):=OO RI tY
  have a0:(0:Int) < ((t + 1:Nat):Int):=by omega
  have a1:(0:Int)<=((t + 1:Nat):Int)/\((t + 1:Nat):Int) < ((rows.n:Nat):Int):=by omega
  have a2:(0:Int)<=(i:Int)/\(i:Int) < ((((rows.g (t + 1)).1.n:Nat)):Int):=by omega
  show UT (Yc n) _=_
  unfold UT acd
  refine (aK (Po ht hi')).trans ?_
  refine (aq (decide_eq_true a0)).trans ?_
  refine (aq (decide_eq_true a1)).trans ?_
  refine (aq (decide_eq_true a2)).trans ?_
  simp only [Low.can]
  by_cases c:0<=qR (aW rows) (t + 1) i
  ·rw [if_pos c]
   have c':(0:Int)<=(show Int from ((rows.g (t + 1)).1.g i).1):=by rw [<- hl]; exact c
   rcases hI.afg ht hi' with h1 | h1
   ·omega
   have e:(show Int from ((rows.g (t + 1)).1.g i).1)=(((qR (aW rows) (t + 1) i).toNat:Nat):Int):=by rw [<- hl]; omega
   have ih:=aKC hs hL n t (qR (aW rows) (t + 1) i).toNat (by omega) (by omega) h1.2.1
   have ih':Yc n ((vw s rows).1,((W (((t + 1:Nat):Int) - 1)),((rows.g (t + 1)).1.g i)))=some (Low.can (cB s) (aW rows) t (qR (aW rows) (t + 1) i).toNat,()):=by
    rw [wo (n:=s.1.n) (by omega) ht]
    refine Eq.trans (congrArg (fun z:Int=>Yc n ((vw s rows).1,((t:Int),(z,())))) e) ih
   have hm0:0<=mT s t/\mT s t<=200:=hs.Xp t (Nat.lt_of_succ_lt ht)
   have hm1:0<=mT s (t + 1)/\mT s (t + 1)<=200:=hs.Xp (t + 1) ht
   have hm2:mT s t < mT s (t + 1):=hs.tm t ht
   have hcan:=azm hs hI (t:=t + 1) ht hi'
   simp only [Low.can] at hcan
   rw [if_pos c] at hcan
   refine (aq (decide_eq_true c')).trans ?_
   refine (aq (decide_eq_true a1)).trans ?_
   refine (aq (decide_eq_true a2)).trans ?_
   refine (aK ih').trans ?_
   refine (aK (afH hs ht)).trans ?_
   refine (aK (ang hs (aEh hs hI (by omega) h1.2.1) (h:=mT s (t + 1) - mT s t) (by omega) (by omega))).trans ?_
   refine (aK (azl (Wc.2 hcan))).trans ?_
   rfl
  ·rw [if_neg c]
   have c':¬ ((0:Int)<=(show Int from ((rows.g (t + 1)).1.g i).1)):=by rw [<- hl]; exact c
   exact aR (decide_eq_false c')
theorem aTW {rows:cT} (hn:rows.n=s.1.n) (h4:s.1.n<=4) {t i:Nat} (ht:t + 1 < s.1.n) (hr:(rows.g (t + 1)).1.n<=1000) :
  Ay (no_index ((vw s rows).1,((t:Int),((i:Int),()))))=some ((match fB (fun j=>decide ((i:Int)=((rows.g (t + 1)).1.g j).1)) (rows.g (t + 1)).1.n with | some k=>(k:Int) | none=>-1),()):=by
 have adO:=aat (rows.g (t + 1)).1 (by omega) (i:Int)
 have hW:W ((t:Int) + 1)=((t + 1:Nat):Int):=dR (n:=s.1.n) (by omega) (by omega)
 have key:∀ w:Int,w=((t + 1:Nat):Int)->(bif decide (w=((s.1.n:Nat):Int)) then some ((-1:Int),()) else bif decide ((0:Int)<=w/\w < ((rows.n:Nat):Int)) then cl (Dx).dflt (Gq ((rows.g (Int.toNat w)).1,((i:Int),()))) (fun u0=>some u0) none else none)=some ((match fB (fun j=>decide ((i:Int)=((rows.g (t + 1)).1.g j).1)) (rows.g (t + 1)).1.n with | some k=>(k:Int) | none=>-1),()):=by
  intro w hw
  subst hw
  have c1:¬ (((t + 1:Nat):Int)=((s.1.n:Nat):Int)):=by omega
  refine (aR (decide_eq_false c1)).trans ?_
  refine (aq (decide_eq_true (aQ (by omega)))).trans ?_
  exact aK adO
 unfold Ay aa9
 exact key _ hW
theorem aGK {rows:cT} {t i:Nat} (ht:t + 1=s.1.n) (h4:s.1.n<=4):Ay (no_index ((vw s rows).1,((t:Int),((i:Int),()))))=some ((-1:Int),()):=by
 have hW:W ((t:Int) + 1)=((s.1.n:Nat):Int):=by rw [gQ ⟨by omega,by omega⟩]; omega
 unfold Ay aa9
 exact aq (decide_eq_true hW)
theorem aPH (hs:(cB s).Ok) {rows:cT} (hr:PC s rows) {t i:Nat} (ht:t + 1 < s.1.n):fB (fun j=>decide ((i:Int)=((rows.g (t + 1)).1.g j).1)) (rows.g (t + 1)).1.n=nx (cB s) (aW rows) t i:=by
 have hk:(rows.g (t + 1)).1.n=(cB s).k (t + 1):=hr.k _ ht
 unfold nx
 rw [hk]
 refine atU fun j hj=>?_
 have:=OO (o:=rows) (t:=t + 1) (i:=j) (by rw [hr.n]; exact ht) (by rw [hk]; exact hj)
 rw [this]
theorem aKD (hs:(cB s).Ok) {rows:cT} (hL:aW rows∈links (cB s)):∀ (m n t i:Nat),m < n->t + m + 1=s.1.n->i < (s.1.g t).2.1.n ->
  aaj n (no_index ((vw s rows).1,((t:Int),((i:Int),()))))=some (fut (cB s) (aW rows) m t i,())
 | m,0,t,i,h,_,_=>by omega
 | 0,n + 1,t,i,_,ht,hi'=>by
  have WM:=eF hs
  show UU (aaj n) _=_
  unfold UU ace
  refine (aK (Po (by omega) hi')).trans ?_
  refine (aK (aGK (by omega) (by omega))).trans ?_
  exact aR rfl
 | m + 1,n + 1,t,i,hn,ht,hi'=>by
  have hr:=aia hs hL
  have hI:=(tX hs).1 hL
  have WM:=eF hs
  have ht1:t + 1 < s.1.n:=by omega
  have hk1:=dN hs ht1
  have aba:=aTW (i:=i) hr.n (by omega) ht1 (by rw [hr.k _ ht1]; omega)
  rw [aPH hs hr ht1] at aba
  show UU (aaj n) _=_
  unfold UU ace
  refine (aK (Po (by omega) hi')).trans ?_
  refine (aK aba).trans ?_
  simp only [fut]
  have aTX:=azn hs hI (m:=m + 1) (t:=t) (i:=i) (by show t + (m + 1) < s.1.n; omega) hi'
  simp only [fut] at aTX
  cases hn':nx (cB s) (aW rows) t i with
  | none=>exact aR rfl
  | some j =>
   rw [hn'] at aTX
   have h1:=aqc hn'
   have hj:j < (s.1.g (t + 1)).2.1.n:=h1.1
   have c':(0:Int)<=((j:Nat):Int):=by omega
   have hW:W ((t:Int) + 1)=((t + 1:Nat):Int):=dR (n:=s.1.n) (by omega) (by omega)
   have ih:=aKD hs hL m n (t + 1) j (by omega) (by omega) hj
   have ih':aaj n ((vw s rows).1,((W ((t:Int) + 1)),((j:Int),())))=some (fut (cB s) (aW rows) m (t + 1) j,()):=by rw [hW]; exact ih
   have hm0:0<=mT s t/\mT s t<=200:=hs.Xp t (Nat.lt_of_succ_lt ht1)
   have hm1:0<=mT s (t + 1)/\mT s (t + 1)<=200:=hs.Xp (t + 1) ht1
   have hm2:mT s t < mT s (t + 1):=hs.tm t ht1
   have h96:WG (dx s,((W ((t:Int) + 1)),()))=some (mT s (t + 1) - mT s t,()):=by rw [hW]; exact afH hs ht1
   refine (aq (decide_eq_true c')).trans ?_
   refine (aK ih').trans ?_
   refine (aK h96).trans ?_
   refine (aK (ang hs (aGJ hs hI (by omega) hj) (h:=mT s (t + 1) - mT s t) (by omega) (by omega))).trans ?_
   refine (aK (azl (Wc.2 aTX))).trans ?_
   rfl
theorem aFI (b c:B6):apv b c=(mn b.1 c.1,(mx b.2.1 c.2.1,(mn b.2.2.1 c.2.2.1,(mx b.2.2.2.1 c.2.2.2.1,(mn b.2.2.2.2.1 c.2.2.2.2.1,(mx b.2.2.2.2.2.1 c.2.2.2.2.2.1,())))))):=by
 unfold apv; simp only [LI,GU]
theorem aGL (b:B6):apv b b=b:=B6.ext (fun a _=>by rw [aFJ,Int.min_self]) fun a _=>by rw [aFK,Int.max_self]
def aKE (t i:Int) (b out:B6) (met:Bool):RO jN:=.next ((),((),((),((),((),((t,()),((i,()),(b,(out,((met,()),()))))))))))
theorem aQD (hs:(cB s).Ok) {rows:cT} (hL:aW rows∈links (cB s)) {t i:Nat} (ht:t < s.1.n) (hi':i < (s.1.g t).2.1.n) (b out:B6) (met:Bool) :
  PT ((),((),((),((),((),(((t:Int),()),(((i:Int),()),(b,(out,((met,()),())))))))))) (vw s rows)=aKE t i b (bif met then apv out (pos (cB s) (aW rows) t i) else pos (cB s) (aW rows) t i) true:=by
 have WM:=eF hs
 have hI:=(tX hs).1 hL
 have h6:=aKC hs hL 6 t i (by omega) ht hi'
 have h7:=aKD hs hL (s.1.n - 1 - t) 6 t i (by omega) (by omega) hi'
 have hp:=Wc.2 (aTY hs hI (t:=t) (i:=i) ht hi')
 unfold PT RW
 refine (aK h6).trans ?_
 refine (aK h7).trans ?_
 refine (aK (azl hp)).trans ?_
 cases met with
 | false =>
  refine (aq rfl).trans ?_
  have e:=aGL (pos (cB s) (aW rows) t i)
  rw [aFI] at e
  exact congrArg (fun q:B6=>aKE t i b q true) e
 | true =>
  refine (aR rfl).trans ?_
  have e:=aFI out (pos (cB s) (aW rows) t i)
  exact congrArg (fun q:B6=>aKE t i b q true) e.symm
theorem aFL (hs:(cB s).Ok) {t i:Nat} (ht:t < s.1.n) (hi':i < (s.1.g t).2.1.n) (b:B6):∀ (l:List fD.den) (out:B6),(∀ it∈l,Good s it/\toL it∈links (cB s)) ->
  NK ((),((),((),((),((),(((t:Int),()),(((i:Int),()),(b,(out,((true,()),())))))))))) l=aKE t i b (apg out (l.map fun it=>pos (cB s) (toL it) t i)) true
 | [],out,_=>rfl
 | it :: l,out,hg=>by
  obtain ⟨g1,g2⟩:=hg it (.head _)
  obtain ⟨rows,rfl,hr,hL⟩:=g1.rows
  rw [hL] at g2
  have st:=aQD hs g2 ht hi' b out true
  have ih:=aFL hs ht hi' b l (apv out (pos (cB s) (aW rows) t i)) fun x hx=>hg x (.tail _ hx)
  unfold NK at ih ⊢
  simp only [eW,st]
  refine ih.trans ?_
  rw [List.map_cons,hL]
  rfl
theorem aWz (hs:(cB s).Ok) (ha:Dg s=true) {t i:Nat} (ht:t < s.1.n) (hi':i < (s.1.g t).2.1.n):M80 (no_index (s,((t:Int),((i:Int),()))))=some (ach (cB s) t i,()):=by
 obtain ⟨z,h1,h2,h3⟩:=anh hs
 have hmem:∀ it∈z.list,Good s it/\toL it∈links (cB s):=fun it hit=>⟨h3 it hit,by rw [<- h2]; exact List.mem_map_of_mem hit⟩
 have hne:links (cB s)≠[]:=by
  obtain ⟨L,hL⟩:=Ki.1 ha
  exact List.ne_nil_of_mem hL
 have key:NK ((),((),((),((),((),(((t:Int),()),(((i:Int),()),(((0:Int),((0:Int),((0:Int),((0:Int),((0:Int),((0:Int),())))))),(((0:Int),((0:Int),((0:Int),((0:Int),((0:Int),((0:Int),())))))),((false,()),())))))))))) z.list=aKE t i ((0:Int),((0:Int),((0:Int),((0:Int),((0:Int),((0:Int),())))))) (ach (cB s) t i) true:=by
  unfold ach
  rw [<- h2] at hne ⊢
  revert hne hmem
  cases z.list with
  | nil=>intro _ hne; exact absurd rfl hne
  | cons it l =>
   intro hmem _
   obtain ⟨g1,g2⟩:=hmem it (.head _)
   obtain ⟨rows,rfl,hr,hL⟩:=g1.rows
   rw [hL] at g2
   have st:=aQD hs g2 ht hi' ((0:Int),((0:Int),((0:Int),((0:Int),((0:Int),((0:Int),())))))) ((0:Int),((0:Int),((0:Int),((0:Int),((0:Int),((0:Int),())))))) false
   have ih:=aFL hs ht hi' ((0:Int),((0:Int),((0:Int),((0:Int),((0:Int),((0:Int),())))))) l (pos (cB s) (aW rows) t i) fun x hx=>hmem x (.tail _ hx)
   unfold NK at ih ⊢
   simp only [eW,st]
   refine ih.trans ?_
   rw [List.map_cons,hL]
   have e:(l.map fun it=>pos (cB s) (toL it) t i)=(l.map toL).map fun L=>pos (cB s) L t i:=(List.map_map (f:=toL) (g:=fun L=>pos (cB s) L t i) (l:=l)).symm
   rw [e]
   rfl
 unfold M80 Q80
 refine (aK h1).trans ?_
 refine (congrArg (fun o=>oQ o _ (oR o _ _)) key).trans ?_
 rfl
def lowB (s:tS.den) (t i:Int):Bool:=oV t 0 (W (((s.1.n:Nat):Int) - 1)) && oV i 0 (W ((((s.1.g t.toNat).2.1.n:Nat):Int) - 1))
theorem auQ {n:Nat} (hn:n<=1000) {x:Int}:oV x 0 (W (((n:Nat):Int) - 1))=true↔0<=x/\x.toNat < n:=by
 rw [gQ ⟨by omega,by omega⟩]
 unfold oV
 rw [Bool.and_eq_true,decide_eq_true_eq,decide_eq_true_eq]
 omega
theorem aQE (hn:s.1.n<=1000) (t i:Int):M78 (no_index (s,(t,(i,()))))=some (lowB s t i,()):=by
 unfold M78 Q78 lowB
 refine (aK (zk _ _ _)).trans ?_
 cases h:oV t 0 (W (((s.1.n:Nat):Int) - 1)) with
 | false=>exact aR rfl
 | true =>
  have h1:=(auQ hn).1 h
  have a:(0:Int)<=t/\t < ((s.1.n:Nat):Int):=by omega
  refine (aq rfl).trans ?_
  refine (aq (decide_eq_true a)).trans ?_
  exact aK (zk _ _ _)
theorem lowB_nat (ho:Io s=true) {t i:Nat} (ht:t < s.1.n) (hi':i < (s.1.g t).2.1.n):lowB s t i=true:=by
 have hs:=qP ho
 have WM:=eF hs
 have hk:=dN hs ht
 unfold lowB
 rw [Bool.and_eq_true]
 exact ⟨(auQ (by omega)).2 ⟨by omega,by simpa using ht⟩,(auQ (by rw [Int.toNat_natCast]; omega)).2 ⟨by omega,by simpa using hi'⟩⟩
def b0:B6:=((0:Int),((0:Int),((0:Int),((0:Int),((0:Int),((0:Int),()))))))
theorem aKu (ho:Io s=true) (ha:Dg s=true) {t i:Nat} (ht:t < s.1.n) (hi':i < (s.1.g t).2.1.n):M36 (no_index (s,((t:Int),((i:Int),()))))=some (ach (cB s) t i,((0:Int),())):=by
 have hs:=qP ho
 have WM:=eF hs
 have h63:=auP (s:=s) (by omega) (fun t ht=>by have:=dN hs ht; omega) true
 have e0:Jc s true=0:=by unfold Jc; rw [ho,ha]; rfl
 rw [e0] at h63
 have h78:=aQE (s:=s) (by omega) (t:Int) (i:Int)
 rw [lowB_nat ho ht hi'] at h78
 unfold M36 Q36
 refine (aK h78).trans ?_
 refine (aK h63).trans ?_
 refine (aR rfl).trans ?_
 refine (aK (aWz hs ha ht hi')).trans ?_
 rfl
theorem aFD (hn:s.1.n<=1000) (hk:∀ t,t < s.1.n->(s.1.g t).2.1.n<=1000) (t i:Int) (h:Jc s (lowB s t i)≠0):M36 (no_index (s,(t,(i,()))))=some (b0,(Jc s (lowB s t i),())):=by
 unfold M36 Q36
 refine (aK (aQE hn _ _)).trans ?_
 refine (aK (auP hn hk _)).trans ?_
 have:(!decide (Jc s (lowB s t i)=0))=true:=by rw [decide_eq_false h]; rfl
 exact aq this
end Go.Dm

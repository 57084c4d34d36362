/- LowAhead. -/
import Derived.Test.YtadkaccpacpklaaL12LP25
import Derived.Test.YtadkaccpacpklaaL12LP28
import Derived.Test.YtadkaccpacpklaaL12LM7
set_option linter.unusedVariables false
set_option linter.unusedSimpArgs false
namespace Go.Dm
set_option maxRecDepth 100000
open Go.Low
variable {s:tS.den} {A X Y D:cT}
def tvA (X Y D:cT) (t i a:Nat):Int:=match a with
 | 0=>ap X t i
 | 1=>ap Y t i
 | _=>ap D t i
theorem au6 (h:PC s A) {t i:Nat} (ht:t < s.1.n) (hi:i < (s.1.g t).2.1.n):qR (aW A) t i=ap A t i:=OO (by rw [h.n]; exact ht) (by rw [h.k t ht]; exact hi)
theorem ab8 (hs:(cB s).Ok) (h:Ov s A X Y D) (hf:atl s A X Y D=true):Tru (cB s) (aW A) (tvA X Y D):=by
 unfold atl at hf
 simp only [Bool.and_eq_true,decide_eq_true_eq] at hf
 obtain ⟨h1,h2,h3,h4⟩:=hf
 have hin:∀ t i,t < s.1.n->i < (s.1.g t).2.1.n->bx3 (tv X Y D t i) ((s.1.g t).2.1.g i)=true:=fun t i ht hi=>mQ (mQ h1 ht) hi
 refine ⟨(dI A).trans h.a.n,?_,fun t ht=>?_,h3,h4,fun t i ht hi a ha=>?_,fun t i ht hi h0 a ha=>?_⟩
 ·show (aW A).getD 0 []=_
  have hn:0 < s.1.n:=hs.n1
  rw [kH (by rw [h.a.n]; exact hn)]
  unfold first
  refine List.ext_getElem? fun i=>?_
  have hk:(A.g 0).1.n=(s.1.g 0).2.1.n:=h.a.k 0 hn
  rw [gR,List.getElem?_replicate,hk]
  show _=if i < (s.1.g 0).2.1.n then some (-1) else none
  by_cases hi:i < (s.1.g 0).2.1.n
  ·rw [if_pos hi,if_pos hi]
   have:=h.rng 0 i hn hi
   unfold VX oV at this
   rw [Bool.and_eq_true,decide_eq_true_eq,decide_eq_true_eq] at this
   have h5:(-1:Int)<=(show Int from ((A.g 0).1.g i).1)/\(show Int from ((A.g 0).1.g i).1)<=(((0:Nat):Int)) - 1:=this
   have h6:(show Int from ((A.g 0).1.g i).1) = -1:=by omega
   exact congrArg some h6
  ·rw [if_neg hi,if_neg hi]
 ·have ht':t + 1 < s.1.n:=ht
  rw [kH (by rw [h.a.n]; exact ht')]
  refine ⟨(iN _).trans (h.a.k _ ht'),fun i x hx=>?_⟩
  rw [gR,h.a.k _ ht'] at hx
  split at hx
  ·rename_i hi
   have hx:=Option.some.inj hx
   have hl:=h.link ht' hi
   rcases hl with q | ⟨q1,q2⟩
   ·exact .inl (hx.symm.trans q)
   ·have hx:ap A (t + 1) i=x:=hx
    rw [hx] at q1 q2
    refine .inr ⟨q1,q2,fun j hj hjx=>?_⟩
    have h5:=mQ h2 (j:=t) (by omega)
    rw [Bool.and_eq_true] at h5
    have h6:=mQ h5.2 (j:=i) (by rw [h.a.k _ ht']; exact hi)
    unfold ayW at h6
    have hx':(show Int from ((A.g (t + 1)).1.g i).1)=x:=hx
    rw [hx',decide_eq_true q1,Bool.not_true,Bool.false_or,Bool.not_eq_true'] at h6
    have h7:has ((aV (A.g (t + 1)).1).take i) x=true:=zN.2 ⟨j,by rw [List.getElem?_take,if_pos hj]; exact hjx⟩
    rw [h7] at h6
    cases h6
  ·cases hx
 ·have:=Yu.1 (hin t i ht hi)
  show lo ((s.1.g t).2.1.g i) a<=tvA X Y D t i a/\tvA X Y D t i a<=Low.hi ((s.1.g t).2.1.g i) a
  match a,ha with
  | 0,_=>exact this.1
  | 1,_=>exact this.2.1
  | 2,_=>exact this.2.2
 ·have ht':t + 1 < s.1.n:=ht
  have e:=au6 h.a ht' hi
  rw [e] at h0 ⊢
  have h5:=mQ h2 (j:=t) (by omega)
  rw [Bool.and_eq_true] at h5
  have h6:=mQ h5.1 hi
  unfold nrI at h6
  have h0':¬ (ap A (t + 1) i < 0):=by omega
  rw [decide_eq_false h0',Bool.false_or] at h6
  unfold Wv Kh at h6
  simp only [Bool.and_eq_true,decide_eq_true_eq] at h6
  obtain ⟨⟨a1,a2⟩,⟨b1,b2⟩,c1,c2⟩:=h6
  match a,ha with
  | 0,_=>exact ⟨a1,a2⟩
  | 1,_=>exact ⟨b1,b2⟩
  | 2,_=>exact ⟨c1,c2⟩
theorem afN (hs:(cB s).Ok) {X:Nat->Nat->Nat->Int} {L:LL} (h:Tru (cB s) L X):Dg s=true:=Ki.2 ⟨L,(tX hs).2 h.links⟩
def ain (b:B6):B6:=(max 0 b.1,(min 100 b.2.1,(max 0 b.2.2.1,(min 100 b.2.2.2.1,(max 0 b.2.2.2.2.1,(min 99999 b.2.2.2.2.2.1,()))))))
theorem aoq (b:B6):ain b=(mx (0:Int) b.1,(mn (100:Int) b.2.1,(mx (0:Int) b.2.2.1,(mn (100:Int) b.2.2.2.1,(mx (0:Int) b.2.2.2.2.1,(mn (99999:Int) b.2.2.2.2.2.1,())))))):=by
 unfold ain; simp only [LI,GU]
theorem adA (hs:(cB s).Ok) (ha:Dg s=true) {t i:Nat} (ht:t < s.1.n) (hi':i < (s.1.g t).2.1.n):vL (ach (cB s) t i):=fun a h3=>by
 obtain ⟨L,hL⟩:=Ki.1 ha
 have hne:links (cB s)≠[]:=List.ne_nil_of_mem hL
 have hb:=lE hs ht hi' a h3
 have h1:=(aAC (s:=cB s) (t:=t) (i:=i) (a:=a) hne).1 (Int.le_refl _) L hL
 have h2:=(aAD (s:=cB s) (t:=t) (i:=i) (a:=a) hne).1 (Int.le_refl _) L hL
 have h4:=aTY hs ((tX hs).1 hL) (t:=t) (i:=i) ht hi' a h3
 have h5:=(aAC (s:=cB s) (t:=t) (i:=i) (a:=a) (y:=lo ((s.1.g t).2.1.g i) a) hne).2 fun L _=>aTZ (s:=cB s)
 have h6:=(aAD (s:=cB s) (t:=t) (i:=i) (a:=a) (y:=hi ((s.1.g t).2.1.g i) a) hne).2 fun L _=>aT0 (s:=cB s)
 omega
theorem aBv (ho:Io s=true) (ha:Dg s=true) {i:Nat} (hi':i < (s.1.g (s.1.n - 1)).2.1.n) {h:Int} (h0:0<=h) (h1:h<=200) :
  M43 (no_index (s,((i:Int),(h,()))))=some (ain (wide (cB s) (ach (cB s) (s.1.n - 1) i) h),((0:Int),())):=by
 have hs:=qP ho
 have WM:=eF hs
 have xU:0 < s.1.n:=hs.n1
 have ht:s.1.n - 1 < s.1.n:=by omega
 have h63:=auP (s:=s) (by omega) (fun t ht=>by have:=dN hs ht; omega) true
 have e0:Jc s true=0:=by unfold Jc; rw [ho,ha]; rfl
 rw [e0] at h63
 have h78:=aQE (s:=s) (by omega) (((s.1.n - 1:Nat)):Int) (i:Int)
 rw [lowB_nat ho ht hi'] at h78
 rw [<- wn1 hs] at h78
 have h64:Kk (no_index (h,((0:Int),((200:Int),()))))=some (true,()):=by
  rw [zk]; unfold oV
  rw [decide_eq_true h0,decide_eq_true h1]; rfl
 have h80:=aWz hs ha ht hi'
 rw [<- wn1 hs] at h80
 unfold M43 Q43
 refine (aK h78).trans ?_
 refine (aq rfl).trans ?_
 refine (aK h64).trans ?_
 refine (aK h63).trans ?_
 refine (aR rfl).trans ?_
 refine (aK h80).trans ?_
 refine (aK (ang hs (adA hs ha ht hi') h0 h1)).trans ?_
 have e:=aoq (wide (cB s) (ach (cB s) (s.1.n - 1) i) h)
 rw [e]
 rfl
theorem aio (x:Int) (b c:Int):M53 (no_index (x,((b,(c,())),())))=some (oV x b c,()):=by
 show (bif decide (b<=x) then some (decide (x<=c),()) else some (false,()))=_
 unfold oV
 cases decide (b<=x) <;> rfl
theorem aBB (h:Int):M37 (no_index (h,()))=some (oV h 0 200,()):=by
 unfold M37 Q37
 exact aK (uW _ _ _)
theorem aeb {x a b:Int} (h1:a<=x) (h2:x<=b):oV x a b=true:=by unfold oV; rw [decide_eq_true h1,decide_eq_true h2]; rfl
theorem au7 {x a b:Int} (h:oV x a b=true):a<=x/\x<=b:=by
 unfold oV at h
 rw [Bool.and_eq_true,decide_eq_true_eq,decide_eq_true_eq] at h
 exact h
theorem afW (s:tS.den) (A X Y D:cT) (one h aar aaD dd:Int):M12 (s,(trT A X Y D,(one,(h,(aar,(aaD,(dd,())))))))=some (true,()):=by
 unfold M12 Q12
 obtain ⟨b,h1,h2⟩:=aau (s:=s)
 refine (aK h1).trans ?_
 cases b with
 | false=>exact (aq rfl).trans (aK eZ)
 | true =>
 refine (aR rfl).trans ?_
 obtain ⟨hn,hk⟩:=h2 rfl
 have hn':s.1.n<=1000:=by omega
 have hk':∀ t,t < s.1.n->(s.1.g t).2.1.n<=1000:=fun t ht=>by have:=hk t ht; omega
 obtain ⟨b2,h3,h4⟩:=aI0 (A:=A) (X:=X) (Y:=Y) (D:=D)
 refine (aK h3).trans ?_
 cases b2 with
 | false=>exact (aq rfl).trans (aK eZ)
 | true =>
 refine (aR rfl).trans ?_
 obtain ⟨hA,hX,hY,hD⟩:=h4 rfl
 refine (aK (JM hn' hk')).trans ?_
 cases ho:Io s with
 | false=>exact (aq rfl).trans (aK eZ)
 | true =>
 refine (aR rfl).trans ?_
 refine (aK (aI3 hA hX hY hD hk')).trans ?_
 cases htb:LS s A X Y D with
 | false=>exact (aq rfl).trans (aK eZ)
 | true =>
 refine (aR rfl).trans ?_
 refine (aK (aWw hn' _ one)).trans ?_
 cases hl:lowB s (W (((s.1.n:Nat):Int) - 1)) one with
 | false=>exact (aq rfl).trans (aK eZ)
 | true =>
 refine (aR rfl).trans ?_
 refine (aK (aBB h)).trans ?_
 cases hh:oV h 0 200 with
 | false=>exact (aq rfl).trans (aK eZ)
 | true =>
 refine (aR rfl).trans ?_
 have h52:=aI7 (s:=s) hn' hk' hA hX hY hD
 rw [ho,htb] at h52
 refine (aK h52).trans ?_
 refine (aR rfl).trans ?_
 cases hfit:ati s A X Y D with
 | false=>exact (aq rfl).trans (aK eZ)
 | true =>
 refine (aR rfl).trans ?_
 have hs:=qP ho
 have WM:=eF hs
 have xU:0 < s.1.n:=hs.n1
 have htr:=VY htb
 have tru:=ab8 hs htr (by rw [<- ayX htr]; exact hfit)
 have ha:=afN hs tru
 obtain ⟨q0,q1⟩:=au7 hh
 obtain ⟨t,i,ht',rfl,ht,hi⟩:=lowB_ex hn' hk' hl
 have hwn:=wn1 hs
 obtain rfl:t=s.1.n - 1:=by rw [hwn] at ht'; omega
 have sp:0<=pN s/\pN s<=50:=hs.sp
 have dp:0<=zn s/\zn s<=1000:=hs.dp
 obtain ⟨w1,f0,f1⟩:=MG (p:=pN s) (h:=h) ⟨sp.1,by omega⟩ ⟨q0,q1⟩
 obtain ⟨w2,r0,r1⟩:=MG (p:=zn s) (h:=h) dp ⟨q0,q1⟩
 have w3:W (0 - W (pN s * h)) = -(pN s * h):=by rw [w1,gQ ⟨by omega,by omega⟩]; omega
 have w4:W (0 - W (zn s * h)) = -(zn s * h):=by rw [w2,gQ ⟨by omega,by omega⟩]; omega
 by_cases c1:aar < W (0 - W (pN s * h))
 ·exact (aq (decide_eq_true c1)).trans (aK eZ)
 refine (aR (decide_eq_false c1)).trans ?_
 by_cases c2:W (pN s * h) < aar
 ·exact (aq (decide_eq_true c2)).trans (aK eZ)
 refine (aR (decide_eq_false c2)).trans ?_
 by_cases c3:aaD < W (0 - W (pN s * h))
 ·exact (aq (decide_eq_true c3)).trans (aK eZ)
 refine (aR (decide_eq_false c3)).trans ?_
 by_cases c4:W (pN s * h) < aaD
 ·exact (aq (decide_eq_true c4)).trans (aK eZ)
 refine (aR (decide_eq_false c4)).trans ?_
 by_cases c5:dd < W (0 - W (zn s * h))
 ·exact (aq (decide_eq_true c5)).trans (aK eZ)
 refine (aR (decide_eq_false c5)).trans ?_
 by_cases c6:W (zn s * h) < dd
 ·exact (aq (decide_eq_true c6)).trans (aK eZ)
 refine (aR (decide_eq_false c6)).trans ?_
 rw [w3] at c1 c3
 rw [w1] at c2 c4
 rw [w4] at c5
 rw [w2] at c6
 refine (aK (aBv ho ha hi q0 q1)).trans ?_
 refine (aR rfl).trans ?_
 dsimp only
 rw [hwn]
 have in0:=tru.inb (s.1.n - 1) i ht hi 0 (by omega)
 have in1:=tru.inb (s.1.n - 1) i ht hi 1 (by omega)
 have in2:=tru.inb (s.1.n - 1) i ht hi 2 (by omega)
 have bx0:=hs.box (s.1.n - 1) i ht hi 0 (by omega)
 have bx1:=hs.box (s.1.n - 1) i ht hi 1 (by omega)
 have bx2:=hs.box (s.1.n - 1) i ht hi 2 (by omega)
 have wh0:=tru.where hs (t:=s.1.n - 1) (i:=i) ht hi (a:=0) (by omega)
 have wh1:=tru.where hs (t:=s.1.n - 1) (i:=i) ht hi (a:=1) (by omega)
 have wh2:=tru.where hs (t:=s.1.n - 1) (i:=i) ht hi (a:=2) (by omega)
 have e0:tvA X Y D (s.1.n - 1) i 0=ap X (s.1.n - 1) i:=rfl
 have e1:tvA X Y D (s.1.n - 1) i 1=ap Y (s.1.n - 1) i:=rfl
 have e2:tvA X Y D (s.1.n - 1) i 2=ap D (s.1.n - 1) i:=rfl
 rw [e0] at in0 wh0
 rw [e1] at in1 wh1
 rw [e2] at in2 wh2
 have xn:=htr.x.n
 have yn:=htr.y.n
 have aa5:=htr.d.n
 have aai:=htr.x.k _ ht
 have yk:=htr.y.k _ ht
 have dk:=htr.d.k _ ht
 refine (aq (decide_eq_true (aQ (n:=X.n) (by omega)))).trans ?_
 refine (aq (decide_eq_true (aQ (n:=(X.g (s.1.n - 1)).1.n) (by omega)))).trans ?_
 refine (aq (decide_eq_true (aQ (n:=Y.n) (by omega)))).trans ?_
 refine (aq (decide_eq_true (aQ (n:=(Y.g (s.1.n - 1)).1.n) (by omega)))).trans ?_
 refine (aq (decide_eq_true (aQ (n:=D.n) (by omega)))).trans ?_
 refine (aq (decide_eq_true (aQ (n:=(D.g (s.1.n - 1)).1.n) (by omega)))).trans ?_
 have x1:W (ap X (s.1.n - 1) i + aar)=ap X (s.1.n - 1) i + aar:=gQ ⟨by omega,by omega⟩
 have y1:W (ap Y (s.1.n - 1) i + aaD)=ap Y (s.1.n - 1) i + aaD:=gQ ⟨by omega,by omega⟩
 have d1:W (ap D (s.1.n - 1) i + dd)=ap D (s.1.n - 1) i + dd:=gQ ⟨by omega,by omega⟩
 by_cases k1:W (ap X (s.1.n - 1) i + aar) < 0
 ·exact (aq (decide_eq_true k1)).trans (aK eZ)
 refine (aR (decide_eq_false k1)).trans ?_
 by_cases k2:100 < W (ap X (s.1.n - 1) i + aar)
 ·exact (aq (decide_eq_true k2)).trans (aK eZ)
 refine (aR (decide_eq_false k2)).trans ?_
 by_cases k3:W (ap Y (s.1.n - 1) i + aaD) < 0
 ·exact (aq (decide_eq_true k3)).trans (aK eZ)
 refine (aR (decide_eq_false k3)).trans ?_
 by_cases k4:100 < W (ap Y (s.1.n - 1) i + aaD)
 ·exact (aq (decide_eq_true k4)).trans (aK eZ)
 refine (aR (decide_eq_false k4)).trans ?_
 by_cases k5:W (ap D (s.1.n - 1) i + dd) < 0
 ·exact (aq (decide_eq_true k5)).trans (aK eZ)
 refine (aR (decide_eq_false k5)).trans ?_
 by_cases k6:99999 < W (ap D (s.1.n - 1) i + dd)
 ·exact (aq (decide_eq_true k6)).trans (aK eZ)
 refine (aR (decide_eq_false k6)).trans ?_
 generalize ach (cB s) (s.1.n - 1) i=wb at wh0 wh1 wh2 ⊢
 obtain ⟨g1,g2,g3,g4,g5,g6,⟨⟩⟩:=wb
 have wh0:g1<=ap X (s.1.n - 1) i/\ap X (s.1.n - 1) i<=g2:=wh0
 have wh1:g3<=ap Y (s.1.n - 1) i/\ap Y (s.1.n - 1) i<=g4:=wh1
 have wh2:g5<=ap D (s.1.n - 1) i/\ap D (s.1.n - 1) i<=g6:=wh2
 have v1:oV (W (ap X (s.1.n - 1) i + aar)) (max 0 (g1 - pN s * h)) (min 100 (g2 + pN s * h))=true:=aeb (by omega) (by omega)
 have v2:oV (W (ap Y (s.1.n - 1) i + aaD)) (max 0 (g3 - pN s * h)) (min 100 (g4 + pN s * h))=true:=aeb (by omega) (by omega)
 have v3:oV (W (ap D (s.1.n - 1) i + dd)) (max 0 (g5 - zn s * h)) (min 99999 (g6 + zn s * h))=true:=aeb (by omega) (by omega)
 refine (aK ((aio _ _ _).trans (congrArg (fun q:Bool=>some (q,())) v1))).trans ?_
 refine (aq rfl).trans ?_
 refine (aK ((aio _ _ _).trans (congrArg (fun q:Bool=>some (q,())) v2))).trans ?_
 refine (aq rfl).trans ?_
 refine (aK ((aio _ _ _).trans (congrArg (fun q:Bool=>some (q,())) v3))).trans ?_
 refine (aq rfl).trans ?_
 exact aK eZ
theorem aQ2 (x:(a12).den):M12 x=some (true,()):=by
 obtain ⟨s,⟨A,X,Y,D,⟨⟩⟩,one,h,aar,aaD,dd,⟨⟩⟩:=x
 exact afW s A X Y D one h aar aaD dd
end Go.Dm

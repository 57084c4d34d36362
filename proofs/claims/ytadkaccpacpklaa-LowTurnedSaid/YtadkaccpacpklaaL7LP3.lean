/-
 Of the plain law.
-/
import Derived.Test.YtadkaccpacpklaaL7LM10
set_option linter.unusedVariables false
set_option linter.unusedSimpArgs false
namespace Go.Dm
set_option maxRecDepth 100000
open Go.Low
def pN (s:tS.den):Int:=s.2.1
def zn (s:tS.den):Int:=s.2.2.1
def OC (s:tS.den):Int:=s.2.2.2.1
def Sa (s:tS.den):Int:=s.2.2.2.2.1
def mT (s:tS.den) (t:Nat):Int:=(s.1.g t).1
def cB (s:tS.den):PS:=⟨s.1.n,mT s,fun t=>(s.1.g t).2.1.n,fun t i=>(s.1.g t).2.1.g i,pN s,zn s,OC s,Sa s⟩
def dx (s:tS.den):tKo.den:=(s.1,(s.2.1,(s.2.2.1,(s.2.2.2.1,(s.2.2.2.2.1,((),()))))))
theorem GU (a b:Int):mx a b=max a b:=by
 unfold mx
 split <;> omega
theorem LI (a b:Int):mn a b=min a b:=by
 unfold mn
 split <;> omega
theorem Po {s:tS.den} {t i:Nat} (ht:t < s.1.n) (hi:i < (s.1.g t).2.1.n):Sf (no_index (dx s,((t:Int),((i:Int),()))))=some ((s.1.g t).2.1.g i,()):=by
 unfold Sf Q94
 refine (aq (decide_eq_true (aQ ht))).trans ?_
 refine (aq (decide_eq_true (aQ hi))).trans ?_
 rfl
theorem acf {x y:Int} (hx:0<=x/\x<=99999) (hy:0<=y/\y<=200000):W (x - y)=x - y:=gQ ⟨by omega,by omega⟩
theorem akd {x y:Int} (hx:0<=x/\x<=99999) (hy:0<=y/\y<=200000):W (x + y)=x + y:=gQ ⟨by omega,by omega⟩
theorem MG {p h:Int} (h1:0<=p/\p<=1000) (h2:0<=h/\h<=200):W (p * h)=p * h/\0<=p * h/\p * h<=200000:=by
 have a1:0<=p * h:=Int.mul_nonneg h1.1 h2.1
 have a2:p * h<=1000 * 200:=Int.mul_le_mul h1.2 h2.2 h2.1 (by omega)
 exact ⟨gQ ⟨by omega,by omega⟩,a1,by omega⟩
theorem wo {t n:Nat} (hn:n<=1000) (ht:t + 1 < n):W (((t + 1:Nat):Int) - 1)=(t:Int):=by rw [gQ ⟨by omega,by omega⟩]; omega
theorem afH {s:tS.den} (hs:(cB s).Ok) {t:Nat} (ht:t + 1 < s.1.n):WG (no_index (dx s,(((t + 1:Nat):Int),())))=some (mT s (t + 1) - mT s t,()):=by
 unfold WG Q96
 have hn:s.1.n<=4:=hs.n4
 have e3:=wo (n:=s.1.n) (by omega) ht
 have h1:0<=mT s (t + 1)/\mT s (t + 1)<=200:=hs.Xp (t + 1) ht
 have h2:0<=mT s t/\mT s t<=200:=hs.Xp t (Nat.lt_of_succ_lt ht)
 refine (aq (decide_eq_true (aQ ht))).trans ?_
 have e4:∀ {α:Type} (x y:α),(bif decide ((0:Int)<=W (((t + 1:Nat):Int) - 1)/\W (((t + 1:Nat):Int) - 1) < (s.1.n:Int)) then x else y)=x:=fun x y=>by rw [e3]; exact aq (decide_eq_true (aQ (Nat.lt_of_succ_lt ht)))
 refine (e4 _ _).trans ?_
 show some (W (mT s (t + 1) - mT s (Int.toNat (W (((t + 1:Nat):Int) - 1)))),())=_
 rw [e3]
 show some (W (mT s (t + 1) - mT s t),())=_
 rw [acf ⟨by omega,by omega⟩ ⟨by omega,by omega⟩]
def vL (b:B6):Prop:=∀ a,a < 3->0<=lo b a/\lo b a<=99999/\0<=hi b a/\hi b a<=99999
theorem aiQ {s:tS.den} (hs:(cB s).Ok) {h:Int} (h0:0<=h) (h1:h<=200):M95 (no_index (dx s,(h,())))=some ((pN s * h,(pN s * h,(zn s * h,()))),()):=by
 have q1:0<=pN s/\pN s<=50:=hs.sp
 have q2:0<=zn s/\zn s<=1000:=hs.dp
 show some ((W (pN s * h),(W (pN s * h),(W (zn s * h),()))),())=_
 rw [(MG ⟨q1.1,by omega⟩ ⟨h0,h1⟩).1,(MG q2 ⟨h0,h1⟩).1]
theorem ang {s:tS.den} (hs:(cB s).Ok) {b:B6} (hb:vL b) {h:Int} (h0:0<=h) (h1:h<=200):UQ (no_index (dx s,(b,(h,()))))=some (wide (cB s) b h,()):=by
 unfold UQ Q88
 have e:((dx s).1,((dx s).2.1,((dx s).2.2.1,((dx s).2.2.2.1,((dx s).2.2.2.2.1,((),()))))))=dx s:=rfl
 have q1:0<=pN s/\pN s<=50:=hs.sp
 have q2:0<=zn s/\zn s<=1000:=hs.dp
 obtain ⟨_,a1,a2⟩:=MG (p:=pN s) (h:=h) ⟨q1.1,by omega⟩ ⟨h0,h1⟩
 obtain ⟨_,b1,b2⟩:=MG (p:=zn s) (h:=h) q2 ⟨h0,h1⟩
 obtain ⟨c1,c2,c3,c4,c5,c6,⟨⟩⟩:=b
 have i0:=hb 0 (by omega)
 have i1:=hb 1 (by omega)
 have i2:=hb 2 (by omega)
 simp only [lo,hi] at i0 i1 i2
 refine (aK (aiQ hs h0 h1)).trans ?_
 show some ((W (c1 - pN s * h),(W (c2 + pN s * h),(W (c3 - pN s * h),(W (c4 + pN s * h),(W (c5 - zn s * h),(W (c6 + zn s * h),())))))),())=_
 rw [acf ⟨i0.1,i0.2.1⟩ ⟨a1,a2⟩,akd i0.2.2 ⟨a1,a2⟩,acf ⟨i1.1,i1.2.1⟩ ⟨a1,a2⟩,akd i1.2.2 ⟨a1,a2⟩,acf ⟨i2.1,i2.2.1⟩ ⟨b1,b2⟩,akd i2.2.2 ⟨b1,b2⟩]
 rfl
def aV (r:Sl sR.den):List Int:=(List.range r.n).map fun i=>(r.g i).1
theorem iN (r:Sl sR.den):(aV r).length=r.n:=by simp [aV]
theorem gR {r:Sl sR.den} {i:Nat}:(aV r)[i]? = if i < r.n then some (r.g i).1 else none:=by
 unfold aV
 rw [List.getElem?_map]
 by_cases h:i < r.n
 ·rw [if_pos h,List.getElem?_range h]; rfl
 ·rw [if_neg h,List.getElem?_eq_none (by simpa using h)]; rfl
theorem aat (r:Sl sR.den) (hr:r.n<=140737488355328) (x:Int):Gq (no_index (r,(x,())))=some ((match fB (fun j=>decide (x=(r.g j).1)) r.n with | some k=>(k:Int) | none=>-1),()):=by
 unfold Gq Xz
 have:yS (r,(x,(((r.n:Nat):Int),()))) ((0:Int),())=match fB (fun j=>decide (x=(r.g j).1)) r.n with | some k=>.ret ((k:Int),()) | none=>.exit 0 ():=by
  unfold yS
  refine kG (ps:=gY) (n:=r.n) (f:=fun j=>((j:Int),())) (qr:=fun k=>LQ.ret (wy:=pV) (show (aa pV.ret).den from ((k:Int),()))) (Mk hr) (fun j hj _=>?_) (fun _=>?_)
  ·unfold yR yQ
   have e:Int.toNat (j:Int)=j:=rfl
   simp only [decide_eq_true (dW hj),decide_eq_true (aQ hj),e,dR hj hr,cond_true]
  ·unfold yR yQ
   have:¬ ((r.n:Int) < (r.n:Int)):=by omega
   simp only [decide_eq_false this,cond_false]
 simp only [this]
 cases fB (fun j=>decide (x=(r.g j).1)) r.n <;> rfl
theorem Wt (r:Sl sR.den) (hr:r.n<=140737488355328) (x:Int):XA (no_index (r,(x,())))=some (has (aV r) x,()):=by
 unfold XA Q97
 simp only [aat r hr,lK]
 congr 2
 rw [Bool.eq_iff_iff,zN,decide_eq_true_eq]
 cases h:fB (fun j=>decide (x=(r.g j).1)) r.n with
 | some k =>
  obtain ⟨h1,h2,_⟩:=kD h
  have h2:=of_decide_eq_true h2
  refine ⟨fun _=>⟨k,?_⟩,fun _=>by simp⟩
  rw [gR,if_pos h1,h2]
 | none =>
  have hn:=jg h
  refine ⟨fun h=>absurd h (by simp),fun ⟨i,hi⟩=>?_⟩
  rw [gR] at hi
  split at hi
  ·rename_i hlt
   have:=hn i hlt
   rw [decide_eq_false_iff_not] at this
   exact absurd (Option.some.inj hi).symm this
  ·cases hi
theorem ake (p1 p2 p3 p4 p5 p6 w1 w2 w3 w4 w5 w6:Int) :
  ∃ j:Int,As ((),((),((⟨1,fun i=>List.getD [((w1,(w2,(w3,(w4,(w5,(w6,())))))):B6)] i (w1,(w2,(w3,(w4,(w5,(w6,()))))))⟩:Sl Py.den),(((1:Nat):Int),(((0:Int),((0:Int),((0:Int),((0:Int),((0:Int),((0:Int),())))))),()))))) ((0:Int),((p1,(p2,(p3,(p4,(p5,(p6,())))))),())) =
   bif decide (max p1 w1<=min p2 w2) && decide (max p3 w3<=min p4 w4) && decide (max p5 w5<=min p6 w6) then .exit 0 ((max p1 w1,(min p2 w2,(max p3 w3,(min p4 w4,(max p5 w5,(min p6 w6,())))))),()) else .cw 150 OA (j,()) ():=by
 unfold As
 have s0:∀ v:(aa fe).den,v.1=1->xk ((),((),((⟨1,fun i=>List.getD [((w1,(w2,(w3,(w4,(w5,(w6,())))))):B6)] i (w1,(w2,(w3,(w4,(w5,(w6,()))))))⟩:Sl Py.den),(((1:Nat):Int),(((0:Int),((0:Int),((0:Int),((0:Int),((0:Int),((0:Int),())))))),()))))) v = .out (.exit 0 (v.2.1,())):=fun v hv=>by
  unfold xk FK
  rw [hv]
  rfl
 have s1:xk ((),((),((⟨1,fun i=>List.getD [((w1,(w2,(w3,(w4,(w5,(w6,())))))):B6)] i (w1,(w2,(w3,(w4,(w5,(w6,()))))))⟩:Sl Py.den),(((1:Nat):Int),(((0:Int),((0:Int),((0:Int),((0:Int),((0:Int),((0:Int),())))))),()))))) ((0:Int),((p1,(p2,(p3,(p4,(p5,(p6,())))))),())) =
   bif decide (mn p2 w2 < mx p1 w1) then .out (.cw 150 OA ((0:Int),()) ()) else bif decide (mn p4 w4 < mx p3 w3) then .out (.cw 150 OA ((1:Int),()) ()) else bif decide (mn p6 w6 < mx p5 w5) then .out (.cw 150 OA ((2:Int),()) ()) else .next ((1:Int),((mx p1 w1,(mn p2 w2,(mx p3 w3,(mn p4 w4,(mx p5 w5,(mn p6 w6,())))))),())):=rfl
 rw [GU,GU,GU,LI,LI,LI] at s1
 by_cases c1:min p2 w2 < max p1 w1
 ·refine ⟨0,?_⟩
  have d:¬ (max p1 w1<=min p2 w2):=by omega
  rw [decide_eq_true c1,cond_true] at s1
  rw [decide_eq_false d,Bool.false_and,Bool.false_and,cond_false]
  exact bQ (ps:=fe) 0 cz (fun _=>_) (by unfold cz; omega) (fun j hj=>by omega) s1
 by_cases c2:min p4 w4 < max p3 w3
 ·refine ⟨1,?_⟩
  have d:¬ (max p3 w3<=min p4 w4):=by omega
  rw [decide_eq_false c1,cond_false,decide_eq_true c2,cond_true] at s1
  rw [decide_eq_false d,Bool.and_false,Bool.false_and,cond_false]
  exact bQ (ps:=fe) 0 cz (fun _=>_) (by unfold cz; omega) (fun j hj=>by omega) s1
 by_cases c3:min p6 w6 < max p5 w5
 ·refine ⟨2,?_⟩
  have d:¬ (max p5 w5<=min p6 w6):=by omega
  rw [decide_eq_false c1,cond_false,decide_eq_false c2,cond_false,decide_eq_true c3,cond_true] at s1
  rw [decide_eq_false d,Bool.and_false,cond_false]
  exact bQ (ps:=fe) 0 cz (fun _=>_) (by unfold cz; omega) (fun j hj=>by omega) s1
 refine ⟨0,?_⟩
 have d1:max p1 w1<=min p2 w2:=by omega
 have d2:max p3 w3<=min p4 w4:=by omega
 have d3:max p5 w5<=min p6 w6:=by omega
 rw [decide_eq_false c1,cond_false,decide_eq_false c2,cond_false,decide_eq_false c3,cond_false] at s1
 rw [decide_eq_true d1,decide_eq_true d2,decide_eq_true d3]
 refine bQ (ps:=fe) 1 cz (fun j=>match j with | 0=>((0:Int),((p1,(p2,(p3,(p4,(p5,(p6,())))))),())) | _=>((1:Int),((max p1 w1,(min p2 w2,(max p3 w3,(min p4 w4,(max p5 w5,(min p6 w6,())))))),()))) (by unfold cz; omega) (fun j hj=>?_) ?_
 ·obtain rfl:j=0:=by omega
  exact s1
 ·exact s0 _ rfl
theorem akf (p w:B6):∃ j:Int,IZ (p,((⟨1,fun i=>List.getD [w] i w⟩:Sl Py.den),()))=bif UY (inter p w) then .ok (inter p w,()) () else .cw 150 OA (j,()) ():=by
 obtain ⟨p1,p2,p3,p4,p5,p6,⟨⟩⟩:=p
 obtain ⟨w1,w2,w3,w4,w5,w6,⟨⟩⟩:=w
 obtain ⟨j,hL⟩:=ake p1 p2 p3 p4 p5 p6 w1 w2 w3 w4 w5 w6
 refine ⟨j,?_⟩
 unfold IZ aad
 refine (congrArg (fun o=>aF o 0 _ (qE o 150 OA _ _)) hL).trans ?_
 show _=bif decide (max p1 w1<=min p2 w2) && decide (max p3 w3<=min p4 w4) && decide (max p5 w5<=min p6 w6) then _ else _
 cases decide (max p1 w1<=min p2 w2) && decide (max p3 w3<=min p4 w4) && decide (max p5 w5<=min p6 w6) <;> rfl
theorem akg {s:tS.den} (hs:(cB s).Ok) {t i:Nat} (ht:t + 1 < s.1.n) (hi':i < (s.1.g (t + 1)).2.1.n) {b:B6} (hb:vL b) :
  Mh (no_index (dx s,(((t + 1:Nat):Int),((i:Int),(b,())))))=some (bif UY (inter ((s.1.g (t + 1)).2.1.g i) (wide (cB s) b (mT s (t + 1) - mT s t))) then (inter ((s.1.g (t + 1)).2.1.g i) (wide (cB s) b (mT s (t + 1) - mT s t)),(true,())) else ((0,(0,(0,(0,(0,(0,())))))),(false,()))):=by
 unfold Mh aaf
 have h1:0<=mT s (t + 1)/\mT s (t + 1)<=200:=hs.Xp (t + 1) ht
 have h2:0<=mT s t/\mT s t<=200:=hs.Xp t (Nat.lt_of_succ_lt ht)
 have h3:mT s t < mT s (t + 1):=hs.tm t ht
 refine (aK (Po ht hi')).trans ?_
 refine (aK (afH hs ht)).trans ?_
 refine (aK (ang hs hb (h:=mT s (t + 1) - mT s t) (by omega) (by omega))).trans ?_
 obtain ⟨j,hU⟩:=akf ((s.1.g (t + 1)).2.1.g i) (wide (cB s) b (mT s (t + 1) - mT s t))
 refine (congrArg (fun o=>Dt o 150 OA _ (Xr o _ _)) hU).trans ?_
 cases UY (inter ((s.1.g (t + 1)).2.1.g i) (wide (cB s) b (mT s (t + 1) - mT s t))) <;> rfl
end Go.Dm
namespace Go.Dm
set_option maxRecDepth 100000
open Go.Low
abbrev kA:=Sl (Sl sR.den)
abbrev sq:=Sl (Sl Py.den)
abbrev cT:=Sl (Ty.den (.cons (.sl sR) .nil))
def mkX (z:Sl fD.den) (t i born gone:Int) (s:tS.den) (same:kA) (can:sq):(aa bq).den:=
 (z,(t,(i,(born,(gone,(s,((),((),((),((),(dx s,(((),()),((s,()),(((),()),(same,(can,()))))))))))))))))
def aav (z:Sl fD.den) (s:tS.den) (same:kA) (can:sq):Ty.den (.cons (.sl fD) (aa (aj bq))):=
 (z,(dx s,(((),()),((s,()),(((),()),(same,(can,())))))))
def vw (s:tS.den) (rows:cT):fD.den:=((s.1,(s.2.1,(s.2.2.1,(s.2.2.2.1,(s.2.2.2.2.1,(rows,())))))),())
def aW (rows:cT):LL:=(List.range rows.n).map fun t=>aV (rows.g t).1
def toL (it:fD.den):LL:=aW it.1.2.2.2.2.2.1
structure Good (s:tS.den) (it:fD.den):Prop where
 eq:it=vw s it.1.2.2.2.2.2.1
 n:it.1.2.2.2.2.2.1.n=s.1.n
 k:∀ t,t < s.1.n->(it.1.2.2.2.2.2.1.g t).1.n=(s.1.g t).2.1.n
structure Shape (s:tS.den) (L:LL) (r:List Int):Prop where
 pos:0 < L.length
 le:L.length<=s.1.n
 len:∀ t,t < L.length->(L.getD t []).length=(s.1.g t).2.1.n
 val:∀ (t i:Nat) x,t + 1 < L.length->(L.getD (t + 1) [])[i]? = some x->x = -1\/(0<=x/\x.toNat < (s.1.g t).2.1.n)
 asN:L.length < s.1.n->r.length<=(s.1.g L.length).2.1.n
 r0:L.length=s.1.n->r=[]
 rval:∀ (i:Nat) x,r[i]? = some x->x = -1\/(0<=x/\x.toNat < (s.1.g (L.length - 1)).2.1.n)
structure Inv (s:tS.den) (L:LL) (r:List Int) (same:kA) (can:sq):Prop where
 sn:same.n=s.1.n
 cn:can.n=s.1.n
 sk:∀ t,t < s.1.n->(same.g t).n=(s.1.g t).2.1.n
 ck:∀ t,t < s.1.n->(can.g t).n=(s.1.g t).2.1.n
 sL:∀ t,t < L.length->∀ i,i < (s.1.g t).2.1.n->(show Int from ((same.g t).g i).1)=qR L t i
 sr:∀ i,i < r.length->(show Int from ((same.g L.length).g i).1)=r.getD i (-1)
 cL:∀ t,t < L.length->∀ i,i < (s.1.g t).2.1.n->(can.g t).g i=Low.can (cB s) L t i
 cr:∀ i,i < r.length->(can.g L.length).g i=Low.can (cB s) (L ++ [r]) L.length i
variable {s:tS.den} {L:LL} {r:List Int} {same:kA} {can:sq}
theorem qQ {p:PS} {t i:Nat} (ht:L.length=t + 1):Low.can p (L ++ [r]) L.length i=if 0<=r.getD i (-1) then inter (p.box (t + 1) i) (wide p (Low.can p L t (r.getD i (-1)).toNat) (p.tm (t + 1) - p.tm t)) else p.box (t + 1) i:=by
 have h:=qN (L:=L) (r:=r) (i:=i)
 rw [ht] at h ⊢
 simp only [Low.can,h]
 rw [zi (by omega)]
theorem lE (hs:(cB s).Ok) {t i:Nat} (ht:t < s.1.n) (hi':i < (s.1.g t).2.1.n):vL ((s.1.g t).2.1.g i):=fun a ha=>by
 have h:0<=lo ((s.1.g t).2.1.g i) a/\lo ((s.1.g t).2.1.g i) a<=hi ((s.1.g t).2.1.g i) a/\hi ((s.1.g t).2.1.g i) a<=99999:=hs.box t i ht hi' a ha
 omega
theorem Oa (hs:(cB s).Ok) {b c:B6} (hb:vL b) (hc:vL c) {h:Int} (h0:0<=h):vL (inter b (wide (cB s) c h)):=fun a ha=>by
 have q1:=hb a ha
 have q2:=hc a ha
 have:=Int.mul_nonneg (hs.dV a) h0
 rw [uR,uS,AX,AY]
 omega
theorem JN (hs:(cB s).Ok) (hh:Shape s L r):∀ t i,t < L.length->i < (s.1.g t).2.1.n->vL (Low.can (cB s) L t i)
 | 0,i,ht,hi'=>lE hs (by have:=hh.le; omega) hi'
 | t + 1,i,ht,hi'=>by
  simp only [Low.can]
  have hN:=hh.le
  split
  ·rename_i h0
   have h1:=hh.len (t + 1) ht
   have hl:qR L (t + 1) i=(L.getD (t + 1) []).getD i (-1):=rfl
   rw [List.getD_eq_getElem?_getD,List.getElem?_eq_getElem (by rw [h1]; exact hi')] at hl
   have hv:=hh.val t i _ ht (List.getElem?_eq_getElem (by rw [h1]; exact hi'))
   have hl:qR L (t + 1) i=(L.getD (t + 1) [])[i]'(by rw [h1]; exact hi'):=hl
   rw [<- hl] at hv
   refine Oa hs (lE hs (by omega) hi') (JN hs hh t _ (by omega) ?_) ?_
   ·rcases hv with hv | hv
    ·omega
    ·exact hv.2
   ·have:=hs.tm t (show t + 1 < s.1.n by omega); omega
  ·exact lE hs (by omega) hi'
theorem fq {α:Type} (a:Sl α) (i:Nat) (x:α):(bO a i x).g i=x:=by simp [bO]
theorem gy {α:Type} (a:Sl α) {i j:Nat} (h:j≠i) (x:α):(bO a i x).g j=a.g j:=by
 have:Nat.beq j i=false:=by
  cases e:Nat.beq j i with
  | false=>rfl
  | true=>exact absurd (Nat.eq_of_beq_eq_true e) h
 simp [bO,this]
theorem Inv.push (h:Inv s L r same can) (hh:Shape s L r) (hlt:L.length < s.1.n) (hr:r.length < (s.1.g L.length).2.1.n) (c:Int) {b:B6}
  (hb:b=Low.can (cB s) (L ++ [r ++ [c]]) L.length r.length) :
  Inv s L (r ++ [c]) (bO same L.length (bO (same.g L.length) r.length (c,()))) (bO can L.length (bO (can.g L.length) r.length b)):=by
 have hpos:=hh.pos
 obtain ⟨t0,Rj⟩:∃ t,L.length=t + 1:=⟨L.length - 1,by omega⟩
 refine ⟨h.sn,h.cn,fun t ht=>?_,fun t ht=>?_,fun t ht i hi'=>?_,fun i hi'=>?_,fun t ht i hi'=>?_,fun i hi'=>?_⟩
 ·by_cases e:t=L.length
  ·subst e; rw [fq]; exact h.sk _ ht
  ·rw [gy _ e]; exact h.sk _ ht
 ·by_cases e:t=L.length
  ·subst e; rw [fq]; exact h.ck _ ht
  ·rw [gy _ e]; exact h.ck _ ht
 ·rw [gy _ (by omega)]; exact h.sL t ht i hi'
 ·rw [fq]
  by_cases e:i=r.length
  ·subst e; rw [fq]; simp
  ·rw [gy _ e]
   have hi2:i < r.length:=by simp at hi'; omega
   rw [h.sr i hi2]
   simp only [List.getD_eq_getElem?_getD]; rw [List.getElem?_append_left hi2]
 ·rw [gy _ (by omega)]; exact h.cL t ht i hi'
 ·rw [fq]
  by_cases e:i=r.length
  ·subst e; rw [fq]; exact hb
  ·rw [gy _ e]
   have hi2:i < r.length:=by simp at hi'; omega
   rw [h.cr i hi2,qQ Rj,qQ Rj]
   have:(r ++ [c]).getD i (-1)=r.getD i (-1):=by
    simp only [List.getD_eq_getElem?_getD]; rw [List.getElem?_append_left hi2]
   rw [this]
theorem Inv.pop {c:Int} (h:Inv s L (r ++ [c]) same can) (hh:Shape s L r):Inv s L r same can:=by
 have hpos:=hh.pos
 obtain ⟨t0,Rj⟩:∃ t,L.length=t + 1:=⟨L.length - 1,by omega⟩
 have e:∀ i,i < r.length->(r ++ [c]).getD i (-1)=r.getD i (-1):=fun i hi'=>by
  simp only [List.getD_eq_getElem?_getD]; rw [List.getElem?_append_left hi']
 refine ⟨h.sn,h.cn,h.sk,h.ck,h.sL,fun i hi'=>?_,h.cL,fun i hi'=>?_⟩
 ·rw [h.sr i (by simp; omega),e i hi']
 ·rw [h.cr i (by simp; omega),qQ Rj,qQ Rj,e i hi']
theorem Inv.row (h:Inv s L r same can) (hh:Shape s L r) (hlt:L.length < s.1.n) (hr:r.length=(s.1.g L.length).2.1.n):Inv s (L ++ [r]) [] same can:=by
 have hlen:(L ++ [r]).length=L.length + 1:=by simp
 refine ⟨h.sn,h.cn,h.sk,h.ck,fun t ht i hi'=>?_,fun i hi'=>by simp at hi',fun t ht i hi'=>?_,fun i hi'=>by simp at hi'⟩
 ·rw [hlen] at ht
  by_cases e:t=L.length
  ·subst e; rw [qN]; exact h.sr i (by omega)
  ·rw [Eo (by omega)]; exact h.sL t (by omega) i hi'
 ·rw [hlen] at ht
  by_cases e:t=L.length
  ·subst e; exact h.cr i (by omega)
  ·rw [zi (by omega)]; exact h.cL t (by omega) i hi'
theorem Inv.asO (h:Inv s (L ++ [r]) [] same can) (hr:r.length=(s.1.g L.length).2.1.n):Inv s L r same can:=by
 have hlen:(L ++ [r]).length=L.length + 1:=by simp
 refine ⟨h.sn,h.cn,h.sk,h.ck,fun t ht i hi'=>?_,fun i hi'=>?_,fun t ht i hi'=>?_,fun i hi'=>?_⟩
 ·rw [h.sL t (by omega) i hi',Eo ht]
 ·rw [h.sL L.length (by omega) i (by omega),qN]
 ·rw [h.cL t (by omega) i hi',zi ht]
 ·exact h.cL L.length (by omega) i (by omega)
theorem Shape.row (hh:Shape s L r) (hlt:L.length < s.1.n) (hr:r.length=(s.1.g L.length).2.1.n):Shape s (L ++ [r]) []:=by
 have hlen:(L ++ [r]).length=L.length + 1:=by simp
 refine ⟨by omega,by omega,fun t ht=>?_,fun t i x ht hx=>?_,fun _=>Nat.zero_le _,fun _=>rfl,fun i x hx=>by simp at hx⟩
 ·rw [hlen] at ht
  by_cases e:t=L.length
  ·subst e; rw [jo]; exact hr
  ·rw [ku (by omega)]; exact hh.len t (by omega)
 ·rw [hlen] at ht
  by_cases e:t + 1=L.length
  ·rw [e,jo] at hx
   have:=hh.rval i x hx
   rwa [<- e,Nat.add_sub_cancel] at this
  ·rw [ku (by omega)] at hx; exact hh.val t i x (by omega) hx
theorem Shape.push (hh:Shape s L r) (hlt:L.length < s.1.n) (hr:r.length < (s.1.g L.length).2.1.n) {c:Int} (hc:c = -1\/(0<=c/\c.toNat < (s.1.g (L.length - 1)).2.1.n)):Shape s L (r ++ [c]):=by
 refine ⟨hh.pos,hh.le,hh.len,hh.val,fun _=>by simp; omega,fun h=>by omega,fun i x hx=>?_⟩
 by_cases e:i < r.length
 ·rw [List.getElem?_append_left e] at hx; exact hh.rval i x hx
 ·rw [List.getElem?_append_right (by omega)] at hx
  have:=(List.getElem?_eq_some_iff.1 hx).1
  have:i - r.length=0:=by simp at this; omega
  rw [this] at hx
  cases hx
  exact hc
theorem vE {a:Sl sR.den} {l:List Int} (hn:a.n=l.length) (h:∀ i,i < a.n->(a.g i).1=l.getD i (-1)):aV a=l:=by
 apply List.ext_getElem?
 intro i
 rw [gR]
 split
 ·rename_i hi'
  rw [h i hi',List.getD_eq_getElem?_getD,List.getElem?_eq_getElem (by omega)]; rfl
 ·rw [List.getElem?_eq_none (by omega)]
theorem aaw (h:Inv s L r same can):aV (⟨r.length,fun i=>(same.g L.length).g i⟩:Sl sR.den)=r:=vE rfl fun i hi'=>h.sr i hi'
theorem dN (hs:(cB s).Ok) {t:Nat} (ht:t < s.1.n):(s.1.g t).2.1.n<=3:=hs.k t ht
theorem eF (hs:(cB s).Ok):s.1.n<=4:=hs.n4
theorem akh (x:Sl sR.den) (hx:x.n<=1000):∃ z,Mg (no_index (x,()))=some z/\z.n=x.n/\∀ i,i < x.n->z.g i=x.g i:=by
 unfold Mg aac
 simp only []
 have h8:x.n * 8<=140737488355328:=by omega
 rw [decide_eq_true h8]
 cases hb:Nat.blt 0 x.n with
 | true=>exact ⟨x,rfl,rfl,fun _ _=>rfl⟩
 | false =>
  have h0:x.n=0:=by
   cases hn:x.n with
   | zero=>rfl
   | succ n=>rw [hn] at hb; cases hb
  refine ⟨⟨0,fun _=>Ty.dflt sR⟩,?_,h0.symm,fun i hi'=>by omega⟩
  show anC (some ⟨0,fun i=>((0:Int),())⟩) (some x)=_
  simp [anC,h0]
end Go.Dm
namespace Go.Dm
set_option maxRecDepth 100000
open Go.Low
variable {s:tS.den} {L:LL} {r:List Int} {same:kA} {can:sq}
theorem Ck (j:Nat) (r:List Int):eY (j + 1) r=eY j r + (bif has r (j:Int) then 0 else 1):=by
 simp only [eY,List.range_succ,List.filter_append,List.length_append]
 congr 1
 cases h:has r (j:Int) <;> simp [h]
theorem aax (hs : (cB s).Ok) {R : (aa bq).den → Option (Ty.den (.cons (.sl fD) (aa (aj bq))))} {z : Sl fD.den} {born g0 : Int} {t k : Nat} (ht : t < same.n) (hk : k ≤ 3) (hn : (same.g t).n ≤ 3) (hg : 0 ≤ g0 ∧ g0 ≤ 1000) :
    Gy R (z, ((t : Int), (born, (s, ((), ((), ((), ((), ((k : Int), ((s, ()), (same, (can, ())))))))))))) (g0, ((0 : Int), (dx s, (((), ()), (((), ()), ()))))) =
      .exit 2 (g0 + (eY k (aV (same.g t)) : Nat), (dx s, (((), ()), (((), ()), ())))) := by
  unfold Gy
  have hm : ∀ j r, eY j r ≤ j := fun j r => by
    unfold eY
    exact Nat.le_trans (List.length_filter_le _ _) (by simp)
  have e0 : g0 + ((eY 0 (aV (same.g t)) : Nat) : Int) = g0 := by
    have : eY 0 (aV (same.g t)) = 0 := rfl
    rw [this]; omega
  have key : aH (xm R (z, ((t : Int), (born, (s, ((), ((), ((), ((), ((k : Int), ((s, ()), (same, (can, ()))))))))))))) cz (g0 + ((eY 0 (aV (same.g t)) : Nat) : Int), ((0 : Int), (dx s, (((), ()), (((), ()), ()))))) = .exit 2 (g0 + (eY k (aV (same.g t)) : Nat), (dx s, (((), ()), (((), ()), ())))) := by
   refine bQ (ps := gT) k cz (fun j => (g0 + ((eY j (aV (same.g t)) : Nat) : Int), ((j : Int), (dx s, (((), ()), (((), ()), ())))))) (by unfold cz; omega) (fun j hj => ?_) ?_
   · unfold xm Av
     have e : Int.toNat (t : Int) = t := rfl
     have e2 : (⟨(same.g t).n, fun i => (same.g t).g i⟩ : Sl sR.den) = same.g t := rfl
     have h3 := hm j (aV (same.g t))
     have h4 := Ck j (aV (same.g t))
     have h5 : (((j + 1 : Nat)) : Int) = (j : Int) + 1 := rfl
     simp only [decide_eq_true (dW hj), decide_eq_true (aQ ht), e, e2, cond_true, Wt _ (Nat.le_trans hn (by omega)), lK, h4]
     have w1 : W ((j : Int) + 1) = ((j + 1 : Nat) : Int) := by rw [gQ ⟨by omega, by omega⟩]; rfl
     have w2 : W (g0 + ((eY j (aV (same.g t)) : Nat) : Int) + 1) = g0 + ((eY j (aV (same.g t)) : Nat) : Int) + 1 := gQ ⟨by omega, by omega⟩
     cases has (aV (same.g t)) (j : Int) with
     | true => simp only [Bool.not_true, cond_false, cond_true, w1, Nat.add_zero]
     | false =>
       simp only [Bool.not_false, cond_false, cond_true, w1, w2]
       have : g0 + ((eY j (aV (same.g t)) + 1 : Nat) : Int) = g0 + ((eY j (aV (same.g t)) : Nat) : Int) + 1 := by omega
       rw [this]
   · unfold xm Av
     have : ¬ ((k : Int) < (k : Int)) := by omega
     simp only [decide_eq_false this, cond_false]
     try rfl
  rw [e0] at key
  exact key
theorem aay {R:(aa bq).den->Option (Ty.den (.cons (.sl fD) (aa (aj bq))))} {z:Sl fD.den} (hn:same.n<=4) (hk:∀ t,t < same.n->(same.g t).n<=3) :
    ∃ rows:cT,rows.n=same.n/\(∀ t,t < same.n->(rows.g t).1.n=(same.g t).n/\∀ i,i < (same.g t).n->(rows.g t).1.g i=(same.g t).g i) /\
    Gx R (z,(s,((),((),((),((),((),((),((same.n:Int),((s,()),(same,(can,())))))))))))) ((0:Int),(dx s,(((),()),(((),()),((s.1,(s.2.1,(s.2.2.1,(s.2.2.2.1,(s.2.2.2.2.1,((⟨0,fun i=>((⟨0,fun i=>((0:Int),())⟩:Sl _),())⟩:Sl _),())))))),()))))) =
      .exit 0 (dx s,(((),()),(((),()),((s.1,(s.2.1,(s.2.2.1,(s.2.2.2.1,(s.2.2.2.2.1,(rows,())))))),())))):=by
  unfold Gx
  obtain ⟨v,⟨rows,hv,h1,h2⟩,h3⟩:=jq (step:=xl R (z,(s,((),((),((),((),((),((),((same.n:Int),((s,()),(same,(can,()))))))))))))) (N:=cz)
    (P:=fun j v=>∃ rows:cT,v=((j:Int),(dx s,(((),()),(((),()),((s.1,(s.2.1,(s.2.2.1,(s.2.2.2.1,(s.2.2.2.2.1,(rows,())))))),())))))/\rows.n=j/\∀ t,t < j->(rows.g t).1.n=(same.g t).n/\∀ i,i < (same.g t).n->(rows.g t).1.g i=(same.g t).g i)
    (q:=fun v=>.exit 0 v.2) same.n (by unfold cz; omega) (fun j v hj hp=>by
      obtain ⟨rows,rfl,h1,h2⟩:=hp
      obtain ⟨y,y1,y2,y3⟩:=akh (⟨(same.g j).n,fun i=>(same.g j).g i⟩:Sl sR.den) (Nat.le_trans (hk j hj) (by omega))
      have h24:(rows.n + 1) * 24<=140737488355328:=by omega
      have e:Int.toNat (j:Int)=j:=rfl
      have w1:W ((j:Int) + 1)=((j + 1:Nat):Int):=by rw [gQ ⟨by omega,by omega⟩]; rfl
      refine ⟨(((j + 1:Nat):Int),(dx s,(((),()),(((),()),((s.1,(s.2.1,(s.2.2.1,(s.2.2.2.1,(s.2.2.2.2.1,(snoc rows (y,()),())))))),()))))),?_,snoc rows (y,()),rfl,by rw [IP,h1],fun t ht=>?_⟩
      · unfold xl Au
        simp only [decide_eq_true (dW hj),decide_eq_true (aQ hj),e,y1,lK,cond_true,decide_eq_true h24,w1]
        try rfl
      · by_cases e:t=j
        · subst e
          have:=Il rows (y,())
          rw [h1] at this
          rw [this]
          exact ⟨y2,fun i hi'=>y3 i hi'⟩
        · rw [Ik (by omega)]
          exact h2 t (by omega)) (fun v hp=>by
      obtain ⟨rows,rfl,h1,h2⟩:=hp
      unfold xl Au
      have:¬ ((same.n:Int) < (same.n:Int)):=by omega
      simp only [decide_eq_false this,cond_false]
      try rfl) ((0:Int),(dx s,(((),()),(((),()),((s.1,(s.2.1,(s.2.2.1,(s.2.2.2.1,(s.2.2.2.2.1,((⟨0,fun i=>((⟨0,fun i=>((0:Int),())⟩:Sl _),())⟩:Sl _),())))))),()))))) ⟨_,rfl,rfl,fun t ht=>by omega⟩
  refine ⟨rows,h1,h2,h3.trans ?_⟩
  rw [hv]
def st2 (z:Sl fD.den) (t i born gone:Int) (s:tS.den) (K b:Int) (same:kA) (can:sq):(aa fE).den:=
 (z,(t,(i,(born,(gone,(s,((),((),((),((),(K,(b,(dx s,(((),()),((s,()),(((),()),(same,(can,()))))))))))))))))))
def ex2 (z:Sl fD.den) (s:tS.den) (same:kA) (can:sq):(aa (dB qj 4)).den:=
 (z,(s,((),((),((),((),(dx s,(((),()),((s,()),(((),()),(same,(can,()))))))))))))
theorem Ob (hs:(cB s).Ok) (hh:Shape s L r) (hlt:L.length < s.1.n) (hr:r.length < (s.1.g L.length).2.1.n) {born gone:Int} {n:Nat}
    (ih:∀ b:Nat,b < (s.1.g (L.length - 1)).2.1.n->∀ z same can,Inv s L (r ++ [(b:Int)]) same can ->
      ∃ z' gz mF items,mD n (mkX z L.length ((r ++ [(b:Int)]).length:Nat) born gone s same can)=some (aav z' s gz mF)/\z'.list=z.list ++ items/\items.map toL=gen (cB s) n born gone L (r ++ [(b:Int)])/\(∀ it∈items,Good s it)/\Inv s L (r ++ [(b:Int)]) gz mF)
    (z:Sl fD.den) (hi':Inv s L r same can) :
    ∃ z' gz mF items,qg (mD n) (st2 z L.length r.length born gone s (((s.1.g (L.length - 1)).2.1.n:Nat):Int) 0 same can) = .exit 4 (ex2 z' s gz mF)/\z'.list=z.list ++ items /\
      items.map toL=(List.range (s.1.g (L.length - 1)).2.1.n).flatMap (fun b:Nat=>if has r (b:Int) then [] else
        if UY (inter ((cB s).box L.length r.length) (wide (cB s) (Low.can (cB s) L (L.length - 1) b) ((cB s).tm L.length - (cB s).tm (L.length - 1)))) then gen (cB s) n born gone L (r ++ [(b:Int)]) else [])/\(∀ it∈items,Good s it)/\Inv s L r gz mF:=by
  obtain ⟨t0,Rj⟩:∃ t,L.length=t + 1:=⟨L.length - 1,by have:=hh.pos; omega⟩
  have WM:=eF hs
  have Ml:=dN hs (t:=t0) (by omega)
  have hk1:=dN hs hlt
  have ht1:L.length - 1=t0:=by omega
  unfold qg
  obtain ⟨v,⟨z',gz,mF,items,hv,h1,h2,h3,h4⟩,h5⟩:=jq (step:=uL (mD n)) (N:=cz)
    (P:=fun j v=>∃ z' gz mF items,v=st2 z' L.length r.length born gone s (((s.1.g (L.length - 1)).2.1.n:Nat):Int) (j:Int) gz mF/\z'.list=z.list ++ items /\
      items.map toL=(List.range j).flatMap (fun b:Nat=>if has r (b:Int) then [] else
        if UY (inter ((cB s).box L.length r.length) (wide (cB s) (Low.can (cB s) L (L.length - 1) b) ((cB s).tm L.length - (cB s).tm (L.length - 1)))) then gen (cB s) n born gone L (r ++ [(b:Int)]) else [])/\(∀ it∈items,Good s it)/\Inv s L r gz mF)
    (q:=fun v=>.exit 4 (v.1,(v.2.2.2.2.2.1,((),((),((),((),(v.2.2.2.2.2.2.2.2.2.2.2.2.1,(((),()),(v.2.2.2.2.2.2.2.2.2.2.2.2.2.2.1,(((),()),v.2.2.2.2.2.2.2.2.2.2.2.2.2.2.2.2))))))))))) (s.1.g (L.length - 1)).2.1.n (by rw [ht1]; unfold cz; omega) (fun j v hj hp=>by
      obtain ⟨z1,oK,vF,AF,rfl,g1,g2,g3,g4⟩:=hp
      have hj3:j < 3:=by rw [ht1] at hj; omega
      have e0:Int.toNat (L.length:Int)=L.length:=rfl
      have e1:Int.toNat (r.length:Int)=r.length:=rfl
      have e2:Int.toNat (j:Int)=j:=rfl
      have w1:W ((j:Int) + 1)=((j + 1:Nat):Int):=by rw [gQ ⟨by omega,by omega⟩]; rfl
      have w2:W ((L.length:Int) - 1)=(t0:Int):=by rw [gQ ⟨by omega,by omega⟩]; omega
      have e3:Int.toNat (t0:Int)=t0:=rfl
      have w3:W ((r.length:Int) + 1)=((r.length + 1:Nat):Int):=by rw [gQ ⟨by omega,by omega⟩]; rfl
      have a1:(0:Int)<=(L.length:Int)/\(L.length:Int) < (oK.n:Int):=aQ (by rw [g4.sn]; exact hlt)
      have a1c:(0:Int)<=(L.length:Int)/\(L.length:Int) < (vF.n:Int):=aQ (by rw [g4.cn]; exact hlt)
      have hsk:=g4.sk L.length hlt
      have hck:=g4.ck L.length hlt
      have a2:(0:Int)<=(r.length:Int)/\(r.length:Int)<=((oK.g L.length).n:Int):=by omega
      have a3:(0:Int)<=(t0:Int)/\(t0:Int) < (vF.n:Int):=aQ (by rw [g4.cn]; omega)
      have a4:(0:Int)<=(j:Int)/\(j:Int) < ((vF.g t0).n:Int):=aQ (by rw [g4.ck t0 (by omega),<- ht1]; exact hj)
      have a5:(0:Int)<=(r.length:Int)/\(r.length:Int) < ((oK.g L.length).n:Int):=by omega
      have a6:(0:Int)<=(r.length:Int)/\(r.length:Int) < ((vF.g L.length).n:Int):=by omega
      have hj0:j < (s.1.g t0).2.1.n:=by rw [<- ht1]; exact hj
      have hcj:(vF.g t0).g j=Low.can (cB s) L t0 j:=g4.cL t0 (by omega) j hj0
      have hbx:vL (Low.can (cB s) L t0 j):=JN hs hh t0 j (by omega) hj0
      have hpre:=aaw g4
      have key:uL (mD n) (st2 z1 L.length r.length born gone s (((s.1.g (L.length - 1)).2.1.n:Nat):Int) (j:Int) oK vF) =
          bif has r (j:Int) then .next (st2 z1 L.length r.length born gone s (((s.1.g (L.length - 1)).2.1.n:Nat):Int) ((j + 1:Nat):Int) oK vF)
          else bif UY (inter ((s.1.g L.length).2.1.g r.length) (wide (cB s) (Low.can (cB s) L t0 j) (mT s L.length - mT s t0))) then
            (match mD n (mkX z1 L.length (r.length + 1:Nat) born gone s (bO oK L.length (bO (oK.g L.length) r.length ((j:Int),()))) (bO vF L.length (bO (vF.g L.length) r.length (inter ((s.1.g L.length).2.1.g r.length) (wide (cB s) (Low.can (cB s) L t0 j) (mT s L.length - mT s t0)))))) with
            | some u=>.next (u.1,((L.length:Int),((r.length:Int),(born,(gone,(s,((),((),((),((),((((s.1.g (L.length - 1)).2.1.n:Nat):Int),(((j + 1:Nat):Int),(u.2.1,(((),()),(u.2.2.2.1,(((),()),u.2.2.2.2.2)))))))))))))))) 
            | none=>.bad)
          else .next (st2 z1 L.length r.length born gone s (((s.1.g (L.length - 1)).2.1.n:Nat):Int) ((j + 1:Nat):Int) oK vF):=by
        unfold uL we st2
        have hM:=akg hs (t:=t0) (i:=r.length) (by omega) (by rw [<- Rj]; exact hr) hbx
        rw [<- Rj] at hM
        have eL:((dx s).1,((dx s).2.1,((dx s).2.2.1,((dx s).2.2.2.1,((dx s).2.2.2.2.1,((),()))))))=dx s:=rfl
        simp only [decide_eq_true (dW hj),decide_eq_true a1,decide_eq_true a2,e0,e1,e2,e3,w2,cond_true,Wt (⟨r.length,fun i=>(oK.g L.length).g i⟩:Sl sR.den) (show r.length<=140737488355328 by omega),hpre,lK,decide_eq_true a3,decide_eq_true a4,hcj,eL,hM]
        cases has r (j:Int) with
        | true=>simp only [cond_true,w1]; rfl
        | false =>
          simp only [cond_false]
          cases UY (inter ((s.1.g L.length).2.1.g r.length) (wide (cB s) (Low.can (cB s) L t0 j) (mT s L.length - mT s t0))) with
          | false=>simp only [cond_false,Bool.not_false,cond_true,w1]; rfl
          | true =>
            simp only [cond_true,Bool.not_true,cond_false,decide_eq_true a1c,decide_eq_true a5,decide_eq_true a6,w1,w3]
            generalize hF:mD n _=o
            have hF':mD n (mkX z1 L.length (r.length + 1:Nat) born gone s (bO oK L.length (bO (oK.g L.length) r.length ((j:Int),()))) (bO vF L.length (bO (vF.g L.length) r.length (inter ((s.1.g L.length).2.1.g r.length) (wide (cB s) (Low.can (cB s) L t0 j) (mT s L.length - mT s t0))))))=o:=hF
            rw [hF']
            cases o <;> rfl
      rw [key]
      have erg:∀ f:Nat->List LL,(List.range (j + 1)).flatMap f=(List.range j).flatMap f ++ f j:=fun f=>by rw [List.range_succ,List.flatMap_append]; simp
      cases hh1:has r (j:Int) with
      | true =>
        refine ⟨_,rfl,z1,oK,vF,AF,rfl,g1,?_,g3,g4⟩
        rw [erg,g2,hh1,if_pos rfl,List.append_nil]
      | false =>
        rw [cond_false]
        have NH:inter ((cB s).box L.length r.length) (wide (cB s) (Low.can (cB s) L (L.length - 1) j) ((cB s).tm L.length - (cB s).tm (L.length - 1)))=inter ((s.1.g L.length).2.1.g r.length) (wide (cB s) (Low.can (cB s) L t0 j) (mT s L.length - mT s t0)):=by rw [ht1]; rfl
        cases hne:UY (inter ((s.1.g L.length).2.1.g r.length) (wide (cB s) (Low.can (cB s) L t0 j) (mT s L.length - mT s t0))) with
        | false =>
          refine ⟨_,rfl,z1,oK,vF,AF,rfl,g1,?_,g3,g4⟩
          rw [erg,g2,hh1,NH,hne]
          simp
        | true =>
          have aaz:(r ++ [(j:Int)]).getD r.length (-1)=(j:Int):=by simp
          have aaA:=g4.push hh hlt hr (j:Int) (b:=inter ((s.1.g L.length).2.1.g r.length) (wide (cB s) (Low.can (cB s) L t0 j) (mT s L.length - mT s t0))) (by
            rw [qQ Rj,aaz,if_pos (by omega),e2,Rj]; rfl)
          obtain ⟨z2,JO,VU,FV,f1,f2,f3,f4,f5⟩:=ih j hj z1 _ _ aaA
          have hl2:(r ++ [(j:Int)]).length=r.length + 1:=by simp
          rw [hl2] at f1
          rw [cond_true,f1]
          refine ⟨_,rfl,z2,JO,VU,AF ++ FV,rfl,by rw [f2,g1,List.append_assoc],?_,fun it hit=>(List.mem_append.1 hit).elim (g3 it) (f4 it),f5.pop hh⟩
          rw [erg,List.map_append,g2,f3,hh1,NH,hne]
          simp) (fun v hp=>by
      obtain ⟨z1,oK,vF,AF,rfl,g1,g2,g3,g4⟩:=hp
      unfold uL we st2
      have:¬ ((((s.1.g (L.length - 1)).2.1.n:Nat):Int) < (((s.1.g (L.length - 1)).2.1.n:Nat):Int)):=by omega
      simp only [decide_eq_false this,cond_false]
      rfl) (st2 z L.length r.length born gone s (((s.1.g (L.length - 1)).2.1.n:Nat):Int) 0 same can) ⟨z,same,can,[],rfl,by simp,rfl,fun it hit=>by simp at hit,hi'⟩
  refine ⟨z',gz,mF,items,h5.trans ?_,h1,h2,h3,h4⟩
  rw [hv]
  rfl
end Go.Dm

/- Suites; and what a low can be. -/
import Derived.Test.YtadkaccpacpklaaL10LP0
set_option linter.unusedVariables false
set_option linter.unusedSimpArgs false
namespace Go.Dm
set_option maxRecDepth 100000
open Go.Low
def pN (s:tS.den):Int:=s.2.1
def zn (s:tS.den):Int:=s.2.2.1
def OC (s:tS.den):Int:=s.2.2.2.1
def Sa (s:tS.den):Int:=s.2.2.2.2.1
def mT (s:tS.den) (t:Nat):Int:=(s.1.g t).1
def cB (s:tS.den):PS:=⟨s.1.n,mT s,fun t=>(s.1.g t).2.1.n,fun t i=>(s.1.g t).2.1.g i,pN s,zn s,OC s,Sa s⟩
def dx (s:tS.den):tKo.den:=(s.1,(s.2.1,(s.2.2.1,(s.2.2.2.1,(s.2.2.2.2.1,((),()))))))
theorem GU (a b:Int):mx a b=max a b:=by
 unfold mx
 split <;> omega
theorem LI (a b:Int):mn a b=min a b:=by
 unfold mn
 split <;> omega
theorem Po {s:tS.den} {t i:Nat} (ht:t < s.1.n) (hi:i < (s.1.g t).2.1.n):Sf (no_index (dx s,((t:Int),((i:Int),()))))=some ((s.1.g t).2.1.g i,()):=by
 unfold Sf Q94
 refine (aq (decide_eq_true (aQ ht))).trans ?_
 refine (aq (decide_eq_true (aQ hi))).trans ?_
 rfl
theorem acf {x y:Int} (hx:0<=x/\x<=99999) (hy:0<=y/\y<=200000):W (x - y)=x - y:=gQ ⟨by omega,by omega⟩
theorem akd {x y:Int} (hx:0<=x/\x<=99999) (hy:0<=y/\y<=200000):W (x + y)=x + y:=gQ ⟨by omega,by omega⟩
theorem MG {p h:Int} (h1:0<=p/\p<=1000) (h2:0<=h/\h<=200):W (p * h)=p * h/\0<=p * h/\p * h<=200000:=by
 have a1:0<=p * h:=Int.mul_nonneg h1.1 h2.1
 have a2:p * h<=1000 * 200:=Int.mul_le_mul h1.2 h2.2 h2.1 (by omega)
 exact ⟨gQ ⟨by omega,by omega⟩,a1,by omega⟩
theorem wo {t n:Nat} (hn:n<=1000) (ht:t + 1 < n):W (((t + 1:Nat):Int) - 1)=(t:Int):=by rw [gQ ⟨by omega,by omega⟩]; omega
theorem afH {s:tS.den} (hs:(cB s).Ok) {t:Nat} (ht:t + 1 < s.1.n):WG (no_index (dx s,(((t + 1:Nat):Int),())))=some (mT s (t + 1) - mT s t,()):=by
 unfold WG Q96
 have hn:s.1.n<=4:=hs.n4
 have e3:=wo (n:=s.1.n) (by omega) ht
 have h1:0<=mT s (t + 1)/\mT s (t + 1)<=200:=hs.Xp (t + 1) ht
 have h2:0<=mT s t/\mT s t<=200:=hs.Xp t (Nat.lt_of_succ_lt ht)
 refine (aq (decide_eq_true (aQ ht))).trans ?_
 have e4:∀ {α:Type} (x y:α),(bif decide ((0:Int)<=W (((t + 1:Nat):Int) - 1)/\W (((t + 1:Nat):Int) - 1) < (s.1.n:Int)) then x else y)=x:=fun x y=>by rw [e3]; exact aq (decide_eq_true (aQ (Nat.lt_of_succ_lt ht)))
 refine (e4 _ _).trans ?_
 show some (W (mT s (t + 1) - mT s (Int.toNat (W (((t + 1:Nat):Int) - 1)))),())=_
 rw [e3]
 show some (W (mT s (t + 1) - mT s t),())=_
 rw [acf ⟨by omega,by omega⟩ ⟨by omega,by omega⟩]
def vL (b:B6):Prop:=∀ a,a < 3->0<=lo b a/\lo b a<=99999/\0<=hi b a/\hi b a<=99999
theorem aiQ {s:tS.den} (hs:(cB s).Ok) {h:Int} (h0:0<=h) (h1:h<=200):M95 (no_index (dx s,(h,())))=some ((pN s * h,(pN s * h,(zn s * h,()))),()):=by
 have q1:0<=pN s/\pN s<=50:=hs.sp
 have q2:0<=zn s/\zn s<=1000:=hs.dp
 show some ((W (pN s * h),(W (pN s * h),(W (zn s * h),()))),())=_
 rw [(MG ⟨q1.1,by omega⟩ ⟨h0,h1⟩).1,(MG q2 ⟨h0,h1⟩).1]
theorem ang {s:tS.den} (hs:(cB s).Ok) {b:B6} (hb:vL b) {h:Int} (h0:0<=h) (h1:h<=200):UQ (no_index (dx s,(b,(h,()))))=some (wide (cB s) b h,()):=by
 unfold UQ Q88
 have e:((dx s).1,((dx s).2.1,((dx s).2.2.1,((dx s).2.2.2.1,((dx s).2.2.2.2.1,((),()))))))=dx s:=rfl
 have q1:0<=pN s/\pN s<=50:=hs.sp
 have q2:0<=zn s/\zn s<=1000:=hs.dp
 obtain ⟨_,a1,a2⟩:=MG (p:=pN s) (h:=h) ⟨q1.1,by omega⟩ ⟨h0,h1⟩
 obtain ⟨_,b1,b2⟩:=MG (p:=zn s) (h:=h) q2 ⟨h0,h1⟩
 obtain ⟨c1,c2,c3,c4,c5,c6,⟨⟩⟩:=b
 have i0:=hb 0 (by omega)
 have i1:=hb 1 (by omega)
 have i2:=hb 2 (by omega)
 simp only [lo,hi] at i0 i1 i2
 refine (aK (aiQ hs h0 h1)).trans ?_
 show some ((W (c1 - pN s * h),(W (c2 + pN s * h),(W (c3 - pN s * h),(W (c4 + pN s * h),(W (c5 - zn s * h),(W (c6 + zn s * h),())))))),())=_
 rw [acf ⟨i0.1,i0.2.1⟩ ⟨a1,a2⟩,akd i0.2.2 ⟨a1,a2⟩,acf ⟨i1.1,i1.2.1⟩ ⟨a1,a2⟩,akd i1.2.2 ⟨a1,a2⟩,acf ⟨i2.1,i2.2.1⟩ ⟨b1,b2⟩,akd i2.2.2 ⟨b1,b2⟩]
 rfl
def aV (r:Sl sR.den):List Int:=(List.range r.n).map fun i=>(r.g i).1
theorem iN (r:Sl sR.den):(aV r).length=r.n:=by simp [aV]
theorem gR {r:Sl sR.den} {i:Nat}:(aV r)[i]? = if i < r.n then some (r.g i).1 else none:=by
 unfold aV
 rw [List.getElem?_map]
 by_cases h:i < r.n
 ·rw [if_pos h,List.getElem?_range h]; rfl
 ·rw [if_neg h,List.getElem?_eq_none (by simpa using h)]; rfl
theorem aat (r:Sl sR.den) (hr:r.n<=140737488355328) (x:Int):Gq (no_index (r,(x,())))=some ((match fB (fun j=>decide (x=(r.g j).1)) r.n with | some k=>(k:Int) | none=>-1),()):=by
 unfold Gq Xz
 have:yS (r,(x,(((r.n:Nat):Int),()))) ((0:Int),())=match fB (fun j=>decide (x=(r.g j).1)) r.n with | some k=>.ret ((k:Int),()) | none=>.exit 0 ():=by
  unfold yS
  refine kG (ps:=gY) (n:=r.n) (f:=fun j=>((j:Int),())) (qr:=fun k=>LQ.ret (wy:=pV) (show (aa pV.ret).den from ((k:Int),()))) (Mk hr) (fun j hj _=>?_) (fun _=>?_)
  ·unfold yR yQ
   have e:Int.toNat (j:Int)=j:=rfl
   simp only [decide_eq_true (dW hj),decide_eq_true (aQ hj),e,dR hj hr,cond_true]
  ·unfold yR yQ
   have:¬ ((r.n:Int) < (r.n:Int)):=by omega
   simp only [decide_eq_false this,cond_false]
 simp only [this]
 cases fB (fun j=>decide (x=(r.g j).1)) r.n <;> rfl
theorem Wt (r:Sl sR.den) (hr:r.n<=140737488355328) (x:Int):XA (no_index (r,(x,())))=some (has (aV r) x,()):=by
 unfold XA Q97
 simp only [aat r hr,lK]
 congr 2
 rw [Bool.eq_iff_iff,zN,decide_eq_true_eq]
 cases h:fB (fun j=>decide (x=(r.g j).1)) r.n with
 | some k =>
  obtain ⟨h1,h2,_⟩:=kD h
  have h2:=of_decide_eq_true h2
  refine ⟨fun _=>⟨k,?_⟩,fun _=>by simp⟩
  rw [gR,if_pos h1,h2]
 | none =>
  have hn:=jg h
  refine ⟨fun h=>absurd h (by simp),fun ⟨i,hi⟩=>?_⟩
  rw [gR] at hi
  split at hi
  ·rename_i hlt
   have:=hn i hlt
   rw [decide_eq_false_iff_not] at this
   exact absurd (Option.some.inj hi).symm this
  ·cases hi
theorem ake (p1 p2 p3 p4 p5 p6 w1 w2 w3 w4 w5 w6:Int) :
  ∃ j:Int,As ((),((),((⟨1,fun i=>List.getD [((w1,(w2,(w3,(w4,(w5,(w6,())))))):B6)] i (w1,(w2,(w3,(w4,(w5,(w6,()))))))⟩:Sl Py.den),(((1:Nat):Int),(((0:Int),((0:Int),((0:Int),((0:Int),((0:Int),((0:Int),())))))),()))))) ((0:Int),((p1,(p2,(p3,(p4,(p5,(p6,())))))),())) =
   bif decide (max p1 w1<=min p2 w2) && decide (max p3 w3<=min p4 w4) && decide (max p5 w5<=min p6 w6) then .exit 0 ((max p1 w1,(min p2 w2,(max p3 w3,(min p4 w4,(max p5 w5,(min p6 w6,())))))),()) else .cw 150 OA (j,()) ():=by
 unfold As
 have s0:∀ v:(aa fe).den,v.1=1->xk ((),((),((⟨1,fun i=>List.getD [((w1,(w2,(w3,(w4,(w5,(w6,())))))):B6)] i (w1,(w2,(w3,(w4,(w5,(w6,()))))))⟩:Sl Py.den),(((1:Nat):Int),(((0:Int),((0:Int),((0:Int),((0:Int),((0:Int),((0:Int),())))))),()))))) v = .out (.exit 0 (v.2.1,())):=fun v hv=>by
  unfold xk FK
  rw [hv]
  rfl
 have s1:xk ((),((),((⟨1,fun i=>List.getD [((w1,(w2,(w3,(w4,(w5,(w6,())))))):B6)] i (w1,(w2,(w3,(w4,(w5,(w6,()))))))⟩:Sl Py.den),(((1:Nat):Int),(((0:Int),((0:Int),((0:Int),((0:Int),((0:Int),((0:Int),())))))),()))))) ((0:Int),((p1,(p2,(p3,(p4,(p5,(p6,())))))),())) =
   bif decide (mn p2 w2 < mx p1 w1) then .out (.cw 150 OA ((0:Int),()) ()) else bif decide (mn p4 w4 < mx p3 w3) then .out (.cw 150 OA ((1:Int),()) ()) else bif decide (mn p6 w6 < mx p5 w5) then .out (.cw 150 OA ((2:Int),()) ()) else .next ((1:Int),((mx p1 w1,(mn p2 w2,(mx p3 w3,(mn p4 w4,(mx p5 w5,(mn p6 w6,())))))),())):=rfl
 rw [GU,GU,GU,LI,LI,LI] at s1
 by_cases c1:min p2 w2 < max p1 w1
 ·refine ⟨0,?_⟩
  have d:¬ (max p1 w1<=min p2 w2):=by omega
  rw [decide_eq_true c1,cond_true] at s1
  rw [decide_eq_false d,Bool.false_and,Bool.false_and,cond_false]
  exact bQ (ps:=fe) 0 cz (fun _=>_) (by unfold cz; omega) (fun j hj=>by omega) s1
 by_cases c2:min p4 w4 < max p3 w3
 ·refine ⟨1,?_⟩
  have d:¬ (max p3 w3<=min p4 w4):=by omega
  rw [decide_eq_false c1,cond_false,decide_eq_true c2,cond_true] at s1
  rw [decide_eq_false d,Bool.and_false,Bool.false_and,cond_false]
  exact bQ (ps:=fe) 0 cz (fun _=>_) (by unfold cz; omega) (fun j hj=>by omega) s1
 by_cases c3:min p6 w6 < max p5 w5
 ·refine ⟨2,?_⟩
  have d:¬ (max p5 w5<=min p6 w6):=by omega
  rw [decide_eq_false c1,cond_false,decide_eq_false c2,cond_false,decide_eq_true c3,cond_true] at s1
  rw [decide_eq_false d,Bool.and_false,cond_false]
  exact bQ (ps:=fe) 0 cz (fun _=>_) (by unfold cz; omega) (fun j hj=>by omega) s1
 refine ⟨0,?_⟩
 have d1:max p1 w1<=min p2 w2:=by omega
 have d2:max p3 w3<=min p4 w4:=by omega
 have d3:max p5 w5<=min p6 w6:=by omega
 rw [decide_eq_false c1,cond_false,decide_eq_false c2,cond_false,decide_eq_false c3,cond_false] at s1
 rw [decide_eq_true d1,decide_eq_true d2,decide_eq_true d3]
 refine bQ (ps:=fe) 1 cz (fun j=>match j with | 0=>((0:Int),((p1,(p2,(p3,(p4,(p5,(p6,())))))),())) | _=>((1:Int),((max p1 w1,(min p2 w2,(max p3 w3,(min p4 w4,(max p5 w5,(min p6 w6,())))))),()))) (by unfold cz; omega) (fun j hj=>?_) ?_
 ·obtain rfl:j=0:=by omega
  exact s1
 ·exact s0 _ rfl
theorem akf (p w:B6):∃ j:Int,IZ (p,((⟨1,fun i=>List.getD [w] i w⟩:Sl Py.den),()))=bif UY (inter p w) then .ok (inter p w,()) () else .cw 150 OA (j,()) ():=by
 obtain ⟨p1,p2,p3,p4,p5,p6,⟨⟩⟩:=p
 obtain ⟨w1,w2,w3,w4,w5,w6,⟨⟩⟩:=w
 obtain ⟨j,hL⟩:=ake p1 p2 p3 p4 p5 p6 w1 w2 w3 w4 w5 w6
 refine ⟨j,?_⟩
 unfold IZ aad
 refine (congrArg (fun o=>aF o 0 _ (qE o 150 OA _ _)) hL).trans ?_
 show _=bif decide (max p1 w1<=min p2 w2) && decide (max p3 w3<=min p4 w4) && decide (max p5 w5<=min p6 w6) then _ else _
 cases decide (max p1 w1<=min p2 w2) && decide (max p3 w3<=min p4 w4) && decide (max p5 w5<=min p6 w6) <;> rfl
theorem akg {s:tS.den} (hs:(cB s).Ok) {t i:Nat} (ht:t + 1 < s.1.n) (hi':i < (s.1.g (t + 1)).2.1.n) {b:B6} (hb:vL b) :
  Mh (no_index (dx s,(((t + 1:Nat):Int),((i:Int),(b,())))))=some (bif UY (inter ((s.1.g (t + 1)).2.1.g i) (wide (cB s) b (mT s (t + 1) - mT s t))) then (inter ((s.1.g (t + 1)).2.1.g i) (wide (cB s) b (mT s (t + 1) - mT s t)),(true,())) else ((0,(0,(0,(0,(0,(0,())))))),(false,()))):=by
 unfold Mh aaf
 have h1:0<=mT s (t + 1)/\mT s (t + 1)<=200:=hs.Xp (t + 1) ht
 have h2:0<=mT s t/\mT s t<=200:=hs.Xp t (Nat.lt_of_succ_lt ht)
 have h3:mT s t < mT s (t + 1):=hs.tm t ht
 refine (aK (Po ht hi')).trans ?_
 refine (aK (afH hs ht)).trans ?_
 refine (aK (ang hs hb (h:=mT s (t + 1) - mT s t) (by omega) (by omega))).trans ?_
 obtain ⟨j,hU⟩:=akf ((s.1.g (t + 1)).2.1.g i) (wide (cB s) b (mT s (t + 1) - mT s t))
 refine (congrArg (fun o=>Dt o 150 OA _ (Xr o _ _)) hU).trans ?_
 cases UY (inter ((s.1.g (t + 1)).2.1.g i) (wide (cB s) b (mT s (t + 1) - mT s t))) <;> rfl
end Go.Dm

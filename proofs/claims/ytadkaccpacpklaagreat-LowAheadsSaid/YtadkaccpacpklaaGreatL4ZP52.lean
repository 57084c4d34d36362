/-
 Of the plain law.
-/
import Derived.Test.YtadkaccpacpklaaGreatL4ZP50
set_option linter.unusedVariables false
set_option linter.unusedSimpArgs false
namespace Go.Dm
set_option maxRecDepth 100000
open Go.Low
variable {s:tS.den}
theorem aio (x y:Int×Int×Unit) (w:Int):M53 (no_index ((show T12.den from x),((show T12.den from y),(w,()))))=some ((mx x.1 (W (y.1 - w)),(mn x.2.1 (W (y.2.1 + w)),())),()):=rfl
theorem aNt (x y:Int×Int×Unit):M49 (no_index ((show T12.den from x),((show T12.den from y),())))=some ((mn x.1 y.1,(mx x.2.1 y.2.1,())),()):=rfl
theorem aWU (hs:(cB s).Ok) {t u:Nat} (ht:t < s.1.n) (hu:u < s.1.n):mx (W (mT s t - mT s u)) (W (mT s u - mT s t))=dt (cB s) t u/\0<=dt (cB s) t u/\dt (cB s) t u<=200:=by
 have h1:0<=mT s t/\mT s t<=200:=hs.Xp t ht
 have h2:0<=mT s u/\mT s u<=200:=hs.Xp u hu
 rw [acf ⟨by omega,by omega⟩ ⟨by omega,by omega⟩,acf ⟨by omega,by omega⟩ ⟨by omega,by omega⟩,GU]
 by_cases c:u<=t
 ·have h3:mT s u<=mT s t:=hs.afG c ht
  have e:dt (cB s) t u=mT s t - mT s u:=aFM c
  rw [e]; omega
 ·have h3:mT s t<=mT s u:=hs.afG (by omega) hu
  have e:dt (cB s) t u=mT s u - mT s t:=aQF (by omega)
  rw [e]; omega
theorem aQE (hs:(cB s).Ok) {t u i:Nat} (ht:t < s.1.n) (hu:u < s.1.n) (hi:i < (s.1.g u).2.1.n) (p:B6):M78 (no_index (s,(p,((t:Int),((u:Int),((i:Int),()))))))=some (nar (cB s) t p (u,i),()):=by
 unfold M78 Q78
 refine (aq (decide_eq_true (aQ hu))).trans ?_
 refine (aq (decide_eq_true (aQ hi))).trans ?_
 refine (aq (decide_eq_true (aQ ht))).trans ?_
 refine (aq (decide_eq_true (aQ hu))).trans ?_
 refine (aq (decide_eq_true (aQ hu))).trans ?_
 refine (aq (decide_eq_true (aQ ht))).trans ?_
 refine (aK (aio _ _ _)).trans ?_
 refine (aK (aio _ _ _)).trans ?_
 refine (aK (aio _ _ _)).trans ?_
 obtain ⟨e,d0,d1⟩:=aWU hs ht hu
 have q1:0<=pN s/\pN s<=50:=hs.sp
 have q2:0<=zn s/\zn s<=1000:=hs.dp
 obtain ⟨a0,a1,a2⟩:=MG (p:=pN s) (h:=dt (cB s) t u) ⟨q1.1,by omega⟩ ⟨d0,d1⟩
 obtain ⟨b0,b1,b2⟩:=MG (p:=zn s) (h:=dt (cB s) t u) q2 ⟨d0,d1⟩
 have hb:=lE hs hu hi
 have i0:=hb 0 (by omega)
 have i1:=hb 1 (by omega)
 have i2:=hb 2 (by omega)
 obtain ⟨p1,p2,p3,p4,p5,p6,⟨⟩⟩:=p
 show some ((mx p1 (W (lo ((s.1.g u).2.1.g i) 0 - W (pN s * mx (W (mT s t - mT s u)) (W (mT s u - mT s t))))),(mn p2 (W (Low.hi ((s.1.g u).2.1.g i) 0 + W (pN s * mx (W (mT s t - mT s u)) (W (mT s u - mT s t))))),(mx p3 (W (lo ((s.1.g u).2.1.g i) 1 - W (pN s * mx (W (mT s t - mT s u)) (W (mT s u - mT s t))))),(mn p4 (W (Low.hi ((s.1.g u).2.1.g i) 1 + W (pN s * mx (W (mT s t - mT s u)) (W (mT s u - mT s t))))),(mx p5 (W (lo ((s.1.g u).2.1.g i) 2 - W (zn s * mx (W (mT s t - mT s u)) (W (mT s u - mT s t))))),(mn p6 (W (Low.hi ((s.1.g u).2.1.g i) 2 + W (zn s * mx (W (mT s t - mT s u)) (W (mT s u - mT s t))))),())))))),())=_
 rw [e,a0,b0,acf ⟨i0.1,i0.2.1⟩ ⟨a1,a2⟩,akd i0.2.2 ⟨a1,a2⟩,acf ⟨i1.1,i1.2.1⟩ ⟨a1,a2⟩,akd i1.2.2 ⟨a1,a2⟩,acf ⟨i2.1,i2.2.1⟩ ⟨b1,b2⟩,akd i2.2.2 ⟨b1,b2⟩]
 simp only [GU,LI]
 rfl
theorem aHc (hs:(cB s).Ok) {rows:cT} (hL:aW rows∈links (cB s)) {t:Nat} (ht:t < s.1.n) {c3:Int} {c8:B6}:∀ (u k n:Nat) (p:B6),u<=t->k < (s.1.g u).2.1.n->u < n ->
  aH (ax8 (rows,((t:Int),(c3,((),((),((),(s,(c8,()))))))))) n ((u:Int),((k:Int),(p,()))) = .exit 0 (((uT (aW rows) u k).tail).foldl (nar (cB s) t) p,())
 | 0,k,n,p,hu,hk,hn=>by
  obtain ⟨n,rfl⟩:∃ m,n=m + 1:=⟨n - 1,by omega⟩
  have hr:=aia hs hL
  have hI:=(tX hs).1 hL
  have xU:0 < s.1.n:=hs.n1
  have r0:0 < rows.n:=by rw [hr.n]; exact xU
  have r1:k < (rows.g 0).1.n:=by rw [hr.k 0 xU]; exact hk
  have hv:(show Int from ((rows.g 0).1.g k).1) = -1:=by
   have h1:=hI.first
   have h2:(aW rows).getD 0 []=aV (rows.g 0).1:=kH r0
   rw [h2] at h1
   have h3:(aV (rows.g 0).1)[k]? = some ((rows.g 0).1.g k).1:=by rw [gR,if_pos r1]
   rw [h1] at h3
   unfold first at h3
   rw [List.getElem?_replicate] at h3
   split at h3
   ·exact (Option.some.inj h3).symm
   ·cases h3
  have st:ax8 (rows,((t:Int),(c3,((),((),((),(s,(c8,())))))))) (((0:Nat):Int),((k:Int),(p,()))) = .out (.exit 0 (p,())):=by
   unfold ax8 aE2
   refine (aq (decide_eq_true (aQ r0))).trans ?_
   refine (aq (decide_eq_true (aQ r1))).trans ?_
   exact aR (decide_eq_false (show ¬ ((0:Int)<=(show Int from ((rows.g 0).1.g k).1)) by omega))
  simp only [aH,st]
  rfl
 | u + 1,k,n,p,hu,hk,hn=>by
  obtain ⟨n,rfl⟩:∃ m,n=m + 1:=⟨n - 1,by omega⟩
  have hr:=aia hs hL
  have hI:=(tX hs).1 hL
  have Pt:u + 1 < s.1.n:=by omega
  have r0:u + 1 < rows.n:=by rw [hr.n]; exact Pt
  have r1:k < (rows.g (u + 1)).1.n:=by rw [hr.k _ Pt]; exact hk
  have hl:=hI.afg Pt hk
  have e:qR (aW rows) (u + 1) k=(show Int from ((rows.g (u + 1)).1.g k).1):=OO r0 r1
  have wp:=wo (n:=s.1.n) (by have:=eF hs; omega) Pt
  rcases hl with hl | ⟨h0,h1,_⟩
  ·have hv:¬ ((0:Int)<=(show Int from ((rows.g (u + 1)).1.g k).1)):=by rw [<- e,hl]; omega
   have st:ax8 (rows,((t:Int),(c3,((),((),((),(s,(c8,())))))))) (((u + 1:Nat):Int),((k:Int),(p,()))) = .out (.exit 0 (p,())):=by
    unfold ax8 aE2
    refine (aq (decide_eq_true (aQ r0))).trans ?_
    refine (aq (decide_eq_true (aQ r1))).trans ?_
    exact aR (decide_eq_false hv)
   simp only [aH,st]
   unfold uT
   rw [if_neg (by omega)]
   rfl
  ·obtain ⟨j,hj⟩:∃ j:Nat,qR (aW rows) (u + 1) k=(j:Int):=⟨_,(Int.toNat_of_nonneg h0).symm⟩
   have hjk:j < (s.1.g u).2.1.n:=by
    have h1:(qR (aW rows) (u + 1) k).toNat < (s.1.g u).2.1.n:=h1
    rw [hj] at h1; exact h1
   have hg:(rows.g (u + 1)).1.g k=((j:Int),()):=by
    have:(show Int from ((rows.g (u + 1)).1.g k).1)=(j:Int):=by rw [<- e]; exact hj
    exact Prod.ext this rfl
   have ih:=aHc hs hL ht (c3:=c3) (c8:=c8) u j n (nar (cB s) t p (u,j)) (by omega) hjk (by omega)
   have key:∀ w:Int,w=(u:Int)->∀ (x:sR.den),x=((j:Int),())->∀ (a b:RQ an5 aC8),
     (bif decide ((0:Int)<=(show Int from x.1)) then cl (WH).dflt (M78 (s,(p,((t:Int),(w,x))))) (fun u0=>(RQ.next (show (aa an5).den from (w,(x.1,(u0.1,())))):RQ an5 aC8)) a else b) = .next (show (aa an5).den from ((u:Int),((j:Int),(nar (cB s) t p (u,j),())))):=fun w hw x hx a b=>by
    subst hw
    subst hx
    refine (aq (decide_eq_true (Int.natCast_nonneg j))).trans ?_
    exact aK (aQE hs ht (by omega) hjk p)
   have st:ax8 (rows,((t:Int),(c3,((),((),((),(s,(c8,())))))))) (((u + 1:Nat):Int),((k:Int),(p,()))) = .next (show (aa an5).den from ((u:Int),((j:Int),(nar (cB s) t p (u,j),())))):=by
    unfold ax8 aE2
    refine (aq (decide_eq_true (aQ r0))).trans ?_
    refine (aq (decide_eq_true (aQ r1))).trans ?_
    refine (aq (decide_eq_true (show (0:Int)<=(show Int from ((rows.g (u + 1)).1.g k).1) by rw [<- e]; exact h0))).trans ?_
    refine (aq (decide_eq_true (aQ r0))).trans ?_
    refine (aq (decide_eq_true (aQ r1))).trans ?_
    refine Eq.trans ?_ (key _ wp _ hg .bad .bad)
    exact (aq (decide_eq_true (show (0:Int)<=(show Int from ((rows.g (u + 1)).1.g k).1) by rw [<- e]; exact h0))).symm
   simp only [aH,st]
   refine ih.trans ?_
   have ea:(uT (aW rows) (u + 1) k).tail=(u,j) :: (uT (aW rows) u j).tail:=by
    rw [uT,if_pos h0,List.tail_cons,hj]
    exact aas _ _ _
   rw [ea,List.foldl_cons]
theorem aLz {p:PS} {L:LL}:∀ {m t i j:Nat} {q:Nat×Nat},(des p L m t i)[j]? = some q->q.1=t + j
 | 0,t,i,j,q,h=>by
  unfold des at h
  cases j with
  | zero=>obtain rfl:=Option.some.inj h; rfl
  | succ j=>cases h
 | m + 1,t,i,j,q,h=>by
  unfold des at h
  cases j with
  | zero=>obtain rfl:=Option.some.inj h; rfl
  | succ j =>
   rw [List.getElem?_cons_succ] at h
   cases hx:nx p L t i with
   | none=>rw [hx] at h; cases h
   | some k=>rw [hx] at h; have:=aLz (m:=m) h; omega
theorem aWV (hs:(cB s).Ok) {L:LL} {t i:Nat} (ht:t < s.1.n) (hi:i < (s.1.g t).2.1.n) {r:Sl sR.den} (hr:aV r=acT (cB s) L (s.1.n - 1 - t) t i) {c8:B6} (p:B6) :
  aLq ((t:Int),((),((),((),(r,(s,(c8,()))))))) ((1:Int),(p,())) = .exit 2 (((des (cB s) L (s.1.n - 1 - t) t i).tail).foldl (nar (cB s) t) p,()):=by
 have WM:=eF hs
 have hD:=at3 (cB s) L (s.1.n - 1 - t) t i
 have RI:r.n=(des (cB s) L (s.1.n - 1 - t) t i).length:=by
  have:=congrArg List.length hr
  unfold acT at this
  rwa [iN,List.length_map] at this
 have hpos:0 < (des (cB s) L (s.1.n - 1 - t) t i).length:=by rw [apI]; simp
 have e:(des (cB s) L (s.1.n - 1 - t) t i).tail=((des (cB s) L (s.1.n - 1 - t) t i).tail).take (r.n - 1):=by rw [List.take_of_length_le (by rw [List.length_tail]; omega)]
 rw [e]
 unfold aLq
 refine bQ (ps:=ajh) (r.n - 1) cz (fun j=>(((j + 1:Nat):Int),((((des (cB s) L (s.1.n - 1 - t) t i).tail).take j).foldl (nar (cB s) t) p,()))) (by unfold cz; omega) (fun j hj=>?_) ?_
 ·have hj1:j + 1 < r.n:=by omega
  obtain ⟨q,hq⟩:∃ q,(des (cB s) L (s.1.n - 1 - t) t i)[j + 1]? = some q:=⟨_,List.getElem?_eq_getElem (by omega)⟩
  have hq1:=aLz hq
  obtain ⟨hq2,hq3⟩:=atN (s:=cB s) (fun _ _=>trivial) (show t + (s.1.n - 1 - t) < s.1.n by omega) hi q (List.mem_of_getElem? hq)
  have hg:r.g (j + 1)=(((q.2:Nat):Int),()):=by
   have h1:(aV r)[j + 1]? = some (r.g (j + 1)).1:=by rw [gR,if_pos hj1]
   rw [hr] at h1
   unfold acT at h1
   rw [List.getElem?_map,hq] at h1
   exact Prod.ext (Option.some.inj h1).symm rfl
  have wt:W ((t:Int) + ((j + 1:Nat):Int))=((q.1:Nat):Int):=by
   rw [gQ ⟨by omega,by omega⟩,hq1]; omega
  have htk:((des (cB s) L (s.1.n - 1 - t) t i).tail).take (j + 1)=((des (cB s) L (s.1.n - 1 - t) t i).tail).take j ++ [q]:=by
   rw [List.take_add_one,List.getElem?_tail,hq]; rfl
  have key:∀ w:Int,w=((q.1:Nat):Int)->∀ (x:sR.den),x=(((q.2:Nat):Int),())->∀ (a:RQ ajh azw),
    cl (WH).dflt (M78 (s,((((des (cB s) L (s.1.n - 1 - t) t i).tail).take j).foldl (nar (cB s) t) p,((t:Int),(w,x))))) (fun u1=>(RQ.next (show (aa ajh).den from (W (((j + 1:Nat):Int) + 1),(u1.1,()))):RQ ajh azw)) a =
     .next (show (aa ajh).den from (((j + 1 + 1:Nat):Int),((((des (cB s) L (s.1.n - 1 - t) t i).tail).take (j + 1)).foldl (nar (cB s) t) p,()))):=fun w hw x hx a=>by
   subst hw
   subst hx
   refine (aK (aQE hs ht hq2 hq3 _)).trans ?_
   rw [htk,List.foldl_append]
   exact congrArg (fun w:Int=>(RQ.next (show (aa ajh).den from (w,(nar (cB s) t ((((des (cB s) L (s.1.n - 1 - t) t i).tail).take j).foldl (nar (cB s) t) p) (q.1,q.2),()))):RQ ajh azw)) (dR (n:=r.n) hj1 (by omega))
  unfold aG6 aG5
  refine (aq (decide_eq_true (dW hj1))).trans ?_
  refine (aq (decide_eq_true (aQ hj1))).trans ?_
  exact key _ wt _ hg _
 ·unfold aG6 aG5
  exact aR (decide_eq_false (show ¬ (((r.n - 1 + 1:Nat):Int) < ((r.n:Nat):Int)) by omega))
theorem baW (hs:(cB s).Ok) {rows:cT} (hL:aW rows∈links (cB s)) {t i:Nat} (ht:t < s.1.n) (hi:i < (s.1.g t).2.1.n):vA (no_index (s,(rows,((t:Int),((i:Int),())))))=some (pos (cB s) (aW rows) t i,()):=by
 obtain ⟨r,h46,e46⟩:=auH hs hL (t:=t) (i:=i) ht
 have WM:=eF hs
 unfold vA Q48
 refine (aq (decide_eq_true (aQ ht))).trans ?_
 refine (aq (decide_eq_true (aQ hi))).trans ?_
 refine (bp (aHc hs hL ht t i cz ((s.1.g t).2.1.g i) (Nat.le_refl _) hi (by unfold cz; omega))).trans ?_
 refine (aK h46).trans ?_
 refine (bp (aWV hs ht hi e46 _)).trans ?_
 rw [<- aOf]; rfl
theorem ba4 (hs:(cB s).Ok) {all:zR} (hall:fU all=links (cB s)) {L0:LL} {l:List LL} (hl:links (cB s)=L0 :: l) {t i:Nat} (ht:t < s.1.n) (hi:i < (s.1.g t).2.1.n) {c8:B6} :
  apL (all,((t:Int),((i:Int),((),((),((),(s,(c8,())))))))) ((1:Int),(pos (cB s) L0 t i,())) = .exit 0 (ach (cB s) t i,()):=by
 have han:all.n=l.length + 1:=by rw [<- jA,hall,hl]; rfl
 have aWW:=aAP hs
 rw [hl,List.length_cons] at aWW
 have e:ach (cB s) t i=apg (pos (cB s) L0 t i) ((l.take l.length).map fun L=>pos (cB s) L t i):=by unfold ach; rw [hl,List.take_length]; rfl
 rw [e]
 unfold apL
 refine bQ (ps:=aeS) l.length cz (fun j=>(((j + 1:Nat):Int),(apg (pos (cB s) L0 t i) ((l.take j).map fun L=>pos (cB s) L t i),()))) (by unfold cz; omega) (fun j hj=>?_) ?_
 ·have hja:j + 1 < all.n:=by omega
  have aq1:(links (cB s))[j + 1]? = some (aW (all.g (j + 1)).1):=by rw [<- hall]; exact IQ hja
  have hL:aW (all.g (j + 1)).1∈links (cB s):=List.mem_of_getElem? aq1
  rw [hl,List.getElem?_cons_succ] at aq1
  have htk:l.take (j + 1)=l.take j ++ [aW (all.g (j + 1)).1]:=by rw [List.take_add_one,aq1]; rfl
  have hh:apg (pos (cB s) L0 t i) ((l.take (j + 1)).map fun L=>pos (cB s) L t i)=apv (apg (pos (cB s) L0 t i) ((l.take j).map fun L=>pos (cB s) L t i)) (pos (cB s) (aW (all.g (j + 1)).1) t i):=by
   rw [htk,List.map_append]; unfold apg; rw [List.foldl_append]; rfl
  unfold apK apJ
  refine (aq (decide_eq_true (dW hja))).trans ?_
  refine (aq (decide_eq_true (aQ hja))).trans ?_
  refine (aK (baW hs hL ht hi)).trans ?_
  refine (aK (aNt _ _)).trans ?_
  refine (aK (aNt _ _)).trans ?_
  refine (aK (aNt _ _)).trans ?_
  rw [hh]
  generalize apg (pos (cB s) L0 t i) ((l.take j).map fun L=>pos (cB s) L t i)=b
  generalize pos (cB s) (aW (all.g (j + 1)).1) t i=c
  have eh:apv b c=(mn b.1 c.1,(mx b.2.1 c.2.1,(mn b.2.2.1 c.2.2.1,(mx b.2.2.2.1 c.2.2.2.1,(mn b.2.2.2.2.1 c.2.2.2.2.1,(mx b.2.2.2.2.2.1 c.2.2.2.2.2.1,())))))):=by simp only [LI,GU]; rfl
  rw [eh]
  exact congrArg (fun w:Int=>(RQ.next (show (aa aeS).den from (w,((mn b.1 c.1,(mx b.2.1 c.2.1,(mn b.2.2.1 c.2.2.1,(mx b.2.2.2.1 c.2.2.2.1,(mn b.2.2.2.2.1 c.2.2.2.2.1,(mx b.2.2.2.2.2.1 c.2.2.2.2.2.1,())))))),()))):RQ aeS amx)) (dR (n:=all.n) hja (by omega))
 ·unfold apK apJ
  exact aR (decide_eq_false (show ¬ (((l.length + 1:Nat):Int) < ((all.n:Nat):Int)) by omega))
theorem aRV (hs:(cB s).Ok) {all:zR} (hall:fU all=links (cB s)) (hne:links (cB s)≠[]) {t i:Nat} (ht:t < s.1.n) (hi:i < (s.1.g t).2.1.n):M14 (no_index (s,(all,((t:Int),((i:Int),())))))=some (ach (cB s) t i,()):=by
 obtain ⟨L0,l,hl⟩:=List.exists_cons_of_ne_nil hne
 have han:all.n=l.length + 1:=by rw [<- jA,hall,hl]; rfl
 have aq1:(links (cB s))[0]? = some (aW (all.g 0).1):=by rw [<- hall]; exact IQ (by omega)
 have hL:aW (all.g 0).1∈links (cB s):=List.mem_of_getElem? aq1
 rw [hl] at aq1
 have h0:L0=aW (all.g 0).1:=Option.some.inj aq1
 unfold M14 Q14
 refine (aq (decide_eq_true (show (0:Int)<=0/\(0:Int) < ((all.n:Nat):Int) by omega))).trans ?_
 refine (aK (baW hs hL ht hi)).trans ?_
 rw [<- h0]
 exact (bp (ba4 hs hall hl ht hi)).trans rfl
theorem aHd:∀ {l:List LL} {b L:LL},few b (l ++ [L])=if eP L < eP (few b l) then L else few b l
 | [],b,L=>rfl
 | M :: l,b,L=>by rw [List.cons_append,few,aHd,few]
def amO (all:zR):Nat->cT
 | 0=>(all.g 0).1
 | j + 1=>if eP (aW (all.g (j + 1)).1) < eP (aW (amO all j)) then (all.g (j + 1)).1 else amO all j
theorem aDd {all:zR} {L0:LL} {l:List LL} (hl:fU all=L0 :: l):∀ {j:Nat},j < all.n->aW (amO all j)=few L0 (l.take j)
 | 0,h=>by
  have aq1:=IQ h
  rw [hl] at aq1
  exact (Option.some.inj aq1).symm
 | j + 1,h=>by
  have aq1:=IQ h
  rw [hl,List.getElem?_cons_succ] at aq1
  have htk:l.take (j + 1)=l.take j ++ [aW (all.g (j + 1)).1]:=by rw [List.take_add_one,aq1]; rfl
  have ih:=aDd hl (j:=j) (by omega)
  rw [htk,aHd,<- ih,amO]
  split <;> rfl
theorem ba5 (hs:(cB s).Ok) {all:zR} (hall:fU all=links (cB s)) {L0:LL} {l:List LL} (hl:links (cB s)=L0 :: l) :
  aLs (all,((),(s,()))) ((all.g 0).1,((1:Int),())) = .exit 0 (amO all (all.n - 1),()):=by
 have han:all.n=l.length + 1:=by rw [<- jA,hall,hl]; rfl
 have aWW:=aAP hs
 rw [hl,List.length_cons] at aWW
 have aqF:fU all=L0 :: l:=hall.trans hl
 have hin:∀ j,j < all.n->aW (amO all j)∈links (cB s):=fun j hj=>by
  rw [aDd aqF hj]
  rcases ab9 (b:=L0) (l:=l.take j) with e | e
  ·rw [e,hl]; exact .head _
  ·rw [hl]; exact .tail _ (List.mem_of_mem_take e)
 unfold aLs
 refine bQ (ps:=an9) (all.n - 1) cz (fun j=>(amO all j,(((j + 1:Nat):Int),()))) (by unfold cz; omega) (fun j hj=>?_) ?_
 ·have hja:j + 1 < all.n:=by omega
  have aq1:(links (cB s))[j + 1]? = some (aW (all.g (j + 1)).1):=by rw [<- hall]; exact IQ hja
  have hL:aW (all.g (j + 1)).1∈links (cB s):=List.mem_of_getElem? aq1
  obtain ⟨_,_,a3,a4,a5⟩:=acj hs (aia hs hL)
  obtain ⟨_,_,b3,b4,b5⟩:=acj hs (aia hs (hin j (by omega)))
  have w:=dR (n:=all.n) hja (by omega)
  unfold aG8 aG7
  refine (aq (decide_eq_true (dW hja))).trans ?_
  refine (aq (decide_eq_true (aQ hja))).trans ?_
  refine (aK (aw1 a3 a4 a5)).trans ?_
  refine (aK (aw1 b3 b4 b5)).trans ?_
  by_cases c:eP (aW (all.g (j + 1)).1) < eP (aW (amO all j))
  ·refine (aq (decide_eq_true (show ((eP (aW (all.g (j + 1)).1):Nat):Int) < ((eP (aW (amO all j)):Nat):Int) by omega))).trans ?_
   refine (aq (decide_eq_true (aQ hja))).trans ?_
   rw [amO,if_pos c]
   exact congrArg (fun w:Int=>(RQ.next (show (aa an9).den from ((all.g (j + 1)).1,(w,()))):RQ an9 aDc)) w
  ·refine (aR (decide_eq_false (show ¬ (((eP (aW (all.g (j + 1)).1):Nat):Int) < ((eP (aW (amO all j)):Nat):Int)) by omega))).trans ?_
   rw [amO,if_neg c]
   exact congrArg (fun w:Int=>(RQ.next (show (aa an9).den from (amO all j,(w,()))):RQ an9 aDc)) w
 ·unfold aG8 aG7
  exact aR (decide_eq_false (show ¬ (((all.n - 1 + 1:Nat):Int) < ((all.n:Nat):Int)) by omega))
theorem ba6 (hs:(cB s).Ok) {all:zR} (hall:fU all=links (cB s)) (hne:links (cB s)≠[]):∃ rows:cT,qf (no_index (s,(all,())))=some (((((s.1.g 0).2.1.n + eP (aW rows):Nat)):Int),(rows,()))/\aW rows=afQ (links (cB s)):=by
 obtain ⟨L0,l,hl⟩:=List.exists_cons_of_ne_nil hne
 have han:all.n=l.length + 1:=by rw [<- jA,hall,hl]; rfl
 have xU:0 < s.1.n:=hs.n1
 have e:aW (amO all (all.n - 1))=afQ (links (cB s)):=by
  rw [aDd (hall.trans hl) (by omega),hl,han]
  show few L0 (l.take l.length)=few L0 l
  rw [List.take_length]
 have hL:aW (amO all (all.n - 1))∈links (cB s):=by rw [e]; exact abZ hne
 obtain ⟨q1,_,a3,a4,a5⟩:=acj hs (aia hs hL)
 have Ml:=dN hs xU
 have w:W ((((s.1.g 0).2.1.n:Nat):Int) + ((eP (aW (amO all (all.n - 1))):Nat):Int))=(((s.1.g 0).2.1.n + eP (aW (amO all (all.n - 1))):Nat):Int):=by rw [gQ ⟨by omega,by omega⟩]; omega
 refine ⟨amO all (all.n - 1),?_,e⟩
 unfold qf Q17
 refine (aq (decide_eq_true (show (0:Int)<=0/\(0:Int) < ((all.n:Nat):Int) by omega))).trans ?_
 refine (bp (ba5 hs hall hl)).trans ?_
 refine (aq (decide_eq_true (show (0:Int)<=0/\(0:Int) < ((s.1.n:Nat):Int) by omega))).trans ?_
 refine (aK (aw1 a3 a4 a5)).trans ?_
 exact congrArg (fun w:Int=>some ((show (nQ).den from (w,(amO all (all.n - 1),()))))) w
theorem aAB (hs:(cB s).Ok) {b:B6} (hb:vL b) {h:Int} (h0:0<=h) (h1:h<=200):M19 (no_index (s,(b,(h,()))))=some (ain (wide (cB s) b h),()):=by
 have q1:0<=pN s/\pN s<=50:=hs.sp
 have q2:0<=zn s/\zn s<=1000:=hs.dp
 obtain ⟨a0,a1,a2⟩:=MG (p:=pN s) (h:=h) ⟨q1.1,by omega⟩ ⟨h0,h1⟩
 obtain ⟨b0,b1,b2⟩:=MG (p:=zn s) (h:=h) q2 ⟨h0,h1⟩
 have i0:=hb 0 (by omega)
 have i1:=hb 1 (by omega)
 have i2:=hb 2 (by omega)
 unfold M19 Q19
 refine (aK (aio _ _ _)).trans ?_
 refine (aK (aio _ _ _)).trans ?_
 refine (aK (aio _ _ _)).trans ?_
 rw [aoq]
 show some ((mx 0 (W (lo b 0 - W (pN s * h))),(mn 100 (W (Low.hi b 0 + W (pN s * h))),(mx 0 (W (lo b 1 - W (pN s * h))),(mn 100 (W (Low.hi b 1 + W (pN s * h))),(mx 0 (W (lo b 2 - W (zn s * h))),(mn 99999 (W (Low.hi b 2 + W (zn s * h))),())))))),())=_
 rw [a0,b0,acf ⟨i0.1,i0.2.1⟩ ⟨a1,a2⟩,akd i0.2.2 ⟨a1,a2⟩,acf ⟨i1.1,i1.2.1⟩ ⟨a1,a2⟩,akd i1.2.2 ⟨a1,a2⟩,acf ⟨i2.1,i2.2.1⟩ ⟨b1,b2⟩,akd i2.2.2 ⟨b1,b2⟩]
 rfl
end Go.Dm
namespace Go.Dm
set_option maxRecDepth 100000
open Go.Low
variable {s:tS.den}
theorem ba7 (b:B6):((decide (b.1=b.1)) && ((decide (b.2.1=b.2.1)) && ((decide (b.2.2.1=b.2.2.1)) && ((decide (b.2.2.2.1=b.2.2.2.1)) && ((decide (b.2.2.2.2.1=b.2.2.2.2.1)) && ((decide (b.2.2.2.2.2.1=b.2.2.2.2.2.1)) && true))))))=true:=by simp
theorem ax6 {b:Bool} (h:Jc s b=0):Io s=true/\b=true/\Dg s=true:=by
 unfold Jc at h
 cases ho:Io s with
 | false=>rw [ho] at h; cases h
 | true =>
  rw [ho] at h
  cases b with
  | false=>cases h
  | true =>
   cases ha:Dg s with
   | false=>rw [ha] at h; cases h
   | true=>exact ⟨rfl,rfl,rfl⟩
theorem aLA (hn:s.1.n<=1000) (hk:∀ t,t < s.1.n->(s.1.g t).2.1.n<=1000) (i h:Int) (e:Jc s (lowB s (W (((s.1.n:Nat):Int) - 1)) i && oV h 0 200)≠0) :
  M15 (no_index (s,(i,(h,()))))=some (b0,(Jc s (lowB s (W (((s.1.n:Nat):Int) - 1)) i && oV h 0 200),())):=by
 unfold M15 Q15
 refine (aK (aJh hn _ _)).trans ?_
 cases hl:lowB s (W (((s.1.n:Nat):Int) - 1)) i with
 | false =>
  rw [hl,Bool.false_and] at e
  refine (aR rfl).trans ?_
  refine (aK (auJ hn hk _)).trans ?_
  exact aq (show (!(decide (Jc s false=0)))=true by rw [decide_eq_false e]; rfl)
 | true =>
  rw [hl,Bool.true_and] at e
  refine (aq rfl).trans ?_
  refine (aK (aI0 _ _ _)).trans ?_
  refine (aK (auJ hn hk _)).trans ?_
  exact aq (show (!(decide (Jc s (oV h 0 200)=0)))=true by rw [decide_eq_false e]; rfl)
theorem aKI (s:tS.den) (one h:Int):M4 (s,(one,(h,())))=some (true,()):=by
 unfold M4 Q4
 obtain ⟨b,h1,h2⟩:=baM (s:=s)
 refine (aK h1).trans ?_
 cases b with
 | false=>exact (aq rfl).trans (aK eZ)
 | true =>
 refine (aR rfl).trans ?_
 obtain ⟨hn,hk⟩:=h2 rfl
 have hn':s.1.n<=1000:=by omega
 have hk':∀ t,t < s.1.n->(s.1.g t).2.1.n<=1000:=fun t ht=>by have:=hk t ht; omega
 have bad:∀ {k:Int},k≠0->(!(decide (k=0)))=true:=fun h=>by rw [decide_eq_false h]; rfl
 by_cases ea:Jc s true=0
 ·obtain ⟨ho,_,ha⟩:=ax6 ea
  have hs:=qP ho
  have WM:=eF hs
  have xU:0 < s.1.n:=hs.n1
  have hwn:=wn1 hs
  have e2':Jc s false=2:=by unfold Jc; rw [Bool.and_false]; rfl
  obtain ⟨rows,m16,r1⟩:=aau ho ha
  obtain ⟨all,m11,hall⟩:=aNj hs
  have hne:links (cB s)≠[]:=by
   obtain ⟨L,hL⟩:=Ki.1 ha
   exact List.ne_nil_of_mem hL
  obtain ⟨aLS,m17,r2⟩:=ba6 hs hall hne
  have hL:aW rows∈links (cB s):=by rw [r1]; exact abZ hne
  obtain ⟨_,_,_,r4,r5⟩:=acj hs (aia hs hL)
  have m12:=aRP (a:=rows) (b:=aLS) (by omega) (fun i hi=>by have:=r5 i hi; omega) (r1.trans r2.symm)
  rw [r2,<- r1] at m17
  by_cases e:Jc s (lowB s (W (((s.1.n:Nat):Int) - 1)) one && oV h 0 200)=0
  ·obtain ⟨_,hlh,_⟩:=ax6 e
   rw [Bool.and_eq_true] at hlh
   obtain ⟨hl,hh⟩:=hlh
   obtain ⟨q0,q1⟩:=au7 hh
   have hl2:=hl
   rw [hwn] at hl2
   obtain ⟨t,i,ht',rfl,ht,hi⟩:=lowB_ex hn' hk' hl2
   obtain rfl:t=s.1.n - 1:=by omega
   have m15:=baT ho ha hi q0 q1
   have m14:=aRV hs hall hne ht hi
   rw [<- hwn] at m14
   refine (aK m15).trans ?_
   refine (aK m16).trans ?_
   refine (aK (aEP hn' hk' _)).trans ?_
   refine (aR (nb ea)).trans ?_
   refine (aK m11).trans ?_
   refine (aK m17).trans ?_
   refine (aR rfl).trans ?_
   refine (aR (nb rfl)).trans ?_
   refine (aK m12).trans ?_
   refine (aR rfl).trans ?_
   refine (aK (aHb hn' _ _)).trans ?_
   refine (aq hl).trans ?_
   refine (aK (aFx h)).trans ?_
   rw [hh]
   refine (aK (aEP hn' hk' _)).trans ?_
   refine (aR (nb ea)).trans ?_
   refine (aq rfl).trans ?_
   refine (aK m11).trans ?_
   refine (aK m14).trans ?_
   refine (aK (aAB hs (adA hs ha ht hi) q0 q1)).trans ?_
   refine (aq (ba7 _)).trans ?_
   exact aK eZ
  ·refine (aK (aLA hn' hk' one h e)).trans ?_
   refine (aK m16).trans ?_
   refine (aK (aEP hn' hk' _)).trans ?_
   refine (aR (nb ea)).trans ?_
   refine (aK m11).trans ?_
   refine (aK m17).trans ?_
   refine (aR rfl).trans ?_
   refine (aR (nb rfl)).trans ?_
   refine (aK m12).trans ?_
   refine (aR rfl).trans ?_
   refine (aK (aHb hn' _ _)).trans ?_
   cases hl:lowB s (W (((s.1.n:Nat):Int) - 1)) one with
   | true =>
    rw [hl,Bool.true_and] at e
    refine (aq rfl).trans ?_
    refine (aK (aFx h)).trans ?_
    refine (aK (aEP hn' hk' _)).trans ?_
    refine (aq (bad e)).trans ?_
    refine (aq (decide_eq_true rfl)).trans ?_
    refine (aq rfl).trans ?_
    exact aK eZ
   | false =>
    rw [hl,Bool.false_and] at e
    refine (aR rfl).trans ?_
    refine (aK (aEP hn' hk' _)).trans ?_
    refine (aq (bad e)).trans ?_
    refine (aq (decide_eq_true rfl)).trans ?_
    refine (aq rfl).trans ?_
    exact aK eZ
 ·have e:Jc s (lowB s (W (((s.1.n:Nat):Int) - 1)) one && oV h 0 200)≠0:=fun q=>by
   obtain ⟨ho,_,ha⟩:=ax6 q
   exact ea (by unfold Jc; rw [ho,ha]; rfl)
  refine (aK (aLA hn' hk' one h e)).trans ?_
  refine (aK (aPI hn' hk' ea)).trans ?_
  refine (aK (aEP hn' hk' _)).trans ?_
  refine (aq (bad ea)).trans ?_
  refine (aR (nb rfl)).trans ?_
  refine (aR rfl).trans ?_
  refine (aR rfl).trans ?_
  refine (aK (aHb hn' _ _)).trans ?_
  cases hl:lowB s (W (((s.1.n:Nat):Int) - 1)) one with
  | true =>
   rw [hl,Bool.true_and] at e
   refine (aq rfl).trans ?_
   refine (aK (aFx h)).trans ?_
   refine (aK (aEP hn' hk' _)).trans ?_
   refine (aq (bad e)).trans ?_
   refine (aq (decide_eq_true rfl)).trans ?_
   refine (aq rfl).trans ?_
   exact aK eZ
  | false =>
   rw [hl,Bool.false_and] at e
   refine (aR rfl).trans ?_
   refine (aK (aEP hn' hk' _)).trans ?_
   refine (aq (bad e)).trans ?_
   refine (aq (decide_eq_true rfl)).trans ?_
   refine (aq rfl).trans ?_
   exact aK eZ
theorem aVj (x:(a4).den):M4 x=some (true,()):=by
 obtain ⟨s,one,h,⟨⟩⟩:=x
 exact aKI s one h
end Go.Dm

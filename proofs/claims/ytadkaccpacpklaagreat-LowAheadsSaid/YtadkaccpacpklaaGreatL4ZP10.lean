/-
 Of the plain law.
-/
import Derived.Test.YtadkaccpacpklaaGreatL4ZP7
set_option linter.unusedVariables false
set_option linter.unusedSimpArgs false
namespace Go.Dm
set_option maxRecDepth 100000
open Go.Low
variable {s:tS.den}
theorem ba8 {al ah bl bh w:Int} (h1:0<=al/\al<=99999) (h2:0<=ah/\ah<=99999) (h3:0<=bl/\bl<=99999) (h4:0<=bh/\bh<=99999) :
  M98 (no_index ((al,(ah,())),((bl,(bh,())),(w,()))))=some (!(decide (al - bh<=w) && decide (bl - ah<=w)),()):=by
 show (bif decide (w < W (al - bh)) then some (true,()) else some (decide (w < W (bl - ah)),()))=_
 rw [gQ (n:=al - bh) ⟨by omega,by omega⟩,gQ (n:=bl - ah) ⟨by omega,by omega⟩]
 by_cases c1:w < al - bh
 ·have d1:¬ (al - bh<=w):=by omega
  rw [decide_eq_true c1,decide_eq_false d1]; rfl
 ·have d1:al - bh<=w:=by omega
  rw [decide_eq_false c1,decide_eq_true d1]
  by_cases c2:w < bl - ah
  ·have d2:¬ (bl - ah<=w):=by omega
   rw [decide_eq_true c2,decide_eq_false d2]; rfl
  ·have d2:bl - ah<=w:=by omega
   rw [decide_eq_false c2,decide_eq_true d2]; rfl
def ax (s:PS) (p q:Nat×Nat) (a:Nat):Bool:=decide (lo (s.box p.1 p.2) a - hi (s.box q.1 q.2) a<=dV s a * (s.tm p.1 - s.tm q.1)) && decide (lo (s.box q.1 q.2) a - hi (s.box p.1 p.2) a<=dV s a * (s.tm p.1 - s.tm q.1))
theorem anj (s:PS) (p q:Nat×Nat):Ba s p q=(ax s p q 0 && (ax s p q 1 && (ax s p q 2 && true))):=rfl
theorem aiR (hs:(cB s).Ok) {t i u j:Nat} (ht:t < s.1.n) (hi':i < (s.1.g t).2.1.n) (hu:u<=t) (hj:j < (s.1.g u).2.1.n) :
  Yx (no_index (s,((t:Int),((i:Int),((u:Int),((j:Int),()))))))=some (Ba (cB s) (t,i) (u,j),()):=by
 unfold Yx Q77
 have Pt:u < s.1.n:=by omega
 have q1:0<=pN s/\pN s<=50:=hs.sp
 have q2:0<=zn s/\zn s<=1000:=hs.dp
 have h1:0<=mT s t/\mT s t<=200:=hs.Xp t ht
 have h2:0<=mT s u/\mT s u<=200:=hs.Xp u Pt
 have h3:mT s u<=mT s t:=hs.afG hu ht
 have hm:mx (W (mT s t - mT s u)) (W (mT s u - mT s t))=mT s t - mT s u:=by
  rw [GU,gQ (n:=mT s t - mT s u) ⟨by omega,by omega⟩,gQ (n:=mT s u - mT s t) ⟨by omega,by omega⟩]; omega
 have hW0:W (pN s * mx (W (mT s t - mT s u)) (W (mT s u - mT s t)))=pN s * (mT s t - mT s u):=by rw [hm]; exact (MG ⟨q1.1,by omega⟩ ⟨by omega,by omega⟩).1
 have hW2:W (zn s * mx (W (mT s t - mT s u)) (W (mT s u - mT s t)))=zn s * (mT s t - mT s u):=by rw [hm]; exact (MG q2 ⟨by omega,by omega⟩).1
 have hp:=lE hs ht hi'
 have hq:=lE hs Pt hj
 have f:∀ (a:Nat) (w:Int),a < 3->w=dV (cB s) a * (mT s t - mT s u)->M98 ((lo ((s.1.g t).2.1.g i) a,(hi ((s.1.g t).2.1.g i) a,())),((lo ((s.1.g u).2.1.g j) a,(hi ((s.1.g u).2.1.g j) a,())),(w,())))=some (!(ax (cB s) (t,i) (u,j) a),()):=fun a w ha hw=>by
  subst hw
  have p1:=hp a ha
  have p2:=hq a ha
  exact ba8 ⟨p1.1,p1.2.1⟩ p1.2.2 ⟨p2.1,p2.2.1⟩ p2.2.2
 rw [anj]
 refine (aq (decide_eq_true (aQ ht))).trans ?_
 refine (aq (decide_eq_true (aQ hi'))).trans ?_
 refine (aq (decide_eq_true (aQ Pt))).trans ?_
 refine (aq (decide_eq_true (aQ hj))).trans ?_
 refine (aq (decide_eq_true (aQ ht))).trans ?_
 refine (aq (decide_eq_true (aQ Pt))).trans ?_
 refine (aq (decide_eq_true (aQ Pt))).trans ?_
 refine (aq (decide_eq_true (aQ ht))).trans ?_
 refine (aK (f 0 _ (by omega) hW0)).trans ?_
 cases ax (cB s) (t,i) (u,j) 0 with
 | false=>rfl
 | true =>
  refine (aq rfl).trans ?_
  refine (aK (f 1 _ (by omega) hW0)).trans ?_
  cases ax (cB s) (t,i) (u,j) 1 with
  | false=>rfl
  | true =>
   refine (aq rfl).trans ?_
   refine (aK (f 2 _ (by omega) hW2)).trans ?_
   cases ax (cB s) (t,i) (u,j) 2 <;> rfl
structure Pre (s:tS.den) (L:LL):Prop where
 sh:Shape s L []
 first:L.getD 0 []=first (cB s)
theorem OO {o:cT} {t i:Nat} (ht:t < o.n) (hi':i < (o.g t).1.n):qR (aW o) t i=(show Int from ((o.g t).1.g i).1):=by
 unfold qR
 rw [kH ht,List.getD_eq_getElem?_getD,gR,if_pos hi']; rfl
theorem aL5 (hs:(cB s).Ok) {o:cT} (hP:Pre s (aW o)) {t i:Nat} (ht:t < o.n) (hi':i < (s.1.g t).2.1.n) :
  ∀ (u j n:Nat),u<=t->j < (s.1.g u).2.1.n->u < n->aH (aoa (o,((),((t:Int),((i:Int),(s,())))))) n ((u:Int),((j:Int),()))=bif (uT (aW o) u j).tail.all (fun p=>Ba (cB s) (t,i) p) then .exit 2 () else LQ.ret (wy:=aoc) (show (aa aoc.ret).den from (false,())):=by
 have hon:o.n<=s.1.n:=by have:=hP.sh.le; rwa [dI] at this
 have WM:=eF hs
 have hlen:∀ t,t < o.n->(o.g t).1.n=(s.1.g t).2.1.n:=fun t ht=>by
  have:=hP.sh.len t (by rw [dI]; exact ht)
  rw [kH ht,iN] at this
  exact this
 intro u
 induction u with
 | zero =>
  intro j n hu hj hn
  obtain ⟨n,rfl⟩:∃ m,n=m + 1:=⟨n - 1,by omega⟩
  have hj':j < (o.g 0).1.n:=by rw [hlen 0 (by omega)]; exact hj
  have h0:(show Int from ((o.g 0).1.g j).1) = -1:=by
   rw [<- OO (by omega) hj']
   unfold qR
   rw [hP.first]
   simp only [first,List.getD_eq_getElem?_getD,List.getElem?_replicate]
   rw [if_pos (show j < (cB s).k 0 from hj)]; rfl
  have hneg:¬ ((0:Int)<=(show Int from ((o.g 0).1.g j).1)):=by rw [h0]; omega
  have:aoa (o,((),((t:Int),((i:Int),(s,()))))) (((0:Nat):Int),((j:Int),())) = .out (.exit 2 ()):=by
   unfold aoa axY
   refine (aq (decide_eq_true (aQ (j:=0) (n:=o.n) (by omega)))).trans ?_
   refine (aq (decide_eq_true (aQ hj'))).trans ?_
   exact aR (decide_eq_false hneg)
  simp only [aH,this]
  rfl
 | succ u ih =>
  intro j n hu hj hn
  obtain ⟨n,rfl⟩:∃ m,n=m + 1:=⟨n - 1,by omega⟩
  have Qo:u + 1 < o.n:=by omega
  have hj':j < (o.g (u + 1)).1.n:=by rw [hlen (u + 1) Qo]; exact hj
  have hl:=OO Qo hj'
  simp only [uT,List.tail_cons]
  rw [hl]
  by_cases hneg:(0:Int)<=(show Int from ((o.g (u + 1)).1.g j).1)
  ·rw [if_pos hneg]
   obtain ⟨q,hq⟩:∃ q:Nat,(show Int from ((o.g (u + 1)).1.g j).1)=(q:Int):=⟨(show Int from ((o.g (u + 1)).1.g j).1).toNat,by omega⟩
   have hqk:q < (s.1.g u).2.1.n:=by
    have hv:=hP.sh.val u j (q:Int) (by rw [dI]; exact Qo) (by rw [kH Qo,gR,if_pos hj']; exact congrArg some hq)
    rcases hv with hv | hv
    ·omega
    ·simpa using hv.2
   rw [hq,show Int.toNat (q:Int)=q from rfl,aas (aW o) u q,List.all_cons]
   have w1:W (((u + 1:Nat):Int) - 1)=(u:Int):=wo (n:=u + 2) (by omega) (by omega)
   have hM:=aiR hs (t:=t) (i:=i) (u:=u) (j:=q) (by omega) hi' (by omega) hqk
   have step:aoa (o,((),((t:Int),((i:Int),(s,()))))) (((u + 1:Nat):Int),((j:Int),()))=bif Ba (cB s) (t,i) (u,q) then .next ((u:Int),((q:Int),())) else .out (LQ.ret (wy:=aoc) (show (aa aoc.ret).den from (false,()))):=by
    have hM':Yx (s,((t:Int),((i:Int),(W (((u + 1:Nat):Int) - 1),(o.g (u + 1)).1.g j))))=some (Ba (cB s) (t,i) (u,q),()):=by
     rw [w1]
     have:(o.g (u + 1)).1.g j=((q:Int),()):=Prod.ext hq rfl
     rw [this]; exact hM
    unfold aoa axY
    refine (aq (decide_eq_true (aQ Qo))).trans ?_
    refine (aq (decide_eq_true (aQ hj'))).trans ?_
    refine (aq (decide_eq_true hneg)).trans ?_
    refine (aq (decide_eq_true (aQ Qo))).trans ?_
    refine (aq (decide_eq_true (aQ hj'))).trans ?_
    refine (aK hM').trans ?_
    cases Ba (cB s) (t,i) (u,q) with
    | false=>rfl
    | true =>
     have:(o.g (u + 1)).1.g j=((q:Int),()):=Prod.ext hq rfl
     show RQ.next (show (aa amo).den from (W (((u + 1:Nat):Int) - 1),(o.g (u + 1)).1.g j))=_
     rw [this,w1]; rfl
   simp only [aH,step]
   cases Ba (cB s) (t,i) (u,q) with
   | false=>rfl
   | true =>
    have:=ih q n (by omega) hqk (by omega)
    rw [cond_true,Bool.true_and]
    exact this
  ·rw [if_neg hneg]
   have:aoa (o,((),((t:Int),((i:Int),(s,()))))) (((u + 1:Nat):Int),((j:Int),())) = .out (.exit 2 ()):=by
    unfold aoa axY
    refine (aq (decide_eq_true (aQ Qo))).trans ?_
    refine (aq (decide_eq_true (aQ hj'))).trans ?_
    exact aR (decide_eq_false hneg)
   simp only [aH,this]
   rfl
theorem ba9 (hs:(cB s).Ok) {o:cT} (hP:Pre s (aW o)):PU (no_index (s,(o,())))=some (chB (cB s) (aW o),()):=by
 have hpos:0 < o.n:=by have:=hP.sh.pos; rwa [dI] at this
 have hon:o.n<=s.1.n:=by have:=hP.sh.le; rwa [dI] at this
 have WM:=eF hs
 obtain ⟨t,ht⟩:∃ t,o.n=t + 1:=⟨o.n - 1,by omega⟩
 have hto:t < o.n:=by omega
 have hlen:(o.g t).1.n=(s.1.g t).2.1.n:=by
  have:=hP.sh.len t (by rw [dI]; exact hto)
  rw [kH hto,iN] at this
  exact this
 have hk:=dN hs (t:=t) (by omega)
 have w1:W ((o.n:Int) - 1)=(t:Int):=by rw [gQ ⟨by omega,by omega⟩]; omega
 have key:aEZ (o,((),((t:Int),(s,())))) ((0:Int),())=bif (List.range (s.1.g t).2.1.n).all (fun i=>(uT (aW o) t i).tail.all fun p=>Ba (cB s) (t,i) p) then .exit 0 () else LQ.ret (wy:=au5) (show (aa au5.ret).den from (false,())):=by
  unfold aEZ
  refine dX (ps:=as9) (n:=(s.1.g t).2.1.n) (f:=fun j=>((j:Int),())) (c:=fun i=>(uT (aW o) t i).tail.all fun p=>Ba (cB s) (t,i) p) (by unfold cz; omega) (fun j hj _=>?_) (fun _=>?_)
  ·unfold aGZ aGY
   have hj':j < (o.g t).1.n:=by rw [hlen]; exact hj
   refine (aq (decide_eq_true (aQ hto))).trans ?_
   refine (aq (decide_eq_true (dW hj'))).trans ?_
   have hc:=aL5 hs hP hto hj t j cz (Nat.le_refl _) hj (by unfold cz; omega)
   have hc:aBi (o,((),((t:Int),((j:Int),(s,()))))) ((t:Int),((j:Int),()))=_:=hc
   revert hc
   cases (uT (aW o) t j).tail.all (fun p=>Ba (cB s) (t,j) p) with
   | true =>
    intro hc
    refine (bp hc).trans ?_
    exact congrArg (fun q:Int=>(RQ.next (show (aa as9).den from (q,())):RQ as9 au5)) (dR hj (by omega))
   | false =>
    intro hc
    refine (congrArg (fun o=>aF o 2 _ (bS o _ _)) hc).trans ?_
    rfl
  ·unfold aGZ aGY
   refine (aq (decide_eq_true (aQ hto))).trans ?_
   have:¬ (((s.1.g t).2.1.n:Int) < ((o.g t).1.n:Int)):=by omega
   exact aR (decide_eq_false this)
 unfold PU Q44
 have hch:chB (cB s) (aW o)=(List.range (s.1.g t).2.1.n).all (fun i=>(uT (aW o) t i).tail.all fun p=>Ba (cB s) (t,i) p):=by
  unfold chB
  rw [dI,ht,Nat.add_sub_cancel,kH hto,iN,hlen]
 have key':aEZ (o,((),(W ((o.n:Int) - 1),(s,())))) ((0:Int),())=bif (List.range (s.1.g t).2.1.n).all (fun i=>(uT (aW o) t i).tail.all fun p=>Ba (cB s) (t,i) p) then .exit 0 () else LQ.ret (wy:=au5) (show (aa au5.ret).den from (false,())):=by rw [w1]; exact key
 rw [hch]
 revert key'
 cases (List.range (s.1.g t).2.1.n).all (fun i=>(uT (aW o) t i).tail.all fun p=>Ba (cB s) (t,i) p) with
 | true=>intro h; exact bp h
 | false=>intro h; refine (congrArg (fun o=>aF o 0 _ (bS o _ _)) h).trans ?_; rfl
end Go.Dm
namespace Go.Dm
set_option maxRecDepth 100000
open Go.Low
variable {s:tS.den}
abbrev zR:=Sl (Ty.den (.cons (.sl (.cons (.sl sR) .nil)) .nil))
def fU (o:zR):List LL:=(List.range o.n).map fun t=>aW (o.g t).1
theorem jA (o:zR):(fU o).length=o.n:=by simp [fU]
theorem IQ {o:zR} {i:Nat} (h:i < o.n):(fU o)[i]? = some (aW (o.g i).1):=by
 unfold fU
 rw [List.getElem?_map,List.getElem?_range h]; rfl
theorem Wu (o:zR) (y:cT):fU (snoc o (y,()))=fU o ++ [aW y]:=by
 unfold fU
 rw [IP,List.range_succ,List.map_append]
 congr 1
 ·exact List.map_congr_left fun i hi=>by rw [Ik (List.mem_range.1 hi)]
 ·simp only [List.map_cons,List.map_nil]
  rw [Il]
theorem Ks (o:cT) (y:Ty.den (.cons (.sl sR) .nil)):aW (snoc o y)=aW o ++ [aV y.1]:=FY o y.1
def BQ (s:PS) (L:LL) (r:List Int):List LL:=if okB s (L ++ [r]) then [L ++ [r]] else []
theorem Sb {p:PS} {L:LL} {r:List Int}:(BQ p L r).length<=1:=by
 unfold BQ
 split <;> simp
theorem JU (p:PS):∀ (m:Nat) (out:List LL),GS p (m + 1) out=(GS p m out).flatMap (xF p)
 | 0,out=>rfl
 | m + 1,out=>by rw [GS,JU p m]; rfl
theorem Sc {before m:Nat} (hb:before<=3) (hm:m<=3):(gV before m []).length<=64:=by
 have h1:=Ip hb m
 have h2:Ij before m [[]]=gV before m []:=by rw [ME]; simp
 have h4:4 ^ m<=4 ^ 3:=Nat.pow_le_pow_right (by omega) hm
 rw [h2] at h1
 omega
theorem Pre.row {L:LL} {r:List Int} (h:Pre s L) (hlt:L.length < s.1.n) (hr:r∈gV (s.1.g (L.length - 1)).2.1.n (s.1.g L.length).2.1.n []):Pre s (L ++ [r]):=by
 have hrow:=NZ.1 hr
 have hpos:=h.sh.pos
 have hsh:Shape s L r:=⟨h.sh.pos,h.sh.le,h.sh.len,h.sh.val,fun _=>by rw [hrow.1]; exact Nat.le_refl _,fun e=>by omega,fun i x hx=>by
  rcases hrow.2 i x hx with q | q
  ·exact .inl q
  ·exact .inr ⟨q.1,q.2.1⟩⟩
 refine ⟨hsh.row hlt hrow.1,?_⟩
 rw [ku hpos]; exact h.first
theorem aW0 (hs:(cB s).Ok) {out:zR} {AL:cT} {t i:Nat} {c5:Int} (hi:i < out.n) (ahc:aW AL=gV (s.1.g (t - 1)).2.1.n (s.1.g t).2.1.n []) (hP:Pre s (aW (out.g i).1)) (hlen:(aW (out.g i).1).length=t) (hlt:t < s.1.n)
    (WN:zR) (hn0:WN.n<=1000000) :
    ∃ nx:zR,auG ((),(out,(c5,(AL,((i:Int),(s,())))))) (WN,((0:Int),())) = .exit 4 (nx,())/\fU nx=fU WN ++ xF (cB s) (aW (out.g i).1):=by
  have WM:=eF hs
  have bqU:AL.n<=64:=by
    have:=congrArg List.length ahc
    rw [dI] at this
    have h2:=Sc (before:=(s.1.g (t - 1)).2.1.n) (m:=(s.1.g t).2.1.n) (dN hs (by omega)) (dN hs hlt)
    omega
  have RI:(out.g i).1.n=t:=by rw [<- dI]; exact hlen
  have aDq:(out.g i).1.n * 24<=140737488355328:=by omega
  have bgD:((out.g i).1.n + 1) * 24<=140737488355328:=by omega
  have hst:xF (cB s) (aW (out.g i).1)=(aW AL).flatMap (BQ (cB s) (aW (out.g i).1)):=by
    unfold xF
    rw [ahc,hlen]; rfl
  unfold auG
  obtain ⟨v,⟨nx,hv,h1⟩,h2⟩:=jq (step:=an4 ((),(out,(c5,(AL,((i:Int),(s,()))))))) (N:=cz)
    (P:=fun j v=>∃ nx:zR,v=(nx,((j:Int),()))/\fU nx=fU WN ++ ((aW AL).take j).flatMap (BQ (cB s) (aW (out.g i).1)))
    (q:=fun v=>.exit 4 (v.1,())) AL.n (by unfold cz; omega) (fun j v hj hp=>by
      obtain ⟨nx,rfl,h1⟩:=hp
      have hnx:nx.n<=1000064:=by
        have:=congrArg List.length h1
        rw [List.length_append,jA,jA] at this
        have h3:=uU (l:=(aW AL).take j) (f:=BQ (cB s) (aW (out.g i).1)) (k:=1) fun a _=>Sb
        rw [List.length_take,dI] at h3
        omega
      have aW1:(nx.n + 1) * 24<=140737488355328:=by omega
      have hmem:aV (AL.g j).1∈gV (s.1.g (t - 1)).2.1.n (s.1.g t).2.1.n []:=by rw [<- ahc]; exact List.mem_of_getElem? (tW hj)
      have hPn:Pre s (aW (snoc (out.g i).1 (AL.g j))):=by
        rw [Ks]
        exact hP.row (by omega) (by rw [hlen]; exact hmem)
      have hnn:(snoc (out.g i).1 (AL.g j)).n=t + 1:=by rw [IP,RI]
      have hkk:∀ u,u < (snoc (out.g i).1 (AL.g j)).n->((snoc (out.g i).1 (AL.g j)).g u).1.n<=3:=fun u hu=>by
        have:=hPn.sh.len u (by rw [dI]; exact hu)
        rw [kH hu,iN] at this
        rw [this]
        exact dN hs (by omega)
      have m42:=aw1 (o:=snoc (out.g i).1 (AL.g j)) (by omega) (by omega) hkk
      have m43:=aBv (o:=snoc (out.g i).1 (AL.g j)) (by omega) (by omega) hkk
      have m44:=ba9 hs hPn
      have w1:W ((j:Int) + 1)=((j + 1:Nat):Int):=dR hj (by omega)
      have GZ:((aW AL).take (j + 1)).flatMap (BQ (cB s) (aW (out.g i).1))=((aW AL).take j).flatMap (BQ (cB s) (aW (out.g i).1)) ++ BQ (cB s) (aW (out.g i).1) (aV (AL.g j).1):=by
        rw [gu hj,List.flatMap_append]; simp
      have hF:BQ (cB s) (aW (out.g i).1) (aV (AL.g j).1)=if okB (cB s) (aW (snoc (out.g i).1 (AL.g j))) then [aW (snoc (out.g i).1 (AL.g j))] else []:=by
        rw [Ks]; rfl
      have key:an4 ((),(out,(c5,(AL,((i:Int),(s,())))))) (nx,((j:Int),())) = .next (bif okB (cB s) (aW (snoc (out.g i).1 (AL.g j))) then snoc nx (snoc (out.g i).1 (AL.g j),()) else nx,(((j + 1:Nat):Int),())):=by
        unfold an4 auD
        refine (aq (decide_eq_true (dW hj))).trans ?_
        refine (aq (decide_eq_true (aQ hi))).trans ?_
        refine (aq (decide_eq_true aDq)).trans ?_
        refine (aq (decide_eq_true (aQ hj))).trans ?_
        refine (aq (decide_eq_true bgD)).trans ?_
        refine (aK m42).trans ?_
        have Ew:∀ z:zR,(RQ.next (show (aa iY).den from (z,(W ((j:Int) + 1),()))):RQ iY at4) = .next (z,(((j + 1:Nat):Int),())):=fun z=>by rw [w1]
        unfold okB
        by_cases c1:((eP (aW (snoc (out.g i).1 (AL.g j))):Nat):Int)<=(cB s).born
        · refine (aq (decide_eq_true c1)).trans ?_
          refine (aK m43).trans ?_
          by_cases c2:((fc (aW (snoc (out.g i).1 (AL.g j))):Nat):Int)<=(cB s).gone
          · refine (aq (decide_eq_true c2)).trans ?_
            refine (aK m44).trans ?_
            rw [decide_eq_true c1,decide_eq_true c2,Bool.true_and,Bool.true_and]
            cases chB (cB s) (aW (snoc (out.g i).1 (AL.g j))) with
            | true =>
              refine (aq rfl).trans ?_
              refine (aq (decide_eq_true aW1)).trans ?_
              exact Ew _
            | false=>exact Ew _
          · refine (aR (decide_eq_false c2)).trans ?_
            rw [decide_eq_false c2,Bool.and_false,Bool.false_and]
            exact Ew _
        · refine (aR (decide_eq_false c1)).trans ?_
          rw [decide_eq_false c1,Bool.false_and,Bool.false_and]
          exact Ew _
      refine ⟨_,key,_,rfl,?_⟩
      rw [GZ,hF]
      cases okB (cB s) (aW (snoc (out.g i).1 (AL.g j))) with
      | true=>rw [cond_true,if_pos rfl,Wu,h1,List.append_assoc]
      | false=>rw [cond_false,if_neg (by simp),List.append_nil,h1]) (fun v hp=>by
      obtain ⟨nx,rfl,h1⟩:=hp
      unfold an4 auD
      have:¬ ((AL.n:Int) < (AL.n:Int)):=by omega
      exact aR (decide_eq_false this)) (WN,((0:Int),())) ⟨WN,rfl,by simp⟩
  exact ⟨nx,h2.trans (by rw [hv]),by rw [h1,hst,List.take_of_length_le (by rw [dI]; exact Nat.le_refl _)]⟩
theorem Sd (hs:(cB s).Ok) {L:LL} (hL:L.length < s.1.n):(xF (cB s) L).length<=64:=by
 have h1:=uU (l:=gV ((cB s).k (L.length - 1)) ((cB s).k L.length) []) (f:=BQ (cB s) L) (k:=1) fun a _=>Sb
 have h2:=Sc (before:=(cB s).k (L.length - 1)) (m:=(cB s).k L.length) (dN hs (by omega)) (dN hs hL)
 have:xF (cB s) L=(gV ((cB s).k (L.length - 1)) ((cB s).k L.length) []).flatMap (BQ (cB s) L):=rfl
 rw [this]
 omega
theorem aPN (hs:(cB s).Ok) {out:zR} {AL:cT} {t:Nat} (hout:out.n<=4096) (ahc:aW AL=gV (s.1.g (t - 1)).2.1.n (s.1.g t).2.1.n []) (hP:∀ i,i < out.n->Pre s (aW (out.g i).1)/\(aW (out.g i).1).length=t) (hlt:t < s.1.n) :
    ∃ nx:zR,aBo ((),(out,((t:Int),(AL,(s,()))))) ((⟨0,fun i=>((⟨0,fun i=>((⟨0,fun i=>((0:Int),())⟩:Sl _),())⟩:Sl _),())⟩:Sl _),((0:Int),())) = .exit 2 (nx,())/\fU nx=(fU out).flatMap (xF (cB s)):=by
  unfold aBo
  obtain ⟨v,⟨nx,hv,h1⟩,h2⟩:=jq (step:=ax1 ((),(out,((t:Int),(AL,(s,())))))) (N:=cz)
    (P:=fun j v=>∃ nx:zR,v=(nx,((j:Int),()))/\fU nx=((fU out).take j).flatMap (xF (cB s)))
    (q:=fun v=>.exit 2 (v.1,())) out.n (by unfold cz; omega) (fun j v hj hp=>by
      obtain ⟨nx,rfl,h1⟩:=hp
      have hnx:nx.n<=1000000:=by
        have:=congrArg List.length h1
        rw [jA] at this
        have h3:=uU (l:=(fU out).take j) (f:=xF (cB s)) (k:=64) fun a ha=>by
          have ha:=List.mem_of_mem_take ha
          obtain ⟨i,hi',e⟩:=List.mem_map.1 ha
          have hi':=List.mem_range.1 hi'
          rw [<- e]
          exact Sd hs (by rw [(hP i hi').2]; exact hlt)
        rw [List.length_take,jA] at h3
        omega
      obtain ⟨nx',g1,g2⟩:=aW0 hs (c5:=(t:Int)) hj ahc (hP j hj).1 (hP j hj).2 hlt nx hnx
      refine ⟨(nx',(((j + 1:Nat):Int),())),?_,nx',rfl,?_⟩
      · unfold ax1 aBn
        refine (aq (decide_eq_true (dW hj))).trans ?_
        refine (bp g1).trans ?_
        exact congrArg (fun q:Int=>(RQ.next (show (aa acF).den from (nx',(q,()))):RQ acF axm)) (dR hj (by omega))
      · rw [g2,h1,List.take_add_one,IQ hj,List.flatMap_append]
        simp) (fun v hp=>by
      obtain ⟨nx,rfl,h1⟩:=hp
      unfold ax1 aBn
      have:¬ ((out.n:Int) < (out.n:Int)):=by omega
      exact aR (decide_eq_false this)) ((⟨0,fun i=>((⟨0,fun i=>((⟨0,fun i=>((0:Int),())⟩:Sl _),())⟩:Sl _),())⟩:Sl _),((0:Int),())) ⟨_,rfl,rfl⟩
  exact ⟨nx,h2.trans (by rw [hv]),by rw [h1,List.take_of_length_le (by rw [jA]; exact Nat.le_refl _)]⟩
theorem Yo (hs:(cB s).Ok):∀ j,j + 1<=s.1.n->(∀ L∈GS (cB s) j [[first (cB s)]],Pre s L/\L.length=j + 1)/\(GS (cB s) j [[first (cB s)]]).length<=64 ^ j
 | 0,h=>by
  refine ⟨fun L hL=>?_,by simp [GS]⟩
  simp only [GS,List.mem_singleton] at hL
  subst hL
  refine ⟨⟨⟨by simp,by simpa using h,fun t ht=>?_,fun t i x ht=>by simp at ht,fun _=>Nat.zero_le _,fun _=>rfl,fun i x hx=>by simp at hx⟩,rfl⟩,rfl⟩
  have:t=0:=by simp at ht; exact ht
  subst this; simp [first]; rfl
 | j + 1,h=>by
  obtain ⟨h1,h2⟩:=Yo hs j (by omega)
  rw [JU]
  refine ⟨fun L hL=>?_,?_⟩
  ·obtain ⟨L0,hL0,hL⟩:=List.mem_flatMap.1 hL
   obtain ⟨p1,p2⟩:=h1 L0 hL0
   obtain ⟨r,hr,hL⟩:=List.mem_flatMap.1 hL
   split at hL
   ·simp only [List.mem_singleton] at hL
    subst hL
    exact ⟨p1.row (by omega) hr,by simp; omega⟩
   ·simp at hL
  ·have h3:=uU (l:=GS (cB s) j [[first (cB s)]]) (f:=xF (cB s)) (k:=64) fun a ha=>Sd hs (by rw [(h1 a ha).2]; omega)
   rw [Nat.pow_succ]
   omega
theorem aNj (hs:(cB s).Ok):∃ all:zR,M11 (no_index (s,()))=some (all,())/\fU all=links (cB s):=by
  have WM:=eF hs
  have xU:0 < s.1.n:=hs.n1
  obtain ⟨n,hn⟩:∃ n,s.1.n=n + 1:=⟨s.1.n - 1,by omega⟩
  obtain ⟨fr,f1,f2,_⟩:=awZ (k:=(s.1.g 0).2.1.n) (b:=0) (dN hs xU) (by omega)
  have hfr:aW fr=[first (cB s)]:=by rw [f2,Ws]; rfl
  have key:∃ all:zR,aLk ((),(s,())) ((⟨1,fun i=>List.getD [((fr,()):Ty.den (.cons (.sl (.cons (.sl sR) .nil)) .nil))] i (fr,())⟩:zR),((1:Int),())) = .exit 0 (all,())/\fU all=GS (cB s) n [[first (cB s)]]:=by
    unfold aLk
    obtain ⟨v,⟨nx,hv,h1⟩,h2⟩:=jq (step:=aE1 ((),(s,()))) (N:=cz)
      (P:=fun j v=>∃ nx:zR,v=(nx,(((j + 1:Nat):Int),()))/\fU nx=GS (cB s) j [[first (cB s)]])
      (q:=fun v=>.exit 0 (v.1,())) n (by unfold cz; omega) (fun j v hj hp=>by
        obtain ⟨nx,rfl,h1⟩:=hp
        have hj1:j + 1 < s.1.n:=by omega
        obtain ⟨b1,b2⟩:=Yo hs j (by omega)
        have hnx:nx.n<=4096:=by
          have:=congrArg List.length h1
          rw [jA] at this
          have h4:64 ^ j<=64 ^ 2:=Nat.pow_le_pow_right (by omega) (by omega)
          omega
        have hP:∀ i,i < nx.n->Pre s (aW (nx.g i).1)/\(aW (nx.g i).1).length=j + 1:=fun i hi=>b1 _ (by rw [<- h1]; exact List.mem_of_getElem? (IQ hi))
        obtain ⟨AL,c1,c2,_⟩:=awZ (k:=(s.1.g (j + 1)).2.1.n) (b:=(s.1.g j).2.1.n) (dN hs hj1) (dN hs (by omega))
        obtain ⟨nx',g1,g2⟩:=aPN hs (t:=j + 1) hnx c2 hP hj1
        refine ⟨(nx',(((j + 1 + 1:Nat):Int),())),?_,nx',rfl,by rw [g2,h1,JU]⟩
        have w2:=wo (n:=s.1.n) (by omega) hj1
        have e4:∀ {α:Type} (x y:α),(bif decide ((0:Int)<=W (((j + 1:Nat):Int) - 1)/\W (((j + 1:Nat):Int) - 1) < (s.1.n:Int)) then x else y)=x:=fun x y=>by rw [w2]; exact aq (decide_eq_true (aQ (Nat.lt_of_succ_lt hj1)))
        have c1':M41 ((((s.1.g (j + 1)).2.1.n:Nat):Int),((((s.1.g (Int.toNat (W (((j + 1:Nat):Int) - 1)))).2.1.n:Nat):Int),()))=some (AL,()):=by rw [w2]; exact c1
        unfold aE1 aG1
        refine (aq (decide_eq_true (dW hj1))).trans ?_
        refine (aq (decide_eq_true (aQ hj1))).trans ?_
        refine (e4 _ _).trans ?_
        refine (aK c1').trans ?_
        refine (bp g1).trans ?_
        exact congrArg (fun q:Int=>(RQ.next (show (aa auy).den from (nx',(q,()))):RQ auy aEC)) (dR hj1 (by omega))) (fun v hp=>by
        obtain ⟨nx,rfl,h1⟩:=hp
        unfold aE1 aG1
        have:¬ (((n + 1:Nat):Int) < (s.1.n:Int)):=by omega
        exact aR (decide_eq_false this)) ((⟨1,fun i=>List.getD [((fr,()):Ty.den (.cons (.sl (.cons (.sl sR) .nil)) .nil))] i (fr,())⟩:zR),((1:Int),())) ⟨_,rfl,by
          show [aW fr]=[[first (cB s)]]
          rw [hfr]⟩
    exact ⟨nx,h2.trans (by rw [hv]),h1⟩
  obtain ⟨all,h1,h2⟩:=key
  refine ⟨all,?_,?_⟩
  · unfold M11 Q11
    have a0:(0:Int)<=0/\(0:Int) < (s.1.n:Int):=by omega
    refine (aq (decide_eq_true a0)).trans ?_
    refine (aK f1).trans ?_
    exact bp h1
  · rw [h2,Ym]
    simp only [List.flatMap_cons,List.flatMap_nil,List.append_nil]
    unfold links
    rw [show (cB s).N - 1=n by show s.1.n - 1=n; omega]
end Go.Dm
namespace Go.Dm
set_option maxRecDepth 100000
open Go.Low
variable {s:tS.den}
def OD (a b m:Int):Bool:=decide (0<=a) && (decide (a<=b) && decide (b<=m))
def Is (b:B6):Bool:=OD b.1 b.2.1 100 && (OD b.2.2.1 b.2.2.2.1 100 && OD b.2.2.2.2.1 b.2.2.2.2.2.1 99999)
theorem aLK (a b m:Int):M82 (no_index ((a,(b,())),(m,())))=some (OD a b m,()):=by
 show (bif decide (0<=a) then bif decide (a<=b) then some (decide (b<=m),()) else some (false,()) else some (false,()))=_
 unfold OD
 cases decide (0<=a) <;> cases decide (a<=b) <;> rfl
theorem Us (a b m:Int):WW (no_index ((a,(b,())),(m,())))=some (OD a b m,()):=by
 show (bif decide (0<=a) then bif decide (a<=b) then some (decide (b<=m),()) else some (false,()) else some (false,()))=_
 unfold OD
 cases decide (0<=a) <;> cases decide (a<=b) <;> rfl
def oV (x a b:Int):Bool:=decide (a<=x) && decide (x<=b)
theorem aI0 (x a b:Int):M50 (no_index (x,(a,(b,()))))=some (oV x a b,()):=by
 show (bif decide (a<=x) then some (decide (x<=b),()) else some (false,()))=_
 unfold oV
 cases decide (a<=x) <;> rfl
theorem aBC (x a b:Int):M40 (no_index (x,(a,(b,()))))=some (oV x a b,()):=by
 show (bif decide (a<=x) then some (decide (x<=b),()) else some (false,()))=_
 unfold oV
 cases decide (a<=x) <;> rfl
theorem anh (b:B6):US (no_index (b,()))=some (!Is b,()):=by
 unfold US Q81 Is
 refine (aK (aLK _ _ _)).trans ?_
 cases OD b.1 b.2.1 100 with
 | false=>rfl
 | true =>
  refine (aR rfl).trans ?_
  refine (aK (aLK _ _ _)).trans ?_
  cases OD b.2.2.1 b.2.2.2.1 100 with
  | false=>rfl
  | true =>
   refine (aR rfl).trans ?_
   refine (aK (aLK _ _ _)).trans ?_
   rfl
def Im (r:Sl Py.den):Bool:=(List.range r.n).all fun j=>Is (r.g j)
theorem aWz (r:Sl Py.den) (hr:r.n<=140737488355328):M80 (no_index (r,((fun y=>(p81 y,v81 y)),())))=some (!Im r,()):=by
 unfold M80 Q80
 have hp:∀ j,p81 (r.g j,())=true:=fun j=>by show (US (r.g j,())).isSome=true; rw [anh]; rfl
 have hv:∀ j,v81 (r.g j,())=(!Is (r.g j),()):=fun j=>by show (US (r.g j,())).getD _=_; rw [anh]; rfl
 have key:ahE (r,((fun y=>(p81 y,v81 y)),(((r.n:Nat):Int),()))) ((0:Int),())=match fB (fun j=>!Is (r.g j)) r.n with | some k=>LQ.ret (wy:=Rp) (show (aa Rp.ret).den from ((k:Int),())) | none=>.exit 0 ():=by
  unfold ahE
  refine kG (ps:=CY) (n:=r.n) (f:=fun j=>((j:Int),())) (qr:=fun k=>LQ.ret (wy:=Rp) (show (aa Rp.ret).den from ((k:Int),()))) (Mk hr) (fun j hj _=>?_) (fun _=>?_)
  ·unfold ahD ahC
   refine (aq (decide_eq_true (dW hj))).trans ?_
   refine (aq (decide_eq_true (aQ hj))).trans ?_
   refine (aq (hp j)).trans ?_
   have vz:(v81 (r.g j,())).1 = !Is (r.g j):=by rw [hv]
   cases hb:Is (r.g j) with
   | false=>rw [hb] at vz; exact aq vz
   | true =>
    rw [hb] at vz
    refine (aR vz).trans ?_
    exact congrArg (fun q:Int=>(RQ.next (show (aa CY).den from (q,())):RQ CY Rp)) (dR hj hr)
  ·unfold ahD ahC
   have:¬ ((r.n:Int) < (r.n:Int)):=by omega
   exact aR (decide_eq_false this)
 have hM:M99 (r,((fun y=>(p81 y,v81 y)),()))=some ((match fB (fun j=>!Is (r.g j)) r.n with | some k=>(k:Int) | none=>-1),()):=by
  unfold M99 Q99
  revert key
  cases fB (fun j=>!Is (r.g j)) r.n with
  | some k=>intro key; refine (congrArg (fun o=>aF o 0 _ (bS o _ _)) key).trans ?_; rfl
  | none=>intro key; refine (congrArg (fun o=>aF o 0 _ (bS o _ _)) key).trans ?_; rfl
 refine (aK hM).trans ?_
 have:Im r=(fB (fun j=>!Is (r.g j)) r.n).isNone:=by
  cases h:fB (fun j=>!Is (r.g j)) r.n with
  | some k =>
   obtain ⟨h1,h2,_⟩:=kD h
   rw [Bool.eq_false_iff.2 (show Im r≠true from fun e=>by have:=mQ e h1; rw [this] at h2; cases h2)]; rfl
  | none =>
   have hn:=jg h
   exact JL fun j hj=>by have:=hn j hj; simpa using this
 rw [this]
 cases fB (fun j=>!Is (r.g j)) r.n with
 | none=>rfl
 | some k =>
  have:(0:Int)<=(k:Int):=by omega
  show some (decide ((0:Int)<=(k:Int)),())=_
  rw [decide_eq_true this]; rfl
def jI (s:tS.den):Nat->Int
 | 0=>-1
 | j + 1=>mT s j
def lD (s:tS.den) (j:Nat):Bool:=!decide (mT s j<=jI s j) && (!decide (200 < mT s j) && (!decide (3 < (s.1.g j).2.1.n) && Im (s.1.g j).2.1))
def UW (s:tS.den):Bool:=oV (s.1.n:Int) 1 4 && (oV (pN s) 0 50 && (oV (zn s) 0 1000 && (oV (OC s) 0 12 && oV (Sa s) 0 12)))
def Io (s:tS.den):Bool:=(List.range s.1.n).all (lD s) && UW s
theorem qP (h:Io s=true):(cB s).Ok:=by
 unfold Io UW oV at h
 simp only [Bool.and_eq_true,decide_eq_true_eq] at h
 obtain ⟨h1,⟨n1,n4⟩,sp,dp,bn,gn⟩:=h
 have hm:∀ t,t < s.1.n->jI s t < mT s t/\mT s t<=200/\(s.1.g t).2.1.n<=3/\∀ j,j < (s.1.g t).2.1.n->Is ((s.1.g t).2.1.g j)=true:=fun t ht=>by
  have:=mQ h1 ht
  unfold lD at this
  simp only [Bool.and_eq_true,Bool.not_eq_true',decide_eq_false_iff_not] at this
  obtain ⟨a,b,c,d⟩:=this
  exact ⟨by omega,by omega,by omega,fun j hj=>mQ d hj⟩
 have hp:∀ t,t < s.1.n->0<=mT s t:=fun t=>by
  induction t with
  | zero=>intro ht; have h2:=(hm 0 ht).1; have:jI s 0 = -1:=rfl; omega
  | succ t ih=>intro ht; have h2:=(hm (t + 1) ht).1; have:jI s (t + 1)=mT s t:=rfl; have:=ih (by omega); omega
 refine ⟨?_,?_,fun t ht=>(hm t ht).2.2.1,fun t ht=>⟨hp t ht,(hm t ht).2.1⟩,fun t ht=>(hm (t + 1) ht).1,fun t i ht hi' a ha=>?_,sp,dp,bn,gn⟩
 ·show 0 < s.1.n; omega
 ·show s.1.n<=4; omega
 ·have hb:=(hm t ht).2.2.2 i hi'
  unfold Is OD at hb
  simp only [Bool.and_eq_true,decide_eq_true_eq] at hb
  obtain ⟨⟨a1,a2,a3⟩,⟨b1,b2,b3⟩,c1,c2,c3⟩:=hb
  show 0<=lo ((s.1.g t).2.1.g i) a/\lo ((s.1.g t).2.1.g i) a<=hi ((s.1.g t).2.1.g i) a/\hi ((s.1.g t).2.1.g i) a<=99999
  match a,ha with
  | 0,_=>exact ⟨a1,a2,Int.le_trans a3 (by decide)⟩
  | 1,_=>exact ⟨b1,b2,Int.le_trans b3 (by decide)⟩
  | 2,_=>exact ⟨c1,c2,c3⟩
theorem aLO (hn:s.1.n<=1000) (hk:∀ t,t < s.1.n->(s.1.g t).2.1.n<=1000):M57 (no_index (s,()))=some (Io s,()):=by
 have key:aFN ((),(s.1,(((s.1.n:Nat):Int),(s,())))) ((-1:Int),((0:Int),()))=bif (List.range s.1.n).all (lD s) then .exit 0 () else LQ.ret (wy:=ayb) (show (aa ayb.ret).den from (false,())):=by
  unfold aFN
  refine dX (ps:=aom) (n:=s.1.n) (f:=fun j=>(jI s j,((j:Int),()))) (c:=lD s) (by unfold cz; omega) (fun j hj _=>?_) (fun _=>?_)
  ·unfold aFd aFc
   refine (aq (decide_eq_true (dW hj))).trans ?_
   refine (aq (decide_eq_true (aQ hj))).trans ?_
   unfold lD
   by_cases c1:mT s j<=jI s j
   ·rw [decide_eq_true c1]
    exact aq (decide_eq_true c1)
   refine (aR (decide_eq_false c1)).trans ?_
   rw [decide_eq_false c1]
   by_cases c2:200 < mT s j
   ·rw [decide_eq_true c2]
    exact aq (decide_eq_true c2)
   refine (aR (decide_eq_false c2)).trans ?_
   rw [decide_eq_false c2]
   by_cases c3:3 < (s.1.g j).2.1.n
   ·rw [decide_eq_true c3]
    have c3':(3:Int) < (((s.1.g j).2.1.n:Nat):Int):=by omega
    exact aq (decide_eq_true c3')
   have c3':¬ (3:Int) < (((s.1.g j).2.1.n:Nat):Int):=by omega
   refine (aR (decide_eq_false c3')).trans ?_
   rw [decide_eq_false c3]
   have hM:=aWz (s.1.g j).2.1 (by have:=hk j hj; omega)
   refine (aK hM).trans ?_
   have hv:(v80 ((s.1.g j).2.1,((fun y3=>(p81 y3,v81 y3)),()))).1 = !Im (s.1.g j).2.1:=by
    show ((M80 ((s.1.g j).2.1,((fun y3=>(p81 y3,v81 y3)),()))).getD _).1=_
    rw [hM]; rfl
   cases hr:Im (s.1.g j).2.1 with
   | false =>
    rw [hr] at hv
    exact aq hv
   | true =>
    rw [hr] at hv
    refine (aR hv).trans ?_
    exact congrArg (fun q:Int=>(RQ.next (show (aa aom).den from (mT s j,(q,()))):RQ aom ayb)) (dR hj (by omega))
  ·unfold aFd aFc
   have:¬ ((s.1.n:Int) < (s.1.n:Int)):=by omega
   exact aR (decide_eq_false this)
 unfold M57 Q57 Io
 revert key
 cases (List.range s.1.n).all (lD s) with
 | false=>intro key; refine (congrArg (fun o=>aF o 0 _ (bS o _ _)) key).trans ?_; rfl
 | true =>
  intro key
  refine (bp key).trans ?_
  unfold UW
  refine (aK (aI0 _ _ _)).trans ?_
  cases oV (s.1.n:Int) 1 4 with
  | false=>rfl
  | true =>
   refine (aq rfl).trans ?_
   refine (aK (aI0 (pN s) _ _)).trans ?_
   cases oV (pN s) 0 50 with
   | false=>rfl
   | true =>
    refine (aq rfl).trans ?_
    refine (aK (aI0 (zn s) _ _)).trans ?_
    cases oV (zn s) 0 1000 with
    | false=>rfl
    | true =>
     refine (aq rfl).trans ?_
     refine (aK (aI0 (OC s) _ _)).trans ?_
     cases oV (OC s) 0 12 with
     | false=>rfl
     | true =>
      refine (aq rfl).trans ?_
      refine (aK (aI0 (Sa s) _ _)).trans ?_
      rfl
theorem baM:∃ b:Bool,M5 (no_index (s,()))=some (b,())/\(b=true->s.1.n<=6/\∀ t,t < s.1.n->(s.1.g t).2.1.n<=5):=by
 let c:Nat->Bool:=fun j=>!decide ((5:Int) < (((s.1.g j).2.1.n:Nat):Int))
 have key:aD4 ((),(s,())) ((0:Int),())=bif (List.range (min s.1.n 7)).all c then .exit 0 () else LQ.ret (wy:=auN) (show (aa auN.ret).den from (false,())):=by
  unfold aD4
  refine dX (ps:=afJ) (n:=min s.1.n 7) (f:=fun j=>((j:Int),())) (c:=c) (by unfold cz; omega) (fun j hj _=>?_) (fun _=>?_)
  ·unfold aJQ aJP
   have hj1:j < s.1.n:=by omega
   have hj7:(j:Int) < 7:=by omega
   refine (aq (decide_eq_true (dW hj1))).trans ?_
   refine (aq (decide_eq_true hj7)).trans ?_
   refine (aq (decide_eq_true (aQ hj1))).trans ?_
   show _=bif c j then _ else _
   by_cases c1:(5:Int) < (((s.1.g j).2.1.n:Nat):Int)
   ·have:c j=false:=by show (!decide _)=false; rw [decide_eq_true c1]; rfl
    rw [this]
    exact aq (decide_eq_true c1)
   ·have:c j=true:=by show (!decide _)=true; rw [decide_eq_false c1]; rfl
    rw [this]
    refine (aR (decide_eq_false c1)).trans ?_
    exact congrArg (fun q:Int=>(RQ.next (show (aa afJ).den from (q,())):RQ afJ auN)) (dR (n:=7) (by omega) (by omega))
  ·unfold aJQ aJP
   by_cases h:s.1.n<=7
   ·have:¬ (((min s.1.n 7:Nat):Int) < (s.1.n:Int)):=by omega
    exact aR (decide_eq_false this)
   ·have h1:((min s.1.n 7:Nat):Int) < (s.1.n:Int):=by omega
    have h2:¬ ((min s.1.n 7:Nat):Int) < 7:=by omega
    exact (aq (decide_eq_true h1)).trans (aR (decide_eq_false h2))
 unfold M5 Q5
 cases hc:(List.range (min s.1.n 7)).all c with
 | false =>
  rw [hc] at key
  exact ⟨false,(congrArg (fun o=>aF o 0 _ (bS o _ _)) key).trans rfl,fun h=>by cases h⟩
 | true =>
  rw [hc] at key
  refine ⟨decide ((s.1.n:Int)<=6),(bp key).trans rfl,fun h=>?_⟩
  have h:=of_decide_eq_true h
  refine ⟨by omega,fun t ht=>?_⟩
  have:=mQ hc (j:=t) (by omega)
  have:(!decide ((5:Int) < (((s.1.g t).2.1.n:Nat):Int)))=true:=this
  simp at this
  omega
end Go.Dm

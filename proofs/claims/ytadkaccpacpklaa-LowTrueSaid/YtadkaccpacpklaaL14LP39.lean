/-
 Of the plain law.
-/
import Derived.Test.YtadkaccpacpklaaL14LP35
set_option linter.unusedVariables false
set_option linter.unusedSimpArgs false
namespace Go.Dm
set_option maxRecDepth 100000
open Go.Low
variable {s:tS.den}
theorem aCG {a b:Sl sR.den} (ha:a.n<=1000):M59 (no_index (a,(b,())))=some (decide (aV a=aV b),()):=by
 unfold M59 Q59
 by_cases hn:((a.n:Nat):Int)=((b.n:Nat):Int)
 ·refine (aR (show (!decide (((a.n:Nat):Int)=((b.n:Nat):Int)))=false by rw [decide_eq_true hn]; rfl)).trans ?_
  have key:TN (a,(b,())) ((0:Int),())=bif (List.range a.n).all (fun j=>decide ((show Int from (a.g j).1)=(show Int from (b.g j).1))) then .exit 0 () else LQ.ret (wy:=Ed) (show (aa Ed.ret).den from (false,())):=by
   unfold TN
   refine dX (ps:=mo) (n:=a.n) (f:=fun j=>((j:Int),())) (by unfold cz; omega) (fun j hj _=>?_) (fun _=>?_)
   ·unfold TM TL
    refine (aq (decide_eq_true (dW hj))).trans ?_
    refine (aq (decide_eq_true (aQ hj))).trans ?_
    refine (aq (decide_eq_true (aQ (n:=b.n) (by omega)))).trans ?_
    cases hd:decide ((show Int from (a.g j).1)=(show Int from (b.g j).1)) with
    | true =>
     refine (aR (show (!decide ((show Int from (a.g j).1)=(show Int from (b.g j).1)))=false by rw [hd]; rfl)).trans ?_
     exact congrArg (fun q:Int=>(RQ.next (show (aa mo).den from (q,())):RQ mo Ed)) (dR hj (by omega))
    | false=>exact aq (show (!decide ((show Int from (a.g j).1)=(show Int from (b.g j).1)))=true by rw [hd]; rfl)
   ·unfold TM TL
    exact aR (decide_eq_false (by omega:¬ (((a.n:Nat):Int) < ((a.n:Nat):Int))))
  have e:(List.range a.n).all (fun j=>decide ((show Int from (a.g j).1)=(show Int from (b.g j).1)))=decide (aV a=aV b):=by
   rw [Bool.eq_iff_iff,decide_eq_true_eq]
   constructor
   ·intro h
    refine List.ext_getElem? fun j=>?_
    rw [gR,gR]
    by_cases hj:j < a.n
    ·rw [if_pos hj,if_pos (by omega)]
     exact congrArg some (of_decide_eq_true (mQ h hj))
    ·rw [if_neg hj,if_neg (by omega)]
   ·intro h
    refine JL fun j hj=>decide_eq_true ?_
    have:(aV a)[j]? = (aV b)[j]? := by rw [h]
    rw [gR,gR,if_pos hj,if_pos (by omega)] at this
    exact Option.some.inj this
  rw [e] at key
  revert key
  cases decide (aV a=aV b) with
  | true=>intro key; exact (bp key).trans rfl
  | false=>intro key; exact (congrArg (fun o=>aF o 0 _ (bS o _ _)) key).trans rfl
 ·refine (aq (show (!decide (((a.n:Nat):Int)=((b.n:Nat):Int)))=true by rw [decide_eq_false hn]; rfl)).trans ?_
  have:¬ (aV a=aV b):=fun e=>hn (by
   have:=congrArg List.length e
   rw [iN,iN] at this
   omega)
  rw [decide_eq_false this]
theorem aLO {w:Int} {b:Bool} (h1:1<=w) (h2:w<=3) (h3:w=3->b=true) (h4:w=1->b=false):M57 (no_index (w,(b,())))=some (true,()):=by
 unfold M57 Q57
 refine (aq (decide_eq_true h1)).trans ?_
 refine (aq (decide_eq_true h2)).trans ?_
 by_cases c3:w=3
 ·refine (aR (show (!decide (w=(3:Int)))=false by rw [decide_eq_true c3]; rfl)).trans ?_
  refine (aq (h3 c3)).trans ?_
  have c1:¬ w=1:=by omega
  exact aq (show (!decide (w=(1:Int)))=true by rw [decide_eq_false c1]; rfl)
 ·refine (aq (show (!decide (w=(3:Int)))=true by rw [decide_eq_false c3]; rfl)).trans ?_
  by_cases c1:w=1
  ·refine (aR (show (!decide (w=(1:Int)))=false by rw [decide_eq_true c1]; rfl)).trans ?_
   have:=h4 c1
   subst this; rfl
  ·exact aq (show (!decide (w=(1:Int)))=true by rw [decide_eq_false c1]; rfl)
theorem aFX (hs:(cB s).Ok) {rows:cT} (hL:aW rows∈links (cB s)) {t:Nat} (ht:t + 1 < s.1.n) (i:Nat):has (aV (rows.g (t + 1)).1) (i:Int)=(nx (cB s) (aW rows) t i).isSome:=by
 have hr:=aia hs hL
 have hI:=(tX hs).1 hL
 have e:=kH (o:=rows) (t:=t + 1) (by rw [hr.n]; exact ht)
 rw [<- e,Bool.eq_iff_iff]
 constructor
 ·intro h
  obtain ⟨j,hj,e⟩:=(aFH hI ht (i:Int) (by omega)).1 h
  cases hn:nx (cB s) (aW rows) t i with
  | some k=>rfl
  | none=>exact absurd e (aXi hn hj)
 ·intro h
  cases hn:nx (cB s) (aW rows) t i with
  | none=>rw [hn] at h; cases h
  | some k=>exact (aFH hI ht (i:Int) (by omega)).2 ⟨k,aqc hn⟩
theorem aFY (hs:(cB s).Ok) {rows:cT} (hL:aW rows∈links (cB s)) {t i:Nat} (ht:t + 1 < s.1.n) {out:Sl sR.den} (ho:out.n<=1000) (h0:0 < out.n) (hl:(show Int from (out.g (out.n - 1)).1)=(i:Int)) :
    ay6 (rows,(((t + 1:Nat):Int),(out,()))) ((0:Int),())=match nx (cB s) (aW rows) t i with | some k=>.exit 2 (snoc out ((k:Int),()),()) | none=>.exit 2 (out,()):=by
  have hr:=aia hs hL
  have RI:=hr.n
  have hk:=dN hs ht
  have hkr:=hr.k _ ht
  rw [<- aPH hs hr ht]
  have at1:(0:Int)<=((t + 1:Nat):Int)/\((t + 1:Nat):Int) < ((rows.n:Nat):Int):=by omega
  have w:W (((out.n:Nat):Int) - 1)=((out.n - 1:Nat):Int):=by rw [gQ ⟨by omega,by omega⟩]; omega
  have h8:(out.n + 1) * 8<=140737488355328:=by omega
  unfold ay6
  have key:=kG (step:=ay5 (rows,(((t + 1:Nat):Int),(out,())))) (N:=cz) (ps:=WE) (wy:=anU) (n:=(rows.g (t + 1)).1.n) (f:=fun j=>((j:Int),())) (c:=fun j=>decide ((i:Int)=((rows.g (t + 1)).1.g j).1))
    (qe:=.exit 2 (out,())) (qr:=fun k=>.exit 2 (snoc out ((k:Int),()),())) (by unfold cz; omega) (fun j hj _=>by
      have abO:(0:Int)<=(j:Int)/\(j:Int) < ((((rows.g (t + 1)).1.n:Nat)):Int):=by omega
      have kk:∀ z:Int,z=((out.n - 1:Nat):Int)->∀ (p q r1:RQ WE anU),(bif (decide ((0:Int)<=z/\z < ((out.n:Nat):Int))) then bif (decide (((rows.g (t + 1)).1.g j).1=(out.g (Int.toNat z)).1)) then p else q else r1)=bif decide ((i:Int)=((rows.g (t + 1)).1.g j).1) then p else q:=fun z hz p q r1=>by
        subst hz
        refine (aq (decide_eq_true (aQ (n:=out.n) (by omega)))).trans ?_
        have e:decide ((show Int from ((rows.g (t + 1)).1.g j).1)=(show Int from (out.g (Int.toNat ((out.n - 1:Nat):Int))).1))=decide ((i:Int)=(show Int from ((rows.g (t + 1)).1.g j).1)):=by
          have e2:(show Int from (out.g (Int.toNat ((out.n - 1:Nat):Int))).1)=(i:Int):=hl
          rw [e2,decide_eq_decide]
          exact eq_comm
        exact congrArg (fun b:Bool=>bif b then p else q) e
      unfold ay5 ay4
      refine (aq (decide_eq_true at1)).trans ?_
      refine (aq (decide_eq_true abO.2)).trans ?_
      refine (aq (decide_eq_true at1)).trans ?_
      refine (aq (decide_eq_true abO)).trans ?_
      refine (kk _ w _ _ _).trans ?_
      cases decide ((i:Int)=((rows.g (t + 1)).1.g j).1) with
      | true=>exact aq (decide_eq_true h8)
      | false=>exact congrArg (fun q:Int=>(RQ.next (show (aa WE).den from (q,())):RQ WE anU)) (dR hj (by omega))) (fun _=>by
      unfold ay5 ay4
      refine (aq (decide_eq_true at1)).trans ?_
      exact aR (decide_eq_false (by omega:¬ ((((rows.g (t + 1)).1.n:Nat):Int) < (((rows.g (t + 1)).1.n:Nat):Int)))))
  exact key
theorem aCK (hs:(cB s).Ok) {rows:cT} (hL:aW rows∈links (cB s)):∀ (m t i n:Nat) (out:Sl sR.den),t + m + 1=s.1.n->m < n->out.n + m<=1000->0 < out.n->(show Int from (out.g (out.n - 1)).1)=(i:Int) ->
  ∃ r:Sl sR.den,aH (aJN (rows,())) n ((t:Int),(out,())) = .exit 0 (r,())/\aV r=aV out ++ (acT (cB s) (aW rows) m t i).tail
 | m,t,i,n,out,ht,hn,ho,h0,hl=>by
  obtain ⟨n,rfl⟩:∃ q,n=q + 1:=⟨n - 1,by omega⟩
  have hr:=aia hs hL
  have RI:=hr.n
  have WM:=eF hs
  have w1:W ((t:Int) + 1)=((t + 1:Nat):Int):=dR (n:=s.1.n) (by omega) (by omega)
  cases m with
  | zero =>
   have st:aJN (rows,()) ((t:Int),(out,())) = .out (.exit 0 (out,())):=by
    unfold aJN aJM
    have:¬ (W ((t:Int) + 1) < ((rows.n:Nat):Int)):=by rw [w1]; omega
    exact aR (decide_eq_false this)
   exact ⟨out,by rw [aH,st],by simp [acT,des]⟩
  | succ m =>
   have ht1:t + 1 < s.1.n:=by omega
   have hk1:=dN hs ht1
   have hp:(acT (cB s) (aW rows) (m + 1) t i).tail=match nx (cB s) (aW rows) t i with | some j=>acT (cB s) (aW rows) m (t + 1) j | none=>[]:=by
    unfold acT
    simp only [des,List.map_cons,List.tail_cons]
    cases nx (cB s) (aW rows) t i <;> rfl
   have w2:W (((out.n:Nat):Int) - 1)=((out.n - 1:Nat):Int):=by rw [gQ ⟨by omega,by omega⟩]; omega
   have hin:=aFY hs hL (i:=i) ht1 (out:=out) (by omega) h0 hl
   have h73:=acB (rows.g (t + 1)).1 (by rw [hr.k _ ht1]; omega) (i:Int)
   rw [aFX hs hL ht1] at h73
   have he:(out.g (out.n - 1))=((i:Int),()):=Prod.ext hl rfl
   have st:aJN (rows,()) ((t:Int),(out,()))=match nx (cB s) (aW rows) t i with | some k=>.next (((t + 1:Nat):Int),(snoc out ((k:Int),()),())) | none=>.out (.exit 0 (out,())):=by
    have kk:∀ z y:Int,z=((t + 1:Nat):Int)->y=((out.n - 1:Nat):Int)->(bif (decide (z < ((rows.n:Nat):Int))) then bif (decide (((0:Int)<=z)/\(z < ((rows.n:Nat):Int)))) then bif (decide (((0:Int)<=y)/\(y < ((out.n:Nat):Int)))) then cl (r73).dflt (M73 ((rows.g (Int.toNat z)).1,(out.g (Int.toNat y)))) (fun u0=>bif u0.1 then aF (ay6 (rows,(z,(out,()))) ((0:Int),())) 2 (fun u1=>(RQ.next (show (aa ah5).den from (z,u1)):RQ ah5 ay7)) .bad else .out (.exit 0 (out,()))) .bad else .bad else .bad else .out (.exit 0 (out,())))=match nx (cB s) (aW rows) t i with | some k=>.next (((t + 1:Nat):Int),(snoc out ((k:Int),()),())) | none=>.out (.exit 0 (out,())):=by
     intro z y hz hy
     subst hz hy
     have a1:(0:Int)<=((t + 1:Nat):Int)/\((t + 1:Nat):Int) < ((rows.n:Nat):Int):=by omega
     refine (aq (decide_eq_true a1.2)).trans ?_
     refine (aq (decide_eq_true a1)).trans ?_
     refine (aq (decide_eq_true (aQ (n:=out.n) (by omega)))).trans ?_
     have aVh:M73 ((rows.g (Int.toNat ((t + 1:Nat):Int))).1,(out.g (Int.toNat ((out.n - 1:Nat):Int))))=some ((nx (cB s) (aW rows) t i).isSome,()):=by
      show M73 ((rows.g (t + 1)).1,(out.g (out.n - 1)))=_
      rw [he]; exact h73
     refine (aK aVh).trans ?_
     cases hnx:nx (cB s) (aW rows) t i with
     | none=>rfl
     | some k =>
      rw [hnx] at hin
      refine (aq rfl).trans ?_
      exact bp hin
    unfold aJN aJM
    exact kk _ _ w1 w2
   rw [hp]
   cases hnx:nx (cB s) (aW rows) t i with
   | none =>
    rw [hnx] at st
    exact ⟨out,by rw [aH,st],by simp⟩
   | some k =>
    rw [hnx] at st
    obtain ⟨r,q1,q2⟩:=aCK hs hL m (t + 1) k n (snoc out ((k:Int),())) (by omega) (by omega) (by rw [IP]; omega) (by rw [IP]; omega) (by
     have:(snoc out ((k:Int),())).n - 1=out.n:=by rw [IP]; omega
     rw [this,Il])
    refine ⟨r,?_,?_⟩
    ·refine Eq.trans ?_ q1
     rw [aH,st]
    ·rw [q2,Et,List.append_assoc]
     congr 1
     cases m <;> simp [acT,des]
theorem aLP (hs:(cB s).Ok) {rows:cT} (hL:aW rows∈links (cB s)) {t i:Nat} (ht:t < s.1.n):∃ r:Sl sR.den,M58 (no_index (rows,((t:Int),((i:Int),()))))=some (r,())/\aV r=acT (cB s) (aW rows) (s.1.n - 1 - t) t i:=by
 have WM:=eF hs
 obtain ⟨r,h1,h2⟩:=aCK hs hL (s.1.n - 1 - t) t i cz (⟨1,fun j=>List.getD [((i:Int),())] j ((i:Int),())⟩:Sl sR.den) (by omega) (by unfold cz; omega) (by show 1 + (s.1.n - 1 - t)<=1000; omega) (by show 0 < 1; omega) rfl
 refine ⟨r,?_,?_⟩
 ·unfold M58 Q58
  exact (bp h1).trans rfl
 ·rw [h2]
  show [(i:Int)] ++ _=_
  generalize s.1.n - 1 - t=m
  cases m <;> simp [acT,des]
end Go.Dm
namespace Go.Dm
set_option maxRecDepth 100000
open Go.Low
variable {s:tS.den}
theorem aAP (hs:(cB s).Ok):(links (cB s)).length<=1000000:=Nat.le_trans (abS hs) (by omega)
theorem asl {P:cT} {n:Nat} (hn:P.n<=n) (h:∀ x∈aW P,x.length<=1000):∀ i,i < P.n->(P.g i).1.n<=1000:=fun i hi=>by
 have:=h _ (List.mem_of_getElem? (tW hi))
 rwa [iN] at this
theorem at3 (p:PS) (L:LL):∀ (m t i:Nat),(des p L m t i).length<=m + 1
 | 0,t,i=>by simp [des]
 | m + 1,t,i=>by
  simp only [des,List.length_cons]
  cases nx p L t i with
  | none=>simp
  | some j=>have:=at3 p L m (t + 1) j; dsimp only; omega
theorem an8:∀ {l m:LL},l.Pairwise llt->(∀ x∈l,x∈m)->l.length<=m.length
 | [],m,_,_=>Nat.zero_le _
 | a :: l,m,h,hm=>by
  rw [List.pairwise_cons] at h
  have ha:=hm a (.head _)
  have ih:=an8 (l:=l) (m:=m.erase a) h.2 fun x hx=>by
   have hne:x≠a:=fun e=>by subst e; exact ajd (h.1 _ hx)
   exact (List.mem_erase_of_ne hne).2 (hm x (.tail _ hx))
  have:=List.length_erase_of_mem ha
  have hpos:=List.length_pos_of_mem ha
  rw [List.length_cons]
  omega
theorem amX (hs:(cB s).Ok) {P:cT} {m t i:Nat} (hm:m<=10) (p1:(aW P).Pairwise llt) (p2:∀ x,x∈aW P↔∃ L∈links (cB s),x=acT (cB s) L m t i):P.n<=1000000/\∀ j,j < P.n->(P.g j).1.n<=1000:=by
 have hPn:P.n<=1000000:=by
  have hm:=an8 p1 (m:=(links (cB s)).map fun L=>acT (cB s) L m t i) fun x hx=>by
   obtain ⟨L,hL,e⟩:=(p2 x).1 hx
   rw [e]; exact List.mem_map_of_mem hL
  rw [List.length_map,dI] at hm
  exact Nat.le_trans hm (aAP hs)
 refine ⟨hPn,asl hPn fun x hx=>?_⟩
 obtain ⟨L,hL,e⟩:=(p2 x).1 hx
 rw [e]
 unfold acT
 rw [List.length_map]
 have:=at3 (cB s) L m t i
 omega
end Go.Dm
namespace Go.Dm
set_option maxRecDepth 100000
open Go.Low
variable {s:tS.den} {A X Y D:cT}
theorem aF0 {ls:List LL} {L:LL} (h:L∈ls) (q:LL->Bool):M57 (no_index (wd (ls.countP q) ls.length,(q L,())))=some (true,()):=by
 have h0:0 < ls.length:=List.length_pos_of_mem h
 refine aLO ?_ ?_ (fun e=>?_) fun e=>?_
 ·unfold wd; cases decide (((ls.countP q:Nat):Int)=0) <;> cases decide (((ls.countP q:Nat):Int)=((ls.length:Nat):Int)) <;> decide
 ·unfold wd; cases decide (((ls.countP q:Nat):Int)=0) <;> cases decide (((ls.countP q:Nat):Int)=((ls.length:Nat):Int)) <;> decide
 ·have h3:=wd3 (c:=ls.countP q) h0
  rw [decide_eq_true e] at h3
  exact List.countP_eq_length.1 (of_decide_eq_true h3.symm) L h
 ·have h3:=wd1 (ls.countP q) ls.length
  rw [decide_eq_true e] at h3
  have h4:ls.countP q=0:=Classical.byContradiction fun c=>by rw [decide_eq_true c] at h3; cases h3
  have h5:=List.countP_eq_zero.1 h4 L h
  exact Bool.eq_false_iff.2 h5
theorem aw4 (r:List Int) (x b:Int):has (r ++ [x]) b=(has r b || decide (x=b)):=by
 rw [Bool.eq_iff_iff]
 unfold has
 simp only [List.contains_iff_mem,List.mem_append,List.mem_singleton,Bool.or_eq_true,decide_eq_true_eq]
 exact or_congr_right eq_comm
section
variable {c0 c1:Int} {c4 c5 c6:cT} {c13:B6} {c11:tS.den}
theorem aVF (hs:(cB s).Ok) (h:Ov s A X Y D) (hL:aW A∈links (cB s)) {t q:Nat} (ht:t + 1 < s.1.n) (hq:q < (s.1.g (t + 1)).2.1.n) :
  aeW (c0,(c1,((),((),(c4,(c5,(c6,((),(((t + 1:Nat):Int),(Cl s t,((q:Int),(c11,(trT A X Y D,(c13,())))))))))))))) ((0:Int),()) = .exit 4 ():=by
 have Ml:=dN hs (t:=t) (by omega)
 have hsn:=azj s t
 have hsg:=azk hq
 have hn:((Cl s t).g q).1.n=(s.1.g t).2.1.n:=by rw [hsg]; dsimp only; rw [PD]
 have a0:q < (Cl s t).n:=by omega
 have a1:t + 1 < A.n:=by rw [h.a.n]; exact ht
 have a2:q < (A.g (t + 1)).1.n:=by rw [h.a.k _ ht]; exact hq
 unfold aeW
 refine bQ (ps:=acq) ((Cl s t).g q).1.n cz (fun j=>((j:Int),())) (by unfold cz; omega) (fun r hr=>?_) ?_
 ·have hx:((Cl s t).g q).1.g r=(wd (cS s (t + 1) q (r:Int)) (nL s),()):=by rw [hsg]; exact aoV (by omega)
  have m:M57 ((((Cl s t).g q).1.g r).1,(decide (ap A (t + 1) q=(r:Int)),()))=some (true,()):=by
   rw [hx,<- au6 h.a ht hq]
   exact aF0 hL fun L=>decide (qR L (t + 1) q=(r:Int))
  unfold agf age
  refine (aq (decide_eq_true (aQ a0))).trans ?_
  refine (aq (decide_eq_true (dW hr))).trans ?_
  refine (aq (decide_eq_true (aQ a0))).trans ?_
  refine (aq (decide_eq_true (aQ hr))).trans ?_
  refine (aq (decide_eq_true (aQ a1))).trans ?_
  refine (aq (decide_eq_true (aQ a2))).trans ?_
  refine (aK m).trans ?_
  refine (aR rfl).trans ?_
  exact congrArg (fun w:Int=>(RQ.next (show (aa acq).den from (w,())):RQ acq afM)) (dR hr (by omega))
 ·unfold agf age
  refine (aq (decide_eq_true (aQ a0))).trans ?_
  have:¬ ((((((Cl s t).g q).1.n:Nat):Int)) < ((((Cl s t).g q).1.n:Nat):Int)):=by omega
  exact aR (decide_eq_false this)
theorem aVJ (hs:(cB s).Ok) (h:Ov s A X Y D) (hL:aW A∈links (cB s)) {t:Nat} (ht:t + 1 < s.1.n) :
  aih (c0,(c1,((),((),(Kt s,(c5,(c6,((),(((t + 1:Nat):Int),(Cl s t,(c11,(trT A X Y D,(c13,()))))))))))))) ((0:Int),()) = .exit 2 ():=by
 have hk:=dN hs ht
 have hsn:=azj s t
 have hbn:=an3 s
 have hbg:=aFF ht
 have wp:=wo (n:=s.1.n) (by have:=eF hs; omega) ht
 have a1:t + 1 < A.n:=by rw [h.a.n]; exact ht
 unfold aih
 refine bQ (ps:=acS) (Cl s t).n cz (fun j=>((j:Int),())) (by unfold cz; omega) (fun q hq'=>?_) ?_
 ·have hq:q < (s.1.g (t + 1)).2.1.n:=by omega
  have a2:q < (A.g (t + 1)).1.n:=by rw [h.a.k _ ht]; exact hq
  have a3:q < ((Kt s).g t).1.n:=by rw [hbg]; dsimp only; rw [PD]; exact hq
  have hx:((Kt s).g t).1.g q=(wd (cS s (t + 1) q (-1)) (nL s),()):=by rw [hbg]; exact aoV hq
  have m:M57 ((((Kt s).g t).1.g q).1,(decide (ap A (t + 1) q=(-1:Int)),()))=some (true,()):=by
   rw [hx,<- au6 h.a ht hq]
   exact aF0 hL fun L=>decide (qR L (t + 1) q=(-1:Int))
  have key:∀ w:Int,w=(t:Int)->∀ (a b d e f z y:RQ acS agi),(bif decide ((0:Int)<=w/\w < (((Kt s).n:Nat):Int)) then bif decide ((0:Int)<=(q:Int)/\(q:Int) < ((((Kt s).g (Int.toNat w)).1.n:Nat):Int)) then bif decide ((0:Int)<=((t + 1:Nat):Int)/\((t + 1:Nat):Int) < ((A.n:Nat):Int)) then bif decide ((0:Int)<=(q:Int)/\(q:Int) < (((A.g (t + 1)).1.n:Nat):Int)) then
    cl (r57).dflt (M57 ((((Kt s).g (Int.toNat w)).1.g q).1,(decide (ap A (t + 1) q=(-1:Int)),()))) (fun u1=>bif (!u1.1) then z else y) a else b else d else e else f)=y:=fun w hw a b d e f z y=>by
   subst hw
   refine (aq (decide_eq_true (aQ (by omega)))).trans ?_
   refine (aq (decide_eq_true (aQ a3))).trans ?_
   refine (aq (decide_eq_true (aQ a1))).trans ?_
   refine (aq (decide_eq_true (aQ a2))).trans ?_
   refine (aK m).trans ?_
   exact aR rfl
  unfold ajX ajR
  refine (aq (decide_eq_true (dW hq'))).trans ?_
  refine (key _ wp _ _ _ _ _ _ _).trans ?_
  refine (bp (aVF hs h hL ht hq)).trans ?_
  exact congrArg (fun w:Int=>(RQ.next (show (aa acS).den from (w,())):RQ acS agi)) (dR hq' (by omega))
 ·unfold ajX ajR
  have:¬ (((Cl s t).n:Int) < ((Cl s t).n:Int)):=by omega
  exact aR (decide_eq_false this)
theorem aVM (hs:(cB s).Ok) (h:Ov s A X Y D) {t r:Nat} (ht:t + 1 < s.1.n) :
  aeZ (c0,(c1,((),((),(c4,(c5,(c6,((),(((t + 1:Nat):Int),(Cl s t,((r:Int),(c11,(trT A X Y D,(c13,())))))))))))))) (true,((0:Int),())) = .exit 8 (!has ((aW A).getD (t + 1) []) (r:Int),()):=by
 have hk:=dN hs ht
 have hsn:=azj s t
 have a1:t + 1 < A.n:=by rw [h.a.n]; exact ht
 have hAn:(A.g (t + 1)).1.n=(Cl s t).n:=by rw [h.a.k _ ht,hsn]
 rw [kH a1]
 have e:aV (A.g (t + 1)).1=(aV (A.g (t + 1)).1).take (Cl s t).n:=by rw [List.take_of_length_le (by rw [iN]; omega)]
 rw [e]
 unfold aeZ
 refine bQ (ps:=ab6) (Cl s t).n cz (fun j=>(!has ((aV (A.g (t + 1)).1).take j) (r:Int),((j:Int),()))) (by unfold cz; omega) (fun q hq'=>?_) ?_
 ·have a2:q < (A.g (t + 1)).1.n:=by omega
  have hst:has ((aV (A.g (t + 1)).1).take (q + 1)) (r:Int)=(has ((aV (A.g (t + 1)).1).take q) (r:Int) || decide (ap A (t + 1) q=(r:Int))):=by
   rw [Eu a2,aw4]; rfl
  have nx:∀ {a b:Bool},a=b->(RQ.next (show (aa ab6).den from (a,(W ((q:Int) + 1),()))):RQ ab6 aeL) = .next (show (aa ab6).den from (b,(((q + 1:Nat):Int),()))):=fun {a b} e=>by
   rw [e]
   exact congrArg (fun w:Int=>(RQ.next (show (aa ab6).den from (b,(w,()))):RQ ab6 aeL)) (dR hq' (by omega))
  unfold agm agl
  refine (aq (decide_eq_true (dW hq'))).trans ?_
  cases hb:has ((aV (A.g (t + 1)).1).take q) (r:Int) with
  | false =>
   rw [hb,Bool.false_or] at hst
   refine (aq rfl).trans ?_
   refine (aq (decide_eq_true (aQ a1))).trans ?_
   refine (aq (decide_eq_true (aQ a2))).trans ?_
   exact nx (congrArg not hst.symm)
  | true =>
   rw [hb,Bool.true_or] at hst
   refine (aR rfl).trans ?_
   exact nx (by rw [hst]; rfl)
 ·unfold agm agl
  have:¬ (((Cl s t).n:Int) < ((Cl s t).n:Int)):=by omega
  exact aR (decide_eq_false this)
theorem aVO (hs:(cB s).Ok) (h:Ov s A X Y D) (hL:aW A∈links (cB s)) {t:Nat} (ht:t + 1 < s.1.n) :
  aij (c0,(c1,((),((),(c4,(Xg s,(c6,((),(((t + 1:Nat):Int),(Cl s t,(c11,(trT A X Y D,(c13,()))))))))))))) ((0:Int),()) = .exit 6 ():=by
 have Ml:=dN hs (t:=t) (by omega)
 have hen:=aKx s
 have heg:=aKy ht
 have wp:=wo (n:=s.1.n) (by have:=eF hs; omega) ht
 have hn:((Xg s).g t).1.n=(s.1.g t).2.1.n:=by rw [heg]; dsimp only; rw [PD]
 unfold aij
 refine bQ (ps:=acs) ((Xg s).g t).1.n cz (fun j=>((j:Int),())) (by unfold cz; omega) (fun r hr=>?_) ?_
 ·have hx:((Xg s).g t).1.g r=(wd (cE s t r) (nL s),()):=by rw [heg]; exact aoV (by omega)
  have m:M57 ((((Xg s).g t).1.g r).1,(!has ((aW A).getD (t + 1) []) (r:Int),()))=some (true,()):=by
   rw [hx]
   exact aF0 hL fun L=>!has (L.getD (t + 1) []) (r:Int)
  have key:∀ w:Int,w=(t:Int)->∀ (a b d e f g z y:RQ acs agd),(bif decide ((0:Int)<=w/\w < (((Xg s).n:Nat):Int)) then bif decide ((r:Int) < ((((Xg s).g (Int.toNat w)).1.n:Nat):Int)) then
    aF (aeZ (c0,(c1,((),((),(c4,(Xg s,(c6,((),(((t + 1:Nat):Int),(Cl s t,((r:Int),(c11,(trT A X Y D,(c13,())))))))))))))) (true,((0:Int),()))) 8 (fun u4 =>
    bif decide ((0:Int)<=w/\w < (((Xg s).n:Nat):Int)) then bif decide ((0:Int)<=(r:Int)/\(r:Int) < ((((Xg s).g (Int.toNat w)).1.n:Nat):Int)) then
    cl (r57).dflt (M57 ((((Xg s).g (Int.toNat w)).1.g r).1,u4)) (fun u5=>bif (!u5.1) then z else y) a else b else d) e else f else g)=y:=fun w hw a b d e f g z y=>by
   subst hw
   refine (aq (decide_eq_true (aQ (by omega)))).trans ?_
   refine (aq (decide_eq_true (dW hr))).trans ?_
   refine (bp (aVM hs h ht)).trans ?_
   refine (aq (decide_eq_true (aQ (by omega)))).trans ?_
   refine (aq (decide_eq_true (aQ hr))).trans ?_
   refine (aK m).trans ?_
   exact aR rfl
  unfold alj akS
  refine (key _ wp _ _ _ _ _ _ _ _).trans ?_
  exact congrArg (fun w:Int=>(RQ.next (show (aa acs).den from (w,())):RQ acs agd)) (dR hr (by omega))
 ·have key:∀ w:Int,w=(t:Int)->∀ (a b y:RQ acs agd),(bif decide ((0:Int)<=w/\w < (((Xg s).n:Nat):Int)) then bif decide (((((Xg s).g t).1.n:Nat):Int) < ((((Xg s).g (Int.toNat w)).1.n:Nat):Int)) then a else y else b)=y:=fun w hw a b y=>by
   subst hw
   refine (aq (decide_eq_true (aQ (by omega)))).trans ?_
   exact aR (decide_eq_false (by show ¬ (((((Xg s).g t).1.n:Nat):Int) < ((((Xg s).g t).1.n:Nat):Int)); omega))
  unfold alj akS
  exact key _ wp _ _ _
theorem aVQ (ho:Io s=true) (ha:Dg s=true) (h:Ov s A X Y D) (hL:aW A∈links (cB s)) :
  apL (c0,(c1,((),((),(Kt s,(Xg s,(c6,((),(s,(trT A X Y D,(c13,()))))))))))) ((1:Int),()) = .exit 0 ():=by
 have hs:=qP ho
 have WM:=eF hs
 have xU:0 < s.1.n:=hs.n1
 have hbn:=an3 s
 have hen:=aKx s
 unfold apL
 refine bQ (ps:=aeS) (s.1.n - 1) cz (fun j=>(((j + 1:Nat):Int),())) (by unfold cz; omega) (fun t ht'=>?_) ?_
 ·have ht:t + 1 < s.1.n:=by omega
  have wp:=wo (n:=s.1.n) (by omega) ht
  have q1:((((Kt s).g t).1.n:Nat):Int)=(((Cl s t).n:Nat):Int):=by rw [aFF ht,azj]; dsimp only; rw [PD]
  have q2:((((Xg s).g t).1.n:Nat):Int)=(((s.1.g t).2.1.n:Nat):Int):=by rw [aKy ht]; dsimp only; rw [PD]
  have key:∀ w:Int,w=(t:Int)->∀ (a b d e f z y:RQ aeS amx),(bif decide ((0:Int)<=w/\w < ((s.1.n:Nat):Int)) then
    cl (r31).dflt (M31 (Cl s t,((((s.1.g (t + 1)).2.1.n:Nat):Int),((((s.1.g (Int.toNat w)).2.1.n:Nat):Int),())))) (fun u7=>bif (!u7.1) then z else bif decide ((0:Int)<=w/\w < (((Kt s).n:Nat):Int)) then bif (!(decide (((((Kt s).g (Int.toNat w)).1.n:Nat):Int)=(((Cl s t).n:Nat):Int)))) then z else
    bif decide ((0:Int)<=w/\w < (((Xg s).n:Nat):Int)) then bif decide ((0:Int)<=w/\w < ((s.1.n:Nat):Int)) then bif (!(decide (((((Xg s).g (Int.toNat w)).1.n:Nat):Int)=(((s.1.g (Int.toNat w)).2.1.n:Nat):Int)))) then z else y else a else b else d) e else f)=y:=fun w hw a b d e f z y=>by
   subst hw
   refine (aq (decide_eq_true (aQ (n:=s.1.n) (by omega)))).trans ?_
   refine (aK (aKv hs ht)).trans ?_
   refine (aR rfl).trans ?_
   refine (aq (decide_eq_true (aQ (n:=(Kt s).n) (by omega)))).trans ?_
   refine (aR (nb q1)).trans ?_
   refine (aq (decide_eq_true (aQ (n:=(Xg s).n) (by omega)))).trans ?_
   refine (aq (decide_eq_true (aQ (n:=s.1.n) (by omega)))).trans ?_
   exact aR (nb q2)
  unfold apK apJ
  refine (aq (decide_eq_true (dW ht))).trans ?_
  refine (aK (aFx ho (abi hs).1 (abi hs).2 ha ht)).trans ?_
  refine (aR rfl).trans ?_
  refine (aq (decide_eq_true (aQ ht))).trans ?_
  refine (key _ wp _ _ _ _ _ _ _).trans ?_
  refine (bp (aVJ hs h hL ht)).trans ?_
  refine (bp (aVO hs h hL ht)).trans ?_
  exact congrArg (fun w:Int=>(RQ.next (show (aa aeS).den from (w,())):RQ aeS amx)) (dR (n:=s.1.n) (by omega) (by omega))
 ·unfold apK apJ
  have:¬ (((s.1.n - 1 + 1:Nat):Int) < ((s.1.n:Nat):Int)):=by omega
  exact aR (decide_eq_false this)
theorem aVR {P:cT} {p:Sl sR.den} (hn:P.n<=1000000) (hk:∀ j,j < P.n->(P.g j).1.n<=1000) (hp:aV p∈aW P) {T:tTr.den} :
  asP (c0,(c1,((),(P,((),(p,(T,(c13,())))))))) (false,((0:Int),())) = .exit 10 (true,()):=by
 let f:Nat->Bool:=fun j=>((aW P).take j).any fun x=>decide (x=aV p)
 have hf:f P.n=true:=by
  show ((aW P).take P.n).any _=true
  rw [List.take_of_length_le (by rw [dI]; omega),List.any_eq_true]
  exact ⟨_,hp,decide_eq_true rfl⟩
 rw [<- hf]
 unfold asP
 refine bQ (ps:=aev) P.n cz (fun j=>(f j,((j:Int),()))) (by unfold cz; omega) (fun j hj=>?_) ?_
 ·have hst:f (j + 1)=(f j || decide (aV (P.g j).1=aV p)):=by
   show ((aW P).take (j + 1)).any _=_
   rw [gu hj,List.any_append]
   show (f j || (decide (aV (P.g j).1=aV p) || false))=_
   rw [Bool.or_false]
  have nx:∀ {a b:Bool},a=b->(RQ.next (show (aa aev).den from (a,(W ((j:Int) + 1),()))):RQ aev amy) = .next (show (aa aev).den from (b,(((j + 1:Nat):Int),()))):=fun {a b} e=>by
   rw [e]
   exact congrArg (fun w:Int=>(RQ.next (show (aa aev).den from (b,(w,()))):RQ aev amy)) (dR hj (by omega))
  unfold apN apM
  refine (aq (decide_eq_true (dW hj))).trans ?_
  cases hb:f j with
  | true =>
   rw [hb,Bool.true_or] at hst
   exact (aq rfl).trans (nx hst.symm)
  | false =>
   rw [hb,Bool.false_or] at hst
   refine (aR rfl).trans ?_
   refine (aq (decide_eq_true (aQ hj))).trans ?_
   refine (aK (aCG (hk j hj))).trans ?_
   exact nx hst.symm
 ·unfold apN apM
  have:¬ (((P.n:Nat):Int) < ((P.n:Nat):Int)):=by omega
  exact aR (decide_eq_false this)
end
theorem aw5 (s:tS.den) (A X Y D:cT) (at' one:Int):M14 (s,(trT A X Y D,(at',(one,()))))=some (true,()):=by
 unfold M14 Q14
 obtain ⟨b,h1,h2⟩:=aau (s:=s)
 refine (aK h1).trans ?_
 cases b with
 | false=>exact (aq rfl).trans (aK eZ)
 | true =>
 refine (aR rfl).trans ?_
 obtain ⟨hn,hk⟩:=h2 rfl
 have hn':s.1.n<=1000:=by omega
 have hk':∀ t,t < s.1.n->(s.1.g t).2.1.n<=1000:=fun t ht=>by have:=hk t ht; omega
 obtain ⟨b2,h3,h4⟩:=aI0 (A:=A) (X:=X) (Y:=Y) (D:=D)
 refine (aK h3).trans ?_
 cases b2 with
 | false=>exact (aq rfl).trans (aK eZ)
 | true =>
 refine (aR rfl).trans ?_
 obtain ⟨hA,hX,hY,hD⟩:=h4 rfl
 refine (aK (JM hn' hk')).trans ?_
 cases ho:Io s with
 | false=>exact (aq rfl).trans (aK eZ)
 | true =>
 refine (aR rfl).trans ?_
 refine (aK (aI3 hA hX hY hD hk')).trans ?_
 cases htb:LS s A X Y D with
 | false=>exact (aq rfl).trans (aK eZ)
 | true =>
 refine (aR rfl).trans ?_
 refine (aK (aWw hn' at' one)).trans ?_
 cases hl:lowB s at' one with
 | false=>exact (aq rfl).trans (aK eZ)
 | true =>
 refine (aR rfl).trans ?_
 have h52:=aI7 (s:=s) hn' hk' hA hX hY hD
 rw [ho,htb] at h52
 refine (aK h52).trans ?_
 refine (aR rfl).trans ?_
 cases hfit:ati s A X Y D with
 | false=>exact (aq rfl).trans (aK eZ)
 | true =>
 refine (aR rfl).trans ?_
 have hs:=qP ho
 have WM:=eF hs
 have xU:0 < s.1.n:=hs.n1
 have htr:=VY htb
 have tru:=ab8 hs htr (by rw [<- ayX htr]; exact hfit)
 have ha:Dg s=true:=afN hs tru
 have hLA:aW A∈links (cB s):=(tX hs).2 tru.links
 obtain ⟨t,i,rfl,rfl,ht,hi⟩:=lowB_ex hn' hk' hl
 obtain ⟨P,m39,p1,p2⟩:=awX ho ha ht hi
 obtain ⟨hPn,hPk⟩:=amX hs (by omega) p1 p2
 obtain ⟨rows,m40,hrows⟩:=aBC ho ha
 have hne:links (cB s)≠[]:=List.ne_nil_of_mem hLA
 have hL:aW rows∈links (cB s):=by rw [hrows]; exact abZ hne
 have hmin:eP (aW rows)<=eP (aW A):=by rw [hrows]; exact afX hLA
 have Ml:=dN hs xU
 obtain ⟨g1,g2,g3,g4,g5⟩:=acj hs htr.a
 have wa:W ((((s.1.g 0).2.1.n:Nat):Int) + ((eP (aW A):Nat):Int))=(((s.1.g 0).2.1.n + eP (aW A):Nat):Int):=by rw [gQ ⟨by omega,by omega⟩]; omega
 have ha2:¬ (W ((((s.1.g 0).2.1.n:Nat):Int) + ((eP (aW A):Nat):Int)) < (((s.1.g 0).2.1.n + eP (aW rows):Nat):Int)):=by rw [wa]; omega
 have a0:(0:Int)<=0/\(0:Int) < ((s.1.n:Nat):Int):=by omega
 have hbn:=an3 s
 have hen:=aKx s
 have q3:(((Kt s).n:Nat):Int)=W (((s.1.n:Nat):Int) - 1):=by rw [hbn,wn1 hs]
 have q4:(((Xg s).n:Nat):Int)=(((Kt s).n:Nat):Int):=by rw [hbn,hen]
 obtain ⟨r,m58,e58⟩:=aLP hs hLA (t:=t) (i:=i) ht
 have hmem:aV r∈aW P:=(p2 _).2 ⟨_,hLA,e58⟩
 have abY:∀ a,a < 3->lo (ach (cB s) t i) a<=tvA X Y D t i a/\tvA X Y D t i a<=Low.hi (ach (cB s) t i) a:=fun a h3=>tru.where hs ht hi h3
 have w0:oV (ap X t i) (ach (cB s) t i).1 (ach (cB s) t i).2.1=true:=aeb (abY 0 (by omega)).1 (abY 0 (by omega)).2
 have w1:oV (ap Y t i) (ach (cB s) t i).2.2.1 (ach (cB s) t i).2.2.2.1=true:=aeb (abY 1 (by omega)).1 (abY 1 (by omega)).2
 have w2:oV (ap D t i) (ach (cB s) t i).2.2.2.2.1 (ach (cB s) t i).2.2.2.2.2.1=true:=aeb (abY 2 (by omega)).1 (abY 2 (by omega)).2
 have m0:=aio (ap X t i) (ach (cB s) t i).1 (ach (cB s) t i).2.1
 have m1:=aio (ap Y t i) (ach (cB s) t i).2.2.1 (ach (cB s) t i).2.2.2.1
 have m2:=aio (ap D t i) (ach (cB s) t i).2.2.2.2.1 (ach (cB s) t i).2.2.2.2.2.1
 rw [w0] at m0
 rw [w1] at m1
 rw [w2] at m2
 have x1:t < X.n:=by rw [htr.x.n]; exact ht
 have x2:i < (X.g t).1.n:=by rw [htr.x.k t ht]; exact hi
 have y1:t < Y.n:=by rw [htr.y.n]; exact ht
 have y2:i < (Y.g t).1.n:=by rw [htr.y.k t ht]; exact hi
 have d1:t < D.n:=by rw [htr.d.n]; exact ht
 have d2:i < (D.g t).1.n:=by rw [htr.d.k t ht]; exact hi
 refine (aK (au9 ho ha)).trans ?_
 refine (aK (aAB ho hn' hk' ha)).trans ?_
 refine (aK (aQy ho hn' hk' ha)).trans ?_
 refine (aK m39).trans ?_
 refine (aK (aKu ho ha ht hi)).trans ?_
 refine (aK m40).trans ?_
 refine (aR rfl).trans ((aR rfl).trans ((aR rfl).trans ((aR rfl).trans ((aR rfl).trans ((aR rfl).trans ?_)))))
 refine (aq (decide_eq_true a0)).trans ?_
 refine (aK (ao9 g3 g4 g5)).trans ?_
 refine (aR (decide_eq_false ha2)).trans ?_
 refine (aR (nb q3)).trans ?_
 refine (aR (nb q4)).trans ?_
 refine (bp (aVQ ho ha htr hLA)).trans ?_
 refine (aK m58).trans ?_
 refine (bp (aVR hPn hPk hmem)).trans ?_
 refine (aq rfl).trans ?_
 refine (aq (decide_eq_true (aQ x1))).trans ?_
 refine (aq (decide_eq_true (aQ x2))).trans ?_
 refine (aK m0).trans ?_
 refine (aq rfl).trans ?_
 refine (aq (decide_eq_true (aQ y1))).trans ?_
 refine (aq (decide_eq_true (aQ y2))).trans ?_
 refine (aK m1).trans ?_
 refine (aq rfl).trans ?_
 refine (aq (decide_eq_true (aQ d1))).trans ?_
 refine (aq (decide_eq_true (aQ d2))).trans ?_
 refine (aK m2).trans ?_
 refine (aq rfl).trans ?_
 exact aK eZ
theorem aY6 (x:(a14).den):M14 x=some (true,()):=by
 obtain ⟨s,⟨A,X,Y,D,⟨⟩⟩,at',one,⟨⟩⟩:=x
 exact aw5 s A X Y D at' one
end Go.Dm

/- The search hands on just what the plain one lists. -/
import Derived.Test.YtadkaccpacpklaaL10LP2
set_option linter.unusedVariables false
set_option linter.unusedSimpArgs false
namespace Go.Dm
set_option maxRecDepth 100000
open Go.Low
variable {s:tS.den} {L:LL} {r:List Int} {same:kA} {can:sq}
theorem Ck (j:Nat) (r:List Int):eY (j + 1) r=eY j r + (bif has r (j:Int) then 0 else 1):=by
 simp only [eY,List.range_succ,List.filter_append,List.length_append]
 congr 1
 cases h:has r (j:Int) <;> simp [h]
theorem aax (hs : (cB s).Ok) {R : (aa bq).den → Option (Ty.den (.cons (.sl fD) (aa (aj bq))))} {z : Sl fD.den} {born g0 : Int} {t k : Nat} (ht : t < same.n) (hk : k ≤ 3) (hn : (same.g t).n ≤ 3) (hg : 0 ≤ g0 ∧ g0 ≤ 1000) :
    Gy R (z, ((t : Int), (born, (s, ((), ((), ((), ((), ((k : Int), ((s, ()), (same, (can, ())))))))))))) (g0, ((0 : Int), (dx s, (((), ()), (((), ()), ()))))) =
      .exit 2 (g0 + (eY k (aV (same.g t)) : Nat), (dx s, (((), ()), (((), ()), ())))) := by
  unfold Gy
  have hm : ∀ j r, eY j r ≤ j := fun j r => by
    unfold eY
    exact Nat.le_trans (List.length_filter_le _ _) (by simp)
  have e0 : g0 + ((eY 0 (aV (same.g t)) : Nat) : Int) = g0 := by
    have : eY 0 (aV (same.g t)) = 0 := rfl
    rw [this]; omega
  have key : aH (xm R (z, ((t : Int), (born, (s, ((), ((), ((), ((), ((k : Int), ((s, ()), (same, (can, ()))))))))))))) cz (g0 + ((eY 0 (aV (same.g t)) : Nat) : Int), ((0 : Int), (dx s, (((), ()), (((), ()), ()))))) = .exit 2 (g0 + (eY k (aV (same.g t)) : Nat), (dx s, (((), ()), (((), ()), ())))) := by
   refine bQ (ps := gT) k cz (fun j => (g0 + ((eY j (aV (same.g t)) : Nat) : Int), ((j : Int), (dx s, (((), ()), (((), ()), ())))))) (by unfold cz; omega) (fun j hj => ?_) ?_
   · unfold xm Av
     have e : Int.toNat (t : Int) = t := rfl
     have e2 : (⟨(same.g t).n, fun i => (same.g t).g i⟩ : Sl sR.den) = same.g t := rfl
     have h3 := hm j (aV (same.g t))
     have h4 := Ck j (aV (same.g t))
     have h5 : (((j + 1 : Nat)) : Int) = (j : Int) + 1 := rfl
     simp only [decide_eq_true (dW hj), decide_eq_true (aQ ht), e, e2, cond_true, Wt _ (Nat.le_trans hn (by omega)), lK, h4]
     have w1 : W ((j : Int) + 1) = ((j + 1 : Nat) : Int) := by rw [gQ ⟨by omega, by omega⟩]; rfl
     have w2 : W (g0 + ((eY j (aV (same.g t)) : Nat) : Int) + 1) = g0 + ((eY j (aV (same.g t)) : Nat) : Int) + 1 := gQ ⟨by omega, by omega⟩
     cases has (aV (same.g t)) (j : Int) with
     | true => simp only [Bool.not_true, cond_false, cond_true, w1, Nat.add_zero]
     | false =>
       simp only [Bool.not_false, cond_false, cond_true, w1, w2]
       have : g0 + ((eY j (aV (same.g t)) + 1 : Nat) : Int) = g0 + ((eY j (aV (same.g t)) : Nat) : Int) + 1 := by omega
       rw [this]
   · unfold xm Av
     have : ¬ ((k : Int) < (k : Int)) := by omega
     simp only [decide_eq_false this, cond_false]
     try rfl
  rw [e0] at key
  exact key
theorem aay {R:(aa bq).den->Option (Ty.den (.cons (.sl fD) (aa (aj bq))))} {z:Sl fD.den} (hn:same.n<=4) (hk:∀ t,t < same.n->(same.g t).n<=3) :
    ∃ rows:cT,rows.n=same.n/\(∀ t,t < same.n->(rows.g t).1.n=(same.g t).n/\∀ i,i < (same.g t).n->(rows.g t).1.g i=(same.g t).g i) /\
    Gx R (z,(s,((),((),((),((),((),((),((same.n:Int),((s,()),(same,(can,())))))))))))) ((0:Int),(dx s,(((),()),(((),()),((s.1,(s.2.1,(s.2.2.1,(s.2.2.2.1,(s.2.2.2.2.1,((⟨0,fun i=>((⟨0,fun i=>((0:Int),())⟩:Sl _),())⟩:Sl _),())))))),()))))) =
      .exit 0 (dx s,(((),()),(((),()),((s.1,(s.2.1,(s.2.2.1,(s.2.2.2.1,(s.2.2.2.2.1,(rows,())))))),())))):=by
  unfold Gx
  obtain ⟨v,⟨rows,hv,h1,h2⟩,h3⟩:=jq (step:=xl R (z,(s,((),((),((),((),((),((),((same.n:Int),((s,()),(same,(can,()))))))))))))) (N:=cz)
    (P:=fun j v=>∃ rows:cT,v=((j:Int),(dx s,(((),()),(((),()),((s.1,(s.2.1,(s.2.2.1,(s.2.2.2.1,(s.2.2.2.2.1,(rows,())))))),())))))/\rows.n=j/\∀ t,t < j->(rows.g t).1.n=(same.g t).n/\∀ i,i < (same.g t).n->(rows.g t).1.g i=(same.g t).g i)
    (q:=fun v=>.exit 0 v.2) same.n (by unfold cz; omega) (fun j v hj hp=>by
      obtain ⟨rows,rfl,h1,h2⟩:=hp
      obtain ⟨y,y1,y2,y3⟩:=akh (⟨(same.g j).n,fun i=>(same.g j).g i⟩:Sl sR.den) (Nat.le_trans (hk j hj) (by omega))
      have h24:(rows.n + 1) * 24<=140737488355328:=by omega
      have e:Int.toNat (j:Int)=j:=rfl
      have w1:W ((j:Int) + 1)=((j + 1:Nat):Int):=by rw [gQ ⟨by omega,by omega⟩]; rfl
      refine ⟨(((j + 1:Nat):Int),(dx s,(((),()),(((),()),((s.1,(s.2.1,(s.2.2.1,(s.2.2.2.1,(s.2.2.2.2.1,(snoc rows (y,()),())))))),()))))),?_,snoc rows (y,()),rfl,by rw [IP,h1],fun t ht=>?_⟩
      · unfold xl Au
        simp only [decide_eq_true (dW hj),decide_eq_true (aQ hj),e,y1,lK,cond_true,decide_eq_true h24,w1]
        try rfl
      · by_cases e:t=j
        · subst e
          have:=Il rows (y,())
          rw [h1] at this
          rw [this]
          exact ⟨y2,fun i hi'=>y3 i hi'⟩
        · rw [Ik (by omega)]
          exact h2 t (by omega)) (fun v hp=>by
      obtain ⟨rows,rfl,h1,h2⟩:=hp
      unfold xl Au
      have:¬ ((same.n:Int) < (same.n:Int)):=by omega
      simp only [decide_eq_false this,cond_false]
      try rfl) ((0:Int),(dx s,(((),()),(((),()),((s.1,(s.2.1,(s.2.2.1,(s.2.2.2.1,(s.2.2.2.2.1,((⟨0,fun i=>((⟨0,fun i=>((0:Int),())⟩:Sl _),())⟩:Sl _),())))))),()))))) ⟨_,rfl,rfl,fun t ht=>by omega⟩
  refine ⟨rows,h1,h2,h3.trans ?_⟩
  rw [hv]
def st2 (z:Sl fD.den) (t i born gone:Int) (s:tS.den) (K b:Int) (same:kA) (can:sq):(aa fE).den:=
 (z,(t,(i,(born,(gone,(s,((),((),((),((),(K,(b,(dx s,(((),()),((s,()),(((),()),(same,(can,()))))))))))))))))))
def ex2 (z:Sl fD.den) (s:tS.den) (same:kA) (can:sq):(aa (dB qj 4)).den:=
 (z,(s,((),((),((),((),(dx s,(((),()),((s,()),(((),()),(same,(can,()))))))))))))
theorem Ob (hs:(cB s).Ok) (hh:Shape s L r) (hlt:L.length < s.1.n) (hr:r.length < (s.1.g L.length).2.1.n) {born gone:Int} {n:Nat}
    (ih:∀ b:Nat,b < (s.1.g (L.length - 1)).2.1.n->∀ z same can,Inv s L (r ++ [(b:Int)]) same can ->
      ∃ z' gz mF items,mD n (mkX z L.length ((r ++ [(b:Int)]).length:Nat) born gone s same can)=some (aav z' s gz mF)/\z'.list=z.list ++ items/\items.map toL=gen (cB s) n born gone L (r ++ [(b:Int)])/\(∀ it∈items,Good s it)/\Inv s L (r ++ [(b:Int)]) gz mF)
    (z:Sl fD.den) (hi':Inv s L r same can) :
    ∃ z' gz mF items,qg (mD n) (st2 z L.length r.length born gone s (((s.1.g (L.length - 1)).2.1.n:Nat):Int) 0 same can) = .exit 4 (ex2 z' s gz mF)/\z'.list=z.list ++ items /\
      items.map toL=(List.range (s.1.g (L.length - 1)).2.1.n).flatMap (fun b:Nat=>if has r (b:Int) then [] else
        if UY (inter ((cB s).box L.length r.length) (wide (cB s) (Low.can (cB s) L (L.length - 1) b) ((cB s).tm L.length - (cB s).tm (L.length - 1)))) then gen (cB s) n born gone L (r ++ [(b:Int)]) else [])/\(∀ it∈items,Good s it)/\Inv s L r gz mF:=by
  obtain ⟨t0,Rj⟩:∃ t,L.length=t + 1:=⟨L.length - 1,by have:=hh.pos; omega⟩
  have WM:=eF hs
  have Ml:=dN hs (t:=t0) (by omega)
  have hk1:=dN hs hlt
  have ht1:L.length - 1=t0:=by omega
  unfold qg
  obtain ⟨v,⟨z',gz,mF,items,hv,h1,h2,h3,h4⟩,h5⟩:=jq (step:=uL (mD n)) (N:=cz)
    (P:=fun j v=>∃ z' gz mF items,v=st2 z' L.length r.length born gone s (((s.1.g (L.length - 1)).2.1.n:Nat):Int) (j:Int) gz mF/\z'.list=z.list ++ items /\
      items.map toL=(List.range j).flatMap (fun b:Nat=>if has r (b:Int) then [] else
        if UY (inter ((cB s).box L.length r.length) (wide (cB s) (Low.can (cB s) L (L.length - 1) b) ((cB s).tm L.length - (cB s).tm (L.length - 1)))) then gen (cB s) n born gone L (r ++ [(b:Int)]) else [])/\(∀ it∈items,Good s it)/\Inv s L r gz mF)
    (q:=fun v=>.exit 4 (v.1,(v.2.2.2.2.2.1,((),((),((),((),(v.2.2.2.2.2.2.2.2.2.2.2.2.1,(((),()),(v.2.2.2.2.2.2.2.2.2.2.2.2.2.2.1,(((),()),v.2.2.2.2.2.2.2.2.2.2.2.2.2.2.2.2))))))))))) (s.1.g (L.length - 1)).2.1.n (by rw [ht1]; unfold cz; omega) (fun j v hj hp=>by
      obtain ⟨z1,oK,vF,AF,rfl,g1,g2,g3,g4⟩:=hp
      have hj3:j < 3:=by rw [ht1] at hj; omega
      have e0:Int.toNat (L.length:Int)=L.length:=rfl
      have e1:Int.toNat (r.length:Int)=r.length:=rfl
      have e2:Int.toNat (j:Int)=j:=rfl
      have w1:W ((j:Int) + 1)=((j + 1:Nat):Int):=by rw [gQ ⟨by omega,by omega⟩]; rfl
      have w2:W ((L.length:Int) - 1)=(t0:Int):=by rw [gQ ⟨by omega,by omega⟩]; omega
      have e3:Int.toNat (t0:Int)=t0:=rfl
      have w3:W ((r.length:Int) + 1)=((r.length + 1:Nat):Int):=by rw [gQ ⟨by omega,by omega⟩]; rfl
      have a1:(0:Int)<=(L.length:Int)/\(L.length:Int) < (oK.n:Int):=aQ (by rw [g4.sn]; exact hlt)
      have a1c:(0:Int)<=(L.length:Int)/\(L.length:Int) < (vF.n:Int):=aQ (by rw [g4.cn]; exact hlt)
      have hsk:=g4.sk L.length hlt
      have hck:=g4.ck L.length hlt
      have a2:(0:Int)<=(r.length:Int)/\(r.length:Int)<=((oK.g L.length).n:Int):=by omega
      have a3:(0:Int)<=(t0:Int)/\(t0:Int) < (vF.n:Int):=aQ (by rw [g4.cn]; omega)
      have a4:(0:Int)<=(j:Int)/\(j:Int) < ((vF.g t0).n:Int):=aQ (by rw [g4.ck t0 (by omega),<- ht1]; exact hj)
      have a5:(0:Int)<=(r.length:Int)/\(r.length:Int) < ((oK.g L.length).n:Int):=by omega
      have a6:(0:Int)<=(r.length:Int)/\(r.length:Int) < ((vF.g L.length).n:Int):=by omega
      have hj0:j < (s.1.g t0).2.1.n:=by rw [<- ht1]; exact hj
      have hcj:(vF.g t0).g j=Low.can (cB s) L t0 j:=g4.cL t0 (by omega) j hj0
      have hbx:vL (Low.can (cB s) L t0 j):=JN hs hh t0 j (by omega) hj0
      have hpre:=aaw g4
      have key:uL (mD n) (st2 z1 L.length r.length born gone s (((s.1.g (L.length - 1)).2.1.n:Nat):Int) (j:Int) oK vF) =
          bif has r (j:Int) then .next (st2 z1 L.length r.length born gone s (((s.1.g (L.length - 1)).2.1.n:Nat):Int) ((j + 1:Nat):Int) oK vF)
          else bif UY (inter ((s.1.g L.length).2.1.g r.length) (wide (cB s) (Low.can (cB s) L t0 j) (mT s L.length - mT s t0))) then
            (match mD n (mkX z1 L.length (r.length + 1:Nat) born gone s (bO oK L.length (bO (oK.g L.length) r.length ((j:Int),()))) (bO vF L.length (bO (vF.g L.length) r.length (inter ((s.1.g L.length).2.1.g r.length) (wide (cB s) (Low.can (cB s) L t0 j) (mT s L.length - mT s t0)))))) with
            | some u=>.next (u.1,((L.length:Int),((r.length:Int),(born,(gone,(s,((),((),((),((),((((s.1.g (L.length - 1)).2.1.n:Nat):Int),(((j + 1:Nat):Int),(u.2.1,(((),()),(u.2.2.2.1,(((),()),u.2.2.2.2.2)))))))))))))))) 
            | none=>.bad)
          else .next (st2 z1 L.length r.length born gone s (((s.1.g (L.length - 1)).2.1.n:Nat):Int) ((j + 1:Nat):Int) oK vF):=by
        unfold uL we st2
        have hM:=akg hs (t:=t0) (i:=r.length) (by omega) (by rw [<- Rj]; exact hr) hbx
        rw [<- Rj] at hM
        have eL:((dx s).1,((dx s).2.1,((dx s).2.2.1,((dx s).2.2.2.1,((dx s).2.2.2.2.1,((),()))))))=dx s:=rfl
        simp only [decide_eq_true (dW hj),decide_eq_true a1,decide_eq_true a2,e0,e1,e2,e3,w2,cond_true,Wt (⟨r.length,fun i=>(oK.g L.length).g i⟩:Sl sR.den) (show r.length<=140737488355328 by omega),hpre,lK,decide_eq_true a3,decide_eq_true a4,hcj,eL,hM]
        cases has r (j:Int) with
        | true=>simp only [cond_true,w1]; rfl
        | false =>
          simp only [cond_false]
          cases UY (inter ((s.1.g L.length).2.1.g r.length) (wide (cB s) (Low.can (cB s) L t0 j) (mT s L.length - mT s t0))) with
          | false=>simp only [cond_false,Bool.not_false,cond_true,w1]; rfl
          | true =>
            simp only [cond_true,Bool.not_true,cond_false,decide_eq_true a1c,decide_eq_true a5,decide_eq_true a6,w1,w3]
            generalize hF:mD n _=o
            have hF':mD n (mkX z1 L.length (r.length + 1:Nat) born gone s (bO oK L.length (bO (oK.g L.length) r.length ((j:Int),()))) (bO vF L.length (bO (vF.g L.length) r.length (inter ((s.1.g L.length).2.1.g r.length) (wide (cB s) (Low.can (cB s) L t0 j) (mT s L.length - mT s t0))))))=o:=hF
            rw [hF']
            cases o <;> rfl
      rw [key]
      have erg:∀ f:Nat->List LL,(List.range (j + 1)).flatMap f=(List.range j).flatMap f ++ f j:=fun f=>by rw [List.range_succ,List.flatMap_append]; simp
      cases hh1:has r (j:Int) with
      | true =>
        refine ⟨_,rfl,z1,oK,vF,AF,rfl,g1,?_,g3,g4⟩
        rw [erg,g2,hh1,if_pos rfl,List.append_nil]
      | false =>
        rw [cond_false]
        have NH:inter ((cB s).box L.length r.length) (wide (cB s) (Low.can (cB s) L (L.length - 1) j) ((cB s).tm L.length - (cB s).tm (L.length - 1)))=inter ((s.1.g L.length).2.1.g r.length) (wide (cB s) (Low.can (cB s) L t0 j) (mT s L.length - mT s t0)):=by rw [ht1]; rfl
        cases hne:UY (inter ((s.1.g L.length).2.1.g r.length) (wide (cB s) (Low.can (cB s) L t0 j) (mT s L.length - mT s t0))) with
        | false =>
          refine ⟨_,rfl,z1,oK,vF,AF,rfl,g1,?_,g3,g4⟩
          rw [erg,g2,hh1,NH,hne]
          simp
        | true =>
          have aaz:(r ++ [(j:Int)]).getD r.length (-1)=(j:Int):=by simp
          have aaA:=g4.push hh hlt hr (j:Int) (b:=inter ((s.1.g L.length).2.1.g r.length) (wide (cB s) (Low.can (cB s) L t0 j) (mT s L.length - mT s t0))) (by
            rw [qQ Rj,aaz,if_pos (by omega),e2,Rj]; rfl)
          obtain ⟨z2,JO,VU,FV,f1,f2,f3,f4,f5⟩:=ih j hj z1 _ _ aaA
          have hl2:(r ++ [(j:Int)]).length=r.length + 1:=by simp
          rw [hl2] at f1
          rw [cond_true,f1]
          refine ⟨_,rfl,z2,JO,VU,AF ++ FV,rfl,by rw [f2,g1,List.append_assoc],?_,fun it hit=>(List.mem_append.1 hit).elim (g3 it) (f4 it),f5.pop hh⟩
          rw [erg,List.map_append,g2,f3,hh1,NH,hne]
          simp) (fun v hp=>by
      obtain ⟨z1,oK,vF,AF,rfl,g1,g2,g3,g4⟩:=hp
      unfold uL we st2
      have:¬ ((((s.1.g (L.length - 1)).2.1.n:Nat):Int) < (((s.1.g (L.length - 1)).2.1.n:Nat):Int)):=by omega
      simp only [decide_eq_false this,cond_false]
      rfl) (st2 z L.length r.length born gone s (((s.1.g (L.length - 1)).2.1.n:Nat):Int) 0 same can) ⟨z,same,can,[],rfl,by simp,rfl,fun it hit=>by simp at hit,hi'⟩
  refine ⟨z',gz,mF,items,h5.trans ?_,h1,h2,h3,h4⟩
  rw [hv]
  rfl
end Go.Dm

/-
 Of the plain law.
-/
import Derived.Test.YtadkaccpacpklaaGreatL3ZP1
set_option linter.unusedVariables false
set_option linter.unusedSimpArgs false
namespace Go.Dm
set_option maxRecDepth 100000
open Go.Low
abbrev kA:=Sl (Sl sR.den)
abbrev sq:=Sl (Sl Py.den)
abbrev cT:=Sl (Ty.den (.cons (.sl sR) .nil))
def mkX (z:Sl fD.den) (t i born gone:Int) (s:tS.den) (same:kA) (can:sq):(aa bY).den:=
 (z,(t,(i,(born,(gone,(s,((),((),((),((),(dx s,(((),()),((s,()),(((),()),(same,(can,()))))))))))))))))
def aav (z:Sl fD.den) (s:tS.den) (same:kA) (can:sq):Ty.den (.cons (.sl fD) (aa (aj bY))):=
 (z,(dx s,(((),()),((s,()),(((),()),(same,(can,())))))))
def vw (s:tS.den) (rows:cT):fD.den:=((s.1,(s.2.1,(s.2.2.1,(s.2.2.2.1,(s.2.2.2.2.1,(rows,())))))),())
def aW (rows:cT):LL:=(List.range rows.n).map fun t=>aV (rows.g t).1
def toL (it:fD.den):LL:=aW it.1.2.2.2.2.2.1
structure Good (s:tS.den) (it:fD.den):Prop where
 eq:it=vw s it.1.2.2.2.2.2.1
 n:it.1.2.2.2.2.2.1.n=s.1.n
 k:∀ t,t < s.1.n->(it.1.2.2.2.2.2.1.g t).1.n=(s.1.g t).2.1.n
structure Shape (s:tS.den) (L:LL) (r:List Int):Prop where
 pos:0 < L.length
 le:L.length<=s.1.n
 len:∀ t,t < L.length->(L.getD t []).length=(s.1.g t).2.1.n
 val:∀ (t i:Nat) x,t + 1 < L.length->(L.getD (t + 1) [])[i]? = some x->x = -1\/(0<=x/\x.toNat < (s.1.g t).2.1.n)
 asN:L.length < s.1.n->r.length<=(s.1.g L.length).2.1.n
 r0:L.length=s.1.n->r=[]
 rval:∀ (i:Nat) x,r[i]? = some x->x = -1\/(0<=x/\x.toNat < (s.1.g (L.length - 1)).2.1.n)
structure Inv (s:tS.den) (L:LL) (r:List Int) (same:kA) (can:sq):Prop where
 sn:same.n=s.1.n
 cn:can.n=s.1.n
 sk:∀ t,t < s.1.n->(same.g t).n=(s.1.g t).2.1.n
 ck:∀ t,t < s.1.n->(can.g t).n=(s.1.g t).2.1.n
 sL:∀ t,t < L.length->∀ i,i < (s.1.g t).2.1.n->(show Int from ((same.g t).g i).1)=qR L t i
 sr:∀ i,i < r.length->(show Int from ((same.g L.length).g i).1)=r.getD i (-1)
 cL:∀ t,t < L.length->∀ i,i < (s.1.g t).2.1.n->(can.g t).g i=Low.can (cB s) L t i
 cr:∀ i,i < r.length->(can.g L.length).g i=Low.can (cB s) (L ++ [r]) L.length i
variable {s:tS.den} {L:LL} {r:List Int} {same:kA} {can:sq}
theorem qQ {p:PS} {t i:Nat} (ht:L.length=t + 1):Low.can p (L ++ [r]) L.length i=if 0<=r.getD i (-1) then inter (p.box (t + 1) i) (wide p (Low.can p L t (r.getD i (-1)).toNat) (p.tm (t + 1) - p.tm t)) else p.box (t + 1) i:=by
 have h:=qN (L:=L) (r:=r) (i:=i)
 rw [ht] at h ⊢
 simp only [Low.can,h]
 rw [zi (by omega)]
theorem lE (hs:(cB s).Ok) {t i:Nat} (ht:t < s.1.n) (hi':i < (s.1.g t).2.1.n):vL ((s.1.g t).2.1.g i):=fun a ha=>by
 have h:0<=lo ((s.1.g t).2.1.g i) a/\lo ((s.1.g t).2.1.g i) a<=hi ((s.1.g t).2.1.g i) a/\hi ((s.1.g t).2.1.g i) a<=99999:=hs.box t i ht hi' a ha
 omega
theorem Oa (hs:(cB s).Ok) {b c:B6} (hb:vL b) (hc:vL c) {h:Int} (h0:0<=h):vL (inter b (wide (cB s) c h)):=fun a ha=>by
 have q1:=hb a ha
 have q2:=hc a ha
 have:=Int.mul_nonneg (hs.dV a) h0
 rw [uR,uS,AX,AY]
 omega
theorem JN (hs:(cB s).Ok) (hh:Shape s L r):∀ t i,t < L.length->i < (s.1.g t).2.1.n->vL (Low.can (cB s) L t i)
 | 0,i,ht,hi'=>lE hs (by have:=hh.le; omega) hi'
 | t + 1,i,ht,hi'=>by
  simp only [Low.can]
  have hN:=hh.le
  split
  ·rename_i h0
   have h1:=hh.len (t + 1) ht
   have hl:qR L (t + 1) i=(L.getD (t + 1) []).getD i (-1):=rfl
   rw [List.getD_eq_getElem?_getD,List.getElem?_eq_getElem (by rw [h1]; exact hi')] at hl
   have hv:=hh.val t i _ ht (List.getElem?_eq_getElem (by rw [h1]; exact hi'))
   have hl:qR L (t + 1) i=(L.getD (t + 1) [])[i]'(by rw [h1]; exact hi'):=hl
   rw [<- hl] at hv
   refine Oa hs (lE hs (by omega) hi') (JN hs hh t _ (by omega) ?_) ?_
   ·rcases hv with hv | hv
    ·omega
    ·exact hv.2
   ·have:=hs.tm t (show t + 1 < s.1.n by omega); omega
  ·exact lE hs (by omega) hi'
theorem fq {α:Type} (a:Sl α) (i:Nat) (x:α):(bO a i x).g i=x:=by simp [bO]
theorem gy {α:Type} (a:Sl α) {i j:Nat} (h:j≠i) (x:α):(bO a i x).g j=a.g j:=by
 have:Nat.beq j i=false:=by
  cases e:Nat.beq j i with
  | false=>rfl
  | true=>exact absurd (Nat.eq_of_beq_eq_true e) h
 simp [bO,this]
theorem Inv.push (h:Inv s L r same can) (hh:Shape s L r) (hlt:L.length < s.1.n) (hr:r.length < (s.1.g L.length).2.1.n) (c:Int) {b:B6}
  (hb:b=Low.can (cB s) (L ++ [r ++ [c]]) L.length r.length) :
  Inv s L (r ++ [c]) (bO same L.length (bO (same.g L.length) r.length (c,()))) (bO can L.length (bO (can.g L.length) r.length b)):=by
 have hpos:=hh.pos
 obtain ⟨t0,Rj⟩:∃ t,L.length=t + 1:=⟨L.length - 1,by omega⟩
 refine ⟨h.sn,h.cn,fun t ht=>?_,fun t ht=>?_,fun t ht i hi'=>?_,fun i hi'=>?_,fun t ht i hi'=>?_,fun i hi'=>?_⟩
 ·by_cases e:t=L.length
  ·subst e; rw [fq]; exact h.sk _ ht
  ·rw [gy _ e]; exact h.sk _ ht
 ·by_cases e:t=L.length
  ·subst e; rw [fq]; exact h.ck _ ht
  ·rw [gy _ e]; exact h.ck _ ht
 ·rw [gy _ (by omega)]; exact h.sL t ht i hi'
 ·rw [fq]
  by_cases e:i=r.length
  ·subst e; rw [fq]; simp
  ·rw [gy _ e]
   have hi2:i < r.length:=by simp at hi'; omega
   rw [h.sr i hi2]
   simp only [List.getD_eq_getElem?_getD]; rw [List.getElem?_append_left hi2]
 ·rw [gy _ (by omega)]; exact h.cL t ht i hi'
 ·rw [fq]
  by_cases e:i=r.length
  ·subst e; rw [fq]; exact hb
  ·rw [gy _ e]
   have hi2:i < r.length:=by simp at hi'; omega
   rw [h.cr i hi2,qQ Rj,qQ Rj]
   have:(r ++ [c]).getD i (-1)=r.getD i (-1):=by
    simp only [List.getD_eq_getElem?_getD]; rw [List.getElem?_append_left hi2]
   rw [this]
theorem Inv.pop {c:Int} (h:Inv s L (r ++ [c]) same can) (hh:Shape s L r):Inv s L r same can:=by
 have hpos:=hh.pos
 obtain ⟨t0,Rj⟩:∃ t,L.length=t + 1:=⟨L.length - 1,by omega⟩
 have e:∀ i,i < r.length->(r ++ [c]).getD i (-1)=r.getD i (-1):=fun i hi'=>by
  simp only [List.getD_eq_getElem?_getD]; rw [List.getElem?_append_left hi']
 refine ⟨h.sn,h.cn,h.sk,h.ck,h.sL,fun i hi'=>?_,h.cL,fun i hi'=>?_⟩
 ·rw [h.sr i (by simp; omega),e i hi']
 ·rw [h.cr i (by simp; omega),qQ Rj,qQ Rj,e i hi']
theorem Inv.row (h:Inv s L r same can) (hh:Shape s L r) (hlt:L.length < s.1.n) (hr:r.length=(s.1.g L.length).2.1.n):Inv s (L ++ [r]) [] same can:=by
 have hlen:(L ++ [r]).length=L.length + 1:=by simp
 refine ⟨h.sn,h.cn,h.sk,h.ck,fun t ht i hi'=>?_,fun i hi'=>by simp at hi',fun t ht i hi'=>?_,fun i hi'=>by simp at hi'⟩
 ·rw [hlen] at ht
  by_cases e:t=L.length
  ·subst e; rw [qN]; exact h.sr i (by omega)
  ·rw [Eo (by omega)]; exact h.sL t (by omega) i hi'
 ·rw [hlen] at ht
  by_cases e:t=L.length
  ·subst e; exact h.cr i (by omega)
  ·rw [zi (by omega)]; exact h.cL t (by omega) i hi'
theorem Inv.asO (h:Inv s (L ++ [r]) [] same can) (hr:r.length=(s.1.g L.length).2.1.n):Inv s L r same can:=by
 have hlen:(L ++ [r]).length=L.length + 1:=by simp
 refine ⟨h.sn,h.cn,h.sk,h.ck,fun t ht i hi'=>?_,fun i hi'=>?_,fun t ht i hi'=>?_,fun i hi'=>?_⟩
 ·rw [h.sL t (by omega) i hi',Eo ht]
 ·rw [h.sL L.length (by omega) i (by omega),qN]
 ·rw [h.cL t (by omega) i hi',zi ht]
 ·exact h.cL L.length (by omega) i (by omega)
theorem Shape.row (hh:Shape s L r) (hlt:L.length < s.1.n) (hr:r.length=(s.1.g L.length).2.1.n):Shape s (L ++ [r]) []:=by
 have hlen:(L ++ [r]).length=L.length + 1:=by simp
 refine ⟨by omega,by omega,fun t ht=>?_,fun t i x ht hx=>?_,fun _=>Nat.zero_le _,fun _=>rfl,fun i x hx=>by simp at hx⟩
 ·rw [hlen] at ht
  by_cases e:t=L.length
  ·subst e; rw [jo]; exact hr
  ·rw [ku (by omega)]; exact hh.len t (by omega)
 ·rw [hlen] at ht
  by_cases e:t + 1=L.length
  ·rw [e,jo] at hx
   have:=hh.rval i x hx
   rwa [<- e,Nat.add_sub_cancel] at this
  ·rw [ku (by omega)] at hx; exact hh.val t i x (by omega) hx
theorem Shape.push (hh:Shape s L r) (hlt:L.length < s.1.n) (hr:r.length < (s.1.g L.length).2.1.n) {c:Int} (hc:c = -1\/(0<=c/\c.toNat < (s.1.g (L.length - 1)).2.1.n)):Shape s L (r ++ [c]):=by
 refine ⟨hh.pos,hh.le,hh.len,hh.val,fun _=>by simp; omega,fun h=>by omega,fun i x hx=>?_⟩
 by_cases e:i < r.length
 ·rw [List.getElem?_append_left e] at hx; exact hh.rval i x hx
 ·rw [List.getElem?_append_right (by omega)] at hx
  have:=(List.getElem?_eq_some_iff.1 hx).1
  have:i - r.length=0:=by simp at this; omega
  rw [this] at hx
  cases hx
  exact hc
theorem vE {a:Sl sR.den} {l:List Int} (hn:a.n=l.length) (h:∀ i,i < a.n->(a.g i).1=l.getD i (-1)):aV a=l:=by
 apply List.ext_getElem?
 intro i
 rw [gR]
 split
 ·rename_i hi'
  rw [h i hi',List.getD_eq_getElem?_getD,List.getElem?_eq_getElem (by omega)]; rfl
 ·rw [List.getElem?_eq_none (by omega)]
theorem aaw (h:Inv s L r same can):aV (⟨r.length,fun i=>(same.g L.length).g i⟩:Sl sR.den)=r:=vE rfl fun i hi'=>h.sr i hi'
theorem dN (hs:(cB s).Ok) {t:Nat} (ht:t < s.1.n):(s.1.g t).2.1.n<=3:=hs.k t ht
theorem eF (hs:(cB s).Ok):s.1.n<=4:=hs.n4
theorem baS (x:Sl sR.den) (hx:x.n<=1000):∃ z,R64 (no_index (x,()))=some z/\z.n=x.n/\∀ i,i < x.n->z.g i=x.g i:=by
 unfold R64 X64
 simp only []
 have h8:x.n * 8<=140737488355328:=by omega
 rw [decide_eq_true h8]
 cases hb:Nat.blt 0 x.n with
 | true=>exact ⟨x,rfl,rfl,fun _ _=>rfl⟩
 | false =>
  have h0:x.n=0:=by
   cases hn:x.n with
   | zero=>rfl
   | succ n=>rw [hn] at hb; cases hb
  refine ⟨⟨0,fun _=>Ty.dflt sR⟩,?_,h0.symm,fun i hi'=>by omega⟩
  show anC (some ⟨0,fun i=>((0:Int),())⟩) (some x)=_
  simp [anC,h0]
end Go.Dm
namespace Go.Dm
set_option maxRecDepth 100000
open Go.Low
variable {s:tS.den} {L:LL} {r:List Int} {same:kA} {can:sq}
theorem Ck (j:Nat) (r:List Int):eY (j + 1) r=eY j r + (bif has r (j:Int) then 0 else 1):=by
 simp only [eY,List.range_succ,List.filter_append,List.length_append]
 congr 1
 cases h:has r (j:Int) <;> simp [h]
theorem aPb (hs : (cB s).Ok) {R : (aa bY).den → Option (Ty.den (.cons (.sl fD) (aa (aj bY))))} {z : Sl fD.den} {born g0 : Int} {t k : Nat} (ht : t < same.n) (hk : k ≤ 3) (hn : (same.g t).n ≤ 3) (hg : 0 ≤ g0 ∧ g0 ≤ 1000) :
    aKS R (z, ((t : Int), (born, (s, ((), ((), ((), ((), ((k : Int), ((s, ()), (same, (can, ())))))))))))) (g0, ((0 : Int), (dx s, (((), ()), (((), ()), ()))))) =
      .exit 2 (g0 + (eY k (aV (same.g t)) : Nat), (dx s, (((), ()), (((), ()), ())))) := by
  unfold aKS
  have hm : ∀ j r, eY j r ≤ j := fun j r => by
    unfold eY
    exact Nat.le_trans (List.length_filter_le _ _) (by simp)
  have e0 : g0 + ((eY 0 (aV (same.g t)) : Nat) : Int) = g0 := by
    have : eY 0 (aV (same.g t)) = 0 := rfl
    rw [this]; omega
  have key : aH (aES R (z, ((t : Int), (born, (s, ((), ((), ((), ((), ((k : Int), ((s, ()), (same, (can, ()))))))))))))) cz (g0 + ((eY 0 (aV (same.g t)) : Nat) : Int), ((0 : Int), (dx s, (((), ()), (((), ()), ()))))) = .exit 2 (g0 + (eY k (aV (same.g t)) : Nat), (dx s, (((), ()), (((), ()), ())))) := by
   refine bQ (ps := apl) k cz (fun j => (g0 + ((eY j (aV (same.g t)) : Nat) : Int), ((j : Int), (dx s, (((), ()), (((), ()), ())))))) (by unfold cz; omega) (fun j hj => ?_) ?_
   · unfold aES aFT
     have e : Int.toNat (t : Int) = t := rfl
     have e2 : (⟨(same.g t).n, fun i => (same.g t).g i⟩ : Sl sR.den) = same.g t := rfl
     have h3 := hm j (aV (same.g t))
     have h4 := Ck j (aV (same.g t))
     have h5 : (((j + 1 : Nat)) : Int) = (j : Int) + 1 := rfl
     simp only [decide_eq_true (dW hj), decide_eq_true (aQ ht), e, e2, cond_true, aQv _ (Nat.le_trans hn (by omega)), lK, h4]
     have w1 : W ((j : Int) + 1) = ((j + 1 : Nat) : Int) := by rw [gQ ⟨by omega, by omega⟩]; rfl
     have w2 : W (g0 + ((eY j (aV (same.g t)) : Nat) : Int) + 1) = g0 + ((eY j (aV (same.g t)) : Nat) : Int) + 1 := gQ ⟨by omega, by omega⟩
     cases has (aV (same.g t)) (j : Int) with
     | true => simp only [Bool.not_true, cond_false, cond_true, w1, Nat.add_zero]
     | false =>
       simp only [Bool.not_false, cond_false, cond_true, w1, w2]
       have : g0 + ((eY j (aV (same.g t)) + 1 : Nat) : Int) = g0 + ((eY j (aV (same.g t)) : Nat) : Int) + 1 := by omega
       rw [this]
   · unfold aES aFT
     have : ¬ ((k : Int) < (k : Int)) := by omega
     simp only [decide_eq_false this, cond_false]
     try rfl
  rw [e0] at key
  exact key
theorem aPe {R:(aa bY).den->Option (Ty.den (.cons (.sl fD) (aa (aj bY))))} {z:Sl fD.den} (hn:same.n<=4) (hk:∀ t,t < same.n->(same.g t).n<=3) :
    ∃ rows:cT,rows.n=same.n/\(∀ t,t < same.n->(rows.g t).1.n=(same.g t).n/\∀ i,i < (same.g t).n->(rows.g t).1.g i=(same.g t).g i) /\
    aKP R (z,(s,((),((),((),((),((),((),((same.n:Int),((s,()),(same,(can,())))))))))))) ((0:Int),(dx s,(((),()),(((),()),((s.1,(s.2.1,(s.2.2.1,(s.2.2.2.1,(s.2.2.2.2.1,((⟨0,fun i=>((⟨0,fun i=>((0:Int),())⟩:Sl _),())⟩:Sl _),())))))),()))))) =
      .exit 0 (dx s,(((),()),(((),()),((s.1,(s.2.1,(s.2.2.1,(s.2.2.2.1,(s.2.2.2.2.1,(rows,())))))),())))):=by
  unfold aKP
  obtain ⟨v,⟨rows,hv,h1,h2⟩,h3⟩:=jq (step:=aER R (z,(s,((),((),((),((),((),((),((same.n:Int),((s,()),(same,(can,()))))))))))))) (N:=cz)
    (P:=fun j v=>∃ rows:cT,v=((j:Int),(dx s,(((),()),(((),()),((s.1,(s.2.1,(s.2.2.1,(s.2.2.2.1,(s.2.2.2.2.1,(rows,())))))),())))))/\rows.n=j/\∀ t,t < j->(rows.g t).1.n=(same.g t).n/\∀ i,i < (same.g t).n->(rows.g t).1.g i=(same.g t).g i)
    (q:=fun v=>.exit 0 v.2) same.n (by unfold cz; omega) (fun j v hj hp=>by
      obtain ⟨rows,rfl,h1,h2⟩:=hp
      obtain ⟨y,y1,y2,y3⟩:=baS (⟨(same.g j).n,fun i=>(same.g j).g i⟩:Sl sR.den) (Nat.le_trans (hk j hj) (by omega))
      have aDq:(rows.n + 1) * 24<=140737488355328:=by omega
      have e:Int.toNat (j:Int)=j:=rfl
      have w1:W ((j:Int) + 1)=((j + 1:Nat):Int):=by rw [gQ ⟨by omega,by omega⟩]; rfl
      refine ⟨(((j + 1:Nat):Int),(dx s,(((),()),(((),()),((s.1,(s.2.1,(s.2.2.1,(s.2.2.2.1,(s.2.2.2.2.1,(snoc rows (y,()),())))))),()))))),?_,snoc rows (y,()),rfl,by rw [IP,h1],fun t ht=>?_⟩
      · unfold aER aFS
        simp only [decide_eq_true (dW hj),decide_eq_true (aQ hj),e,y1,lK,cond_true,decide_eq_true aDq,w1]
        try rfl
      · by_cases e:t=j
        · subst e
          have:=Il rows (y,())
          rw [h1] at this
          rw [this]
          exact ⟨y2,fun i hi'=>y3 i hi'⟩
        · rw [Ik (by omega)]
          exact h2 t (by omega)) (fun v hp=>by
      obtain ⟨rows,rfl,h1,h2⟩:=hp
      unfold aER aFS
      have:¬ ((same.n:Int) < (same.n:Int)):=by omega
      simp only [decide_eq_false this,cond_false]
      try rfl) ((0:Int),(dx s,(((),()),(((),()),((s.1,(s.2.1,(s.2.2.1,(s.2.2.2.1,(s.2.2.2.2.1,((⟨0,fun i=>((⟨0,fun i=>((0:Int),())⟩:Sl _),())⟩:Sl _),())))))),()))))) ⟨_,rfl,rfl,fun t ht=>by omega⟩
  refine ⟨rows,h1,h2,h3.trans ?_⟩
  rw [hv]
def st2 (z:Sl fD.den) (t i born gone:Int) (s:tS.den) (K b:Int) (same:kA) (can:sq):(aa amT).den:=
 (z,(t,(i,(born,(gone,(s,((),((),((),((),(K,(b,(dx s,(((),()),((s,()),(((),()),(same,(can,()))))))))))))))))))
def ex2 (z:Sl fD.den) (s:tS.den) (same:kA) (can:sq):(aa (dB aC4 4)).den:=
 (z,(s,((),((),((),((),(dx s,(((),()),((s,()),(((),()),(same,(can,()))))))))))))
theorem aLw (hs:(cB s).Ok) (hh:Shape s L r) (hlt:L.length < s.1.n) (hr:r.length < (s.1.g L.length).2.1.n) {born gone:Int} {n:Nat}
    (ih:∀ b:Nat,b < (s.1.g (L.length - 1)).2.1.n->∀ z same can,Inv s L (r ++ [(b:Int)]) same can ->
      ∃ z' gz mF items,F63 n (mkX z L.length ((r ++ [(b:Int)]).length:Nat) born gone s same can)=some (aav z' s gz mF)/\z'.list=z.list ++ items/\items.map toL=gen (cB s) n born gone L (r ++ [(b:Int)])/\(∀ it∈items,Good s it)/\Inv s L (r ++ [(b:Int)]) gz mF)
    (z:Sl fD.den) (hi':Inv s L r same can) :
    ∃ z' gz mF items,aDk (F63 n) (st2 z L.length r.length born gone s (((s.1.g (L.length - 1)).2.1.n:Nat):Int) 0 same can) = .exit 4 (ex2 z' s gz mF)/\z'.list=z.list ++ items /\
      items.map toL=(List.range (s.1.g (L.length - 1)).2.1.n).flatMap (fun b:Nat=>if has r (b:Int) then [] else
        if UY (inter ((cB s).box L.length r.length) (wide (cB s) (Low.can (cB s) L (L.length - 1) b) ((cB s).tm L.length - (cB s).tm (L.length - 1)))) then gen (cB s) n born gone L (r ++ [(b:Int)]) else [])/\(∀ it∈items,Good s it)/\Inv s L r gz mF:=by
  obtain ⟨t0,Rj⟩:∃ t,L.length=t + 1:=⟨L.length - 1,by have:=hh.pos; omega⟩
  have WM:=eF hs
  have Ml:=dN hs (t:=t0) (by omega)
  have hk1:=dN hs hlt
  have ht1:L.length - 1=t0:=by omega
  unfold aDk
  obtain ⟨v,⟨z',gz,mF,items,hv,h1,h2,h3,h4⟩,h5⟩:=jq (step:=aEn (F63 n)) (N:=cz)
    (P:=fun j v=>∃ z' gz mF items,v=st2 z' L.length r.length born gone s (((s.1.g (L.length - 1)).2.1.n:Nat):Int) (j:Int) gz mF/\z'.list=z.list ++ items /\
      items.map toL=(List.range j).flatMap (fun b:Nat=>if has r (b:Int) then [] else
        if UY (inter ((cB s).box L.length r.length) (wide (cB s) (Low.can (cB s) L (L.length - 1) b) ((cB s).tm L.length - (cB s).tm (L.length - 1)))) then gen (cB s) n born gone L (r ++ [(b:Int)]) else [])/\(∀ it∈items,Good s it)/\Inv s L r gz mF)
    (q:=fun v=>.exit 4 (v.1,(v.2.2.2.2.2.1,((),((),((),((),(v.2.2.2.2.2.2.2.2.2.2.2.2.1,(((),()),(v.2.2.2.2.2.2.2.2.2.2.2.2.2.2.1,(((),()),v.2.2.2.2.2.2.2.2.2.2.2.2.2.2.2.2))))))))))) (s.1.g (L.length - 1)).2.1.n (by rw [ht1]; unfold cz; omega) (fun j v hj hp=>by
      obtain ⟨z1,oK,vF,AF,rfl,g1,g2,g3,g4⟩:=hp
      have hj3:j < 3:=by rw [ht1] at hj; omega
      have e0:Int.toNat (L.length:Int)=L.length:=rfl
      have e1:Int.toNat (r.length:Int)=r.length:=rfl
      have e2:Int.toNat (j:Int)=j:=rfl
      have w1:W ((j:Int) + 1)=((j + 1:Nat):Int):=by rw [gQ ⟨by omega,by omega⟩]; rfl
      have w2:W ((L.length:Int) - 1)=(t0:Int):=by rw [gQ ⟨by omega,by omega⟩]; omega
      have e3:Int.toNat (t0:Int)=t0:=rfl
      have w3:W ((r.length:Int) + 1)=((r.length + 1:Nat):Int):=by rw [gQ ⟨by omega,by omega⟩]; rfl
      have a1:(0:Int)<=(L.length:Int)/\(L.length:Int) < (oK.n:Int):=aQ (by rw [g4.sn]; exact hlt)
      have a1c:(0:Int)<=(L.length:Int)/\(L.length:Int) < (vF.n:Int):=aQ (by rw [g4.cn]; exact hlt)
      have hsk:=g4.sk L.length hlt
      have hck:=g4.ck L.length hlt
      have a2:(0:Int)<=(r.length:Int)/\(r.length:Int)<=((oK.g L.length).n:Int):=by omega
      have a3:(0:Int)<=(t0:Int)/\(t0:Int) < (vF.n:Int):=aQ (by rw [g4.cn]; omega)
      have a4:(0:Int)<=(j:Int)/\(j:Int) < ((vF.g t0).n:Int):=aQ (by rw [g4.ck t0 (by omega),<- ht1]; exact hj)
      have a5:(0:Int)<=(r.length:Int)/\(r.length:Int) < ((oK.g L.length).n:Int):=by omega
      have a6:(0:Int)<=(r.length:Int)/\(r.length:Int) < ((vF.g L.length).n:Int):=by omega
      have hj0:j < (s.1.g t0).2.1.n:=by rw [<- ht1]; exact hj
      have hcj:(vF.g t0).g j=Low.can (cB s) L t0 j:=g4.cL t0 (by omega) j hj0
      have hbx:vL (Low.can (cB s) L t0 j):=JN hs hh t0 j (by omega) hj0
      have hpre:=aaw g4
      have key:aEn (F63 n) (st2 z1 L.length r.length born gone s (((s.1.g (L.length - 1)).2.1.n:Nat):Int) (j:Int) oK vF) =
          bif has r (j:Int) then .next (st2 z1 L.length r.length born gone s (((s.1.g (L.length - 1)).2.1.n:Nat):Int) ((j + 1:Nat):Int) oK vF)
          else bif UY (inter ((s.1.g L.length).2.1.g r.length) (wide (cB s) (Low.can (cB s) L t0 j) (mT s L.length - mT s t0))) then
            (match F63 n (mkX z1 L.length (r.length + 1:Nat) born gone s (bO oK L.length (bO (oK.g L.length) r.length ((j:Int),()))) (bO vF L.length (bO (vF.g L.length) r.length (inter ((s.1.g L.length).2.1.g r.length) (wide (cB s) (Low.can (cB s) L t0 j) (mT s L.length - mT s t0)))))) with
            | some u=>.next (u.1,((L.length:Int),((r.length:Int),(born,(gone,(s,((),((),((),((),((((s.1.g (L.length - 1)).2.1.n:Nat):Int),(((j + 1:Nat):Int),(u.2.1,(((),()),(u.2.2.2.1,(((),()),u.2.2.2.2.2)))))))))))))))) 
            | none=>.bad)
          else .next (st2 z1 L.length r.length born gone s (((s.1.g (L.length - 1)).2.1.n:Nat):Int) ((j + 1:Nat):Int) oK vF):=by
        unfold aEn aET st2
        have hM:=aQw hs (t:=t0) (i:=r.length) (by omega) (by rw [<- Rj]; exact hr) hbx
        rw [<- Rj] at hM
        have eL:((dx s).1,((dx s).2.1,((dx s).2.2.1,((dx s).2.2.2.1,((dx s).2.2.2.2.1,((),()))))))=dx s:=rfl
        simp only [decide_eq_true (dW hj),decide_eq_true a1,decide_eq_true a2,e0,e1,e2,e3,w2,cond_true,aQv (⟨r.length,fun i=>(oK.g L.length).g i⟩:Sl sR.den) (show r.length<=140737488355328 by omega),hpre,lK,decide_eq_true a3,decide_eq_true a4,hcj,eL,hM]
        cases has r (j:Int) with
        | true=>simp only [cond_true,w1]; rfl
        | false =>
          simp only [cond_false]
          cases UY (inter ((s.1.g L.length).2.1.g r.length) (wide (cB s) (Low.can (cB s) L t0 j) (mT s L.length - mT s t0))) with
          | false=>simp only [cond_false,Bool.not_false,cond_true,w1]; rfl
          | true =>
            simp only [cond_true,Bool.not_true,cond_false,decide_eq_true a1c,decide_eq_true a5,decide_eq_true a6,w1,w3]
            generalize hF:F63 n _=o
            have hF':F63 n (mkX z1 L.length (r.length + 1:Nat) born gone s (bO oK L.length (bO (oK.g L.length) r.length ((j:Int),()))) (bO vF L.length (bO (vF.g L.length) r.length (inter ((s.1.g L.length).2.1.g r.length) (wide (cB s) (Low.can (cB s) L t0 j) (mT s L.length - mT s t0))))))=o:=hF
            rw [hF']
            cases o <;> rfl
      rw [key]
      have erg:∀ f:Nat->List LL,(List.range (j + 1)).flatMap f=(List.range j).flatMap f ++ f j:=fun f=>by rw [List.range_succ,List.flatMap_append]; simp
      cases hh1:has r (j:Int) with
      | true =>
        refine ⟨_,rfl,z1,oK,vF,AF,rfl,g1,?_,g3,g4⟩
        rw [erg,g2,hh1,if_pos rfl,List.append_nil]
      | false =>
        rw [cond_false]
        have NH:inter ((cB s).box L.length r.length) (wide (cB s) (Low.can (cB s) L (L.length - 1) j) ((cB s).tm L.length - (cB s).tm (L.length - 1)))=inter ((s.1.g L.length).2.1.g r.length) (wide (cB s) (Low.can (cB s) L t0 j) (mT s L.length - mT s t0)):=by rw [ht1]; rfl
        cases hne:UY (inter ((s.1.g L.length).2.1.g r.length) (wide (cB s) (Low.can (cB s) L t0 j) (mT s L.length - mT s t0))) with
        | false =>
          refine ⟨_,rfl,z1,oK,vF,AF,rfl,g1,?_,g3,g4⟩
          rw [erg,g2,hh1,NH,hne]
          simp
        | true =>
          have aaz:(r ++ [(j:Int)]).getD r.length (-1)=(j:Int):=by simp
          have aaA:=g4.push hh hlt hr (j:Int) (b:=inter ((s.1.g L.length).2.1.g r.length) (wide (cB s) (Low.can (cB s) L t0 j) (mT s L.length - mT s t0))) (by
            rw [qQ Rj,aaz,if_pos (by omega),e2,Rj]; rfl)
          obtain ⟨z2,JO,VU,FV,f1,f2,f3,f4,f5⟩:=ih j hj z1 _ _ aaA
          have hl2:(r ++ [(j:Int)]).length=r.length + 1:=by simp
          rw [hl2] at f1
          rw [cond_true,f1]
          refine ⟨_,rfl,z2,JO,VU,AF ++ FV,rfl,by rw [f2,g1,List.append_assoc],?_,fun it hit=>(List.mem_append.1 hit).elim (g3 it) (f4 it),f5.pop hh⟩
          rw [erg,List.map_append,g2,f3,hh1,NH,hne]
          simp) (fun v hp=>by
      obtain ⟨z1,oK,vF,AF,rfl,g1,g2,g3,g4⟩:=hp
      unfold aEn aET st2
      have:¬ ((((s.1.g (L.length - 1)).2.1.n:Nat):Int) < (((s.1.g (L.length - 1)).2.1.n:Nat):Int)):=by omega
      simp only [decide_eq_false this,cond_false]
      rfl) (st2 z L.length r.length born gone s (((s.1.g (L.length - 1)).2.1.n:Nat):Int) 0 same can) ⟨z,same,can,[],rfl,by simp,rfl,fun it hit=>by simp at hit,hi'⟩
  refine ⟨z',gz,mF,items,h5.trans ?_,h1,h2,h3,h4⟩
  rw [hv]
  rfl
end Go.Dm
namespace Go.Dm
set_option maxRecDepth 100000
open Go.Low
variable {s:tS.den} {L:LL} {r:List Int} {same:kA} {can:sq}
theorem JQ (p:PS):∀ m t,1<=kz p m t
 | 0,_=>Nat.le_refl _
 | m + 1,t=>by have:=JQ p m (t + 1); simp only [kz]; omega
theorem LK {α:Type} {l:List α} {d:α} {n:Nat} (hn:l.length=n) {f:Nat->α} (h:∀ t,t < n->f t=l.getD t d):(List.range n).map f=l:=by
 apply List.ext_getElem?
 intro t
 rw [List.getElem?_map]
 by_cases ht:t < n
 ·rw [List.getElem?_range ht,Option.map_some,h t ht,List.getD_eq_getElem?_getD,List.getElem?_eq_getElem (by omega)]; rfl
 ·rw [List.getElem?_eq_none (by simpa using ht),List.getElem?_eq_none (by omega)]; rfl
theorem baX (hs:(cB s).Ok):∀ (n:Nat) (L:LL) (r:List Int) (z:Sl fD.den) (born gone:Int) (same:kA) (can:sq),
  kz (cB s) (s.1.n - L.length) L.length<=n + r.length->Shape s L r->Inv s L r same can->0<=born->born<=OC s->0<=gone->gone<=Sa s ->
  ∃ z' gz mF items,F63 n (mkX z L.length r.length born gone s same can)=some (aav z' s gz mF)/\z'.list=z.list ++ items/\items.map toL=gen (cB s) n born gone L r/\(∀ it∈items,Good s it)/\Inv s L r gz mF:=by
 intro n
 induction n with
 | zero =>
  intro L r z born gone same can hm hh hi' _ _ _ _
  exfalso
  have h1:=JQ (cB s) (s.1.n - L.length) L.length
  by_cases e:L.length=s.1.n
  ·rw [hh.r0 e] at hm; simp at hm; omega
  ·have hle:=hh.le
   have hr:=hh.asN (by omega)
   obtain ⟨m,YX⟩:∃ m,s.1.n - L.length=m + 1:=⟨s.1.n - L.length - 1,by omega⟩
   rw [YX] at hm
   have hk:(cB s).k L.length=(s.1.g L.length).2.1.n:=rfl
   simp only [kz,hk] at hm
   omega
 | succ n ih =>
  intro L r z born gone same can hm hh hi' hb0 Sw hg0 hg1
  have WM:=eF hs
  have hbn:0<=OC s/\OC s<=12:=hs.bn
  have hgn:0<=Sa s/\Sa s<=12:=hs.gn
  have hle:=hh.le
  have hpos:=hh.pos
  obtain ⟨t0,Rj⟩:∃ t,L.length=t + 1:=⟨L.length - 1,by omega⟩
  have ht1:L.length - 1=t0:=by omega
  have e0:Int.toNat (L.length:Int)=L.length:=rfl
  have e1:Int.toNat (r.length:Int)=r.length:=rfl
  have e3:Int.toNat (t0:Int)=t0:=rfl
  have eL:((dx s).1,((dx s).2.1,((dx s).2.2.1,((dx s).2.2.2.1,((dx s).2.2.2.2.1,((),()))))))=dx s:=rfl
  have nb:∀ k:Nat,Nat.beq k k=true:=Nat.beq_refl
  rw [gen]
  have hN:(cB s).N=s.1.n:=rfl
  have hK:∀ t,(cB s).k t=(s.1.g t).2.1.n:=fun _=>rfl
  have hGo:(cB s).gone=Sa s:=rfl
  have hBo:(cB s).born=OC s:=rfl
  by_cases e:L.length=s.1.n
  ·rw [hN,if_pos e]
   have hsk:∀ t,t < same.n->(same.g t).n<=3:=fun t ht=>by
    rw [hi'.sn] at ht
    rw [hi'.sk t ht]; exact dN hs ht
   obtain ⟨rows,q1,q2,q3⟩:=aPe (s:=s) (R:=F63 n) (z:=z) (can:=can) (by rw [hi'.sn]; omega) hsk
   have hit:toL (vw s rows)=L:=by
    show aW rows=L
    unfold aW
    rw [q1,hi'.sn]
    refine LK (d:=[]) e (fun t ht=>?_)
    obtain ⟨p1,p2⟩:=q2 t (by rw [hi'.sn]; exact ht)
    refine vE (by rw [p1,hi'.sk t ht,hh.len t (by omega)]) fun i hi2=>?_
    rw [p1] at hi2
    rw [p2 i hi2]
    exact hi'.sL t (by omega) i (by rw [<- hi'.sk t ht]; exact hi2)
   refine ⟨cK z ⟨1,fun _=>vw s rows⟩,same,can,[vw s rows],?_,jC _ _,by rw [List.map_singleton,hit],fun it h=>?_,hi'⟩
   ·show U63 (F63 n) _=_
    unfold U63 Q63 mkX
    have h1:(L.length:Int)=(s.1.n:Int):=by omega
    simp only [decide_eq_true h1,cond_true]
    refine (bp q3).trans ?_
    simp only [nb,cond_true]
    rfl
   ·simp only [List.mem_singleton] at h
    subst h
    refine ⟨rfl,by show rows.n=_; rw [q1,hi'.sn],fun t ht=>?_⟩
    show (rows.g t).1.n=_
    rw [(q2 t (by rw [hi'.sn]; exact ht)).1,hi'.sk t ht]
  ·have hlt:L.length < s.1.n:=by omega
   rw [hN,if_neg e]
   have h1:¬ ((L.length:Int)=(s.1.n:Int)):=by omega
   have hrl:=hh.asN hlt
   have a1:(0:Int)<=(L.length:Int)/\(L.length:Int) < (s.1.n:Int):=aQ hlt
   have a0:(0:Int)<=(t0:Int)/\(t0:Int) < (s.1.n:Int):=aQ (by omega)
   have w2:W ((L.length:Int) - 1)=(t0:Int):=by rw [gQ ⟨by omega,by omega⟩]; omega
   have hk1:=dN hs hlt
   have Ml:=dN hs (t:=t0) (by omega)
   obtain ⟨m,YX⟩:∃ m,s.1.n - L.length=m + 1:=⟨s.1.n - L.length - 1,by omega⟩
   by_cases e2:r.length=(s.1.g L.length).2.1.n
   ·rw [hK,if_pos e2]
    have h2:(r.length:Int)=(((s.1.g L.length).2.1.n:Nat):Int):=by omega
    have hls:aV (same.g L.length)=r:=vE (by rw [hi'.sk _ hlt,e2]) fun i hi2=>hi'.sr i (by rw [hi'.sk _ hlt] at hi2; omega)
    have hL1:=aPb hs (R:=F63 n) (z:=z) (s:=s) (can:=can) (born:=born) (g0:=gone) (t:=L.length) (k:=(s.1.g t0).2.1.n) (same:=same) (by rw [hi'.sn]; exact hlt) Ml (by rw [hi'.sk _ hlt]; exact hk1) (by omega)
    rw [hls] at hL1
    have aIx:eY (s.1.g t0).2.1.n r<=3:=Nat.le_trans (Nat.le_trans (List.length_filter_le _ _) (by simp)) Ml
    rw [hK,hGo,ht1]
    by_cases e4:Sa s < gone + (eY (s.1.g t0).2.1.n r:Nat)
    ·rw [if_pos e4]
     refine ⟨z,same,can,[],?_,by simp,rfl,fun it h=>by simp at h,hi'⟩
     show U63 (F63 n) _=_
     unfold U63 Q63 mkX
     simp only [decide_eq_false h1,decide_eq_true a1,e0,decide_eq_true h2,w2,decide_eq_true a0,e3,cond_true,cond_false]
     refine (bp hL1).trans ?_
     show (bif decide (Sa s < gone + (eY (s.1.g t0).2.1.n r:Nat)) then _ else _)=_
     rw [decide_eq_true e4,cond_true]
     simp only [nb,cond_true]
     rfl
    ·rw [if_neg e4]
     have hrow:=hi'.row hh hlt e2
     have hlen:(L ++ [r]).length=L.length + 1:=by simp
     obtain ⟨z',gz,mF,items,f1,f2,f3,f4,f5⟩:=ih (L ++ [r]) [] z born (gone + (eY (s.1.g t0).2.1.n r:Nat)) same can (by
      rw [hlen]
      have:s.1.n - (L.length + 1)=m:=by omega
      rw [this]
      rw [YX] at hm
      simp only [kz,hK] at hm
      simp only [List.length_nil]
      omega) (hh.row hlt e2) hrow hb0 Sw (by omega) (by omega)
     refine ⟨z',gz,mF,items,?_,f2,f3,f4,f5.asO e2⟩
     rw [hlen] at f1
     show U63 (F63 n) _=_
     unfold U63 Q63 mkX
     have w3:W ((L.length:Int) + 1)=((L.length + 1:Nat):Int):=by rw [gQ ⟨by omega,by omega⟩]; rfl
     simp only [decide_eq_false h1,decide_eq_true a1,e0,decide_eq_true h2,w2,decide_eq_true a0,e3,cond_true,cond_false,w3]
     refine (bp hL1).trans ?_
     show (bif decide (Sa s < gone + (eY (s.1.g t0).2.1.n r:Nat)) then _ else _)=_
     rw [decide_eq_false e4,cond_false]
     refine (aK f1).trans ?_
     simp only [lK,aav,f5.sn,f5.cn,hi'.sn,hi'.cn,nb,cond_true]
     rfl
   ·rw [hK,if_neg e2]
    have h2:¬ ((r.length:Int)=(((s.1.g L.length).2.1.n:Nat):Int)):=by omega
    have hr:r.length < (s.1.g L.length).2.1.n:=by omega
    have NY:∀ c:Int,kz (cB s) (s.1.n - L.length) L.length<=n + (r ++ [c]).length:=fun c=>by simp; omega
    have ihb:∀ b:Nat,b < (s.1.g (L.length - 1)).2.1.n->∀ z same can,Inv s L (r ++ [(b:Int)]) same can ->
      ∃ z' gz mF items,F63 n (mkX z L.length ((r ++ [(b:Int)]).length:Nat) born gone s same can)=some (aav z' s gz mF)/\z'.list=z.list ++ items/\items.map toL=gen (cB s) n born gone L (r ++ [(b:Int)])/\(∀ it∈items,Good s it)/\Inv s L (r ++ [(b:Int)]) gz mF:=
     fun b hb z same can hinv=>ih L (r ++ [(b:Int)]) z born gone same can (NY _) (hh.push hlt hr (.inr ⟨by omega,by simpa using hb⟩)) hinv hb0 Sw hg0 hg1
    rw [hBo,hK]
    by_cases e4:born < OC s
    ·rw [if_pos e4]
     have aaz:(r ++ [-1]).getD r.length (-1)=(-1:Int):=by simp
     have aaA:=hi'.push hh hlt hr (-1) (b:=(s.1.g L.length).2.1.g r.length) (by
      rw [qQ Rj,aaz,if_neg (by omega),Rj]; rfl)
     obtain ⟨z1,oK,vF,AF,f1,f2,f3,f4,f5⟩:=ih L (r ++ [-1]) z (born + 1) gone _ _ (NY _) (hh.push hlt hr (.inl rfl)) aaA (by omega) (by omega) hg0 hg1
     have f5:=f5.pop hh
     obtain ⟨z2,JO,VU,FV,g1,g2,g3,g4,g5⟩:=aLw hs hh hlt hr ihb z1 f5
     refine ⟨z2,JO,VU,AF ++ FV,?_,by rw [g2,f2,List.append_assoc],by rw [List.map_append,f3,g3],fun it h=>(List.mem_append.1 h).elim (f4 it) (g4 it),g5⟩
     have hl2:(r ++ [(-1:Int)]).length=r.length + 1:=by simp
     rw [hl2] at f1
     rw [ht1] at g1
     show U63 (F63 n) _=_
     unfold U63 Q63 mkX
     have w3:W ((r.length:Int) + 1)=((r.length + 1:Nat):Int):=by rw [gQ ⟨by omega,by omega⟩]; rfl
     have w4:W (born + 1)=born + 1:=gQ ⟨by omega,by omega⟩
     have b1:(0:Int)<=(L.length:Int)/\(L.length:Int) < (same.n:Int):=aQ (by rw [hi'.sn]; exact hlt)
     have b2:(0:Int)<=(L.length:Int)/\(L.length:Int) < (can.n:Int):=aQ (by rw [hi'.cn]; exact hlt)
     have hsk:=hi'.sk L.length hlt
     have hck:=hi'.ck L.length hlt
     have b3:(0:Int)<=(r.length:Int)/\(r.length:Int) < ((same.g L.length).n:Int):=by omega
     have b4:(0:Int)<=(r.length:Int)/\(r.length:Int) < ((can.g L.length).n:Int):=by omega
     simp only [decide_eq_false h1,decide_eq_true a1,e0,decide_eq_false h2,cond_true,cond_false,decide_eq_true e4,decide_eq_true b1,decide_eq_true b2,eL,aEH hlt hr,lK,e1,decide_eq_true b3,decide_eq_true b4,w3,w4,w2,decide_eq_true a0,e3]
     refine (aq (decide_eq_true e4)).trans ?_
     refine (aK f1).trans ?_
     simp only [lK,aav]
     refine (bp g1).trans ?_
     simp only [ex2,g5.sn,g5.cn,hi'.sn,hi'.cn,nb,cond_true]
     rfl
    ·rw [if_neg e4,List.nil_append]
     obtain ⟨z2,JO,VU,FV,g1,g2,g3,g4,g5⟩:=aLw hs hh hlt hr ihb z hi'
     refine ⟨z2,JO,VU,FV,?_,g2,g3,g4,g5⟩
     rw [ht1] at g1
     show U63 (F63 n) _=_
     unfold U63 Q63 mkX
     simp only [decide_eq_false h1,decide_eq_true a1,e0,decide_eq_false h2,cond_true,cond_false,decide_eq_false e4,w2,decide_eq_true a0,e3]
     refine (aR (decide_eq_false e4)).trans ?_
     refine (bp g1).trans ?_
     simp only [ex2,g5.sn,g5.cn,hi'.sn,hi'.cn,nb,cond_true]
     rfl
end Go.Dm

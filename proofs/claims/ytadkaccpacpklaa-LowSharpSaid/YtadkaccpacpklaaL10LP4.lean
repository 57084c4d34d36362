/- The search hands on just what the plain one lists. -/
import Derived.Test.YtadkaccpacpklaaL10LP3
set_option linter.unusedVariables false
set_option linter.unusedSimpArgs false
namespace Go.Dm
set_option maxRecDepth 100000
open Go.Low
variable {s:tS.den} {L:LL} {r:List Int} {same:kA} {can:sq}
theorem JQ (p:PS):∀ m t,1<=kz p m t
 | 0,_=>Nat.le_refl _
 | m + 1,t=>by have:=JQ p m (t + 1); simp only [kz]; omega
theorem LK {α:Type} {l:List α} {d:α} {n:Nat} (hn:l.length=n) {f:Nat->α} (h:∀ t,t < n->f t=l.getD t d):(List.range n).map f=l:=by
 apply List.ext_getElem?
 intro t
 rw [List.getElem?_map]
 by_cases ht:t < n
 ·rw [List.getElem?_range ht,Option.map_some,h t ht,List.getD_eq_getElem?_getD,List.getElem?_eq_getElem (by omega)]; rfl
 ·rw [List.getElem?_eq_none (by simpa using ht),List.getElem?_eq_none (by omega)]; rfl
theorem aki (hs:(cB s).Ok):∀ (n:Nat) (L:LL) (r:List Int) (z:Sl fD.den) (born gone:Int) (same:kA) (can:sq),
  kz (cB s) (s.1.n - L.length) L.length<=n + r.length->Shape s L r->Inv s L r same can->0<=born->born<=OC s->0<=gone->gone<=Sa s ->
  ∃ z' gz mF items,mD n (mkX z L.length r.length born gone s same can)=some (aav z' s gz mF)/\z'.list=z.list ++ items/\items.map toL=gen (cB s) n born gone L r/\(∀ it∈items,Good s it)/\Inv s L r gz mF:=by
 intro n
 induction n with
 | zero =>
  intro L r z born gone same can hm hh hi' _ _ _ _
  exfalso
  have h1:=JQ (cB s) (s.1.n - L.length) L.length
  by_cases e:L.length=s.1.n
  ·rw [hh.r0 e] at hm; simp at hm; omega
  ·have hle:=hh.le
   have hr:=hh.asN (by omega)
   obtain ⟨m,YX⟩:∃ m,s.1.n - L.length=m + 1:=⟨s.1.n - L.length - 1,by omega⟩
   rw [YX] at hm
   have hk:(cB s).k L.length=(s.1.g L.length).2.1.n:=rfl
   simp only [kz,hk] at hm
   omega
 | succ n ih =>
  intro L r z born gone same can hm hh hi' hb0 Sw hg0 hg1
  have WM:=eF hs
  have hbn:0<=OC s/\OC s<=12:=hs.bn
  have hgn:0<=Sa s/\Sa s<=12:=hs.gn
  have hle:=hh.le
  have hpos:=hh.pos
  obtain ⟨t0,Rj⟩:∃ t,L.length=t + 1:=⟨L.length - 1,by omega⟩
  have ht1:L.length - 1=t0:=by omega
  have e0:Int.toNat (L.length:Int)=L.length:=rfl
  have e1:Int.toNat (r.length:Int)=r.length:=rfl
  have e3:Int.toNat (t0:Int)=t0:=rfl
  have eL:((dx s).1,((dx s).2.1,((dx s).2.2.1,((dx s).2.2.2.1,((dx s).2.2.2.2.1,((),()))))))=dx s:=rfl
  have nb:∀ k:Nat,Nat.beq k k=true:=Nat.beq_refl
  rw [gen]
  have hN:(cB s).N=s.1.n:=rfl
  have hK:∀ t,(cB s).k t=(s.1.g t).2.1.n:=fun _=>rfl
  have hGo:(cB s).gone=Sa s:=rfl
  have hBo:(cB s).born=OC s:=rfl
  by_cases e:L.length=s.1.n
  ·rw [hN,if_pos e]
   have hsk:∀ t,t < same.n->(same.g t).n<=3:=fun t ht=>by
    rw [hi'.sn] at ht
    rw [hi'.sk t ht]; exact dN hs ht
   obtain ⟨rows,q1,q2,q3⟩:=aay (s:=s) (R:=mD n) (z:=z) (can:=can) (by rw [hi'.sn]; omega) hsk
   have hit:toL (vw s rows)=L:=by
    show aW rows=L
    unfold aW
    rw [q1,hi'.sn]
    refine LK (d:=[]) e (fun t ht=>?_)
    obtain ⟨p1,p2⟩:=q2 t (by rw [hi'.sn]; exact ht)
    refine vE (by rw [p1,hi'.sk t ht,hh.len t (by omega)]) fun i hi2=>?_
    rw [p1] at hi2
    rw [p2 i hi2]
    exact hi'.sL t (by omega) i (by rw [<- hi'.sk t ht]; exact hi2)
   refine ⟨cK z ⟨1,fun _=>vw s rows⟩,same,can,[vw s rows],?_,jC _ _,by rw [List.map_singleton,hit],fun it h=>?_,hi'⟩
   ·show wA (mD n) _=_
    unfold wA HA mkX
    have h1:(L.length:Int)=(s.1.n:Int):=by omega
    simp only [decide_eq_true h1,cond_true]
    refine (bp q3).trans ?_
    simp only [nb,cond_true]
    rfl
   ·simp only [List.mem_singleton] at h
    subst h
    refine ⟨rfl,by show rows.n=_; rw [q1,hi'.sn],fun t ht=>?_⟩
    show (rows.g t).1.n=_
    rw [(q2 t (by rw [hi'.sn]; exact ht)).1,hi'.sk t ht]
  ·have hlt:L.length < s.1.n:=by omega
   rw [hN,if_neg e]
   have h1:¬ ((L.length:Int)=(s.1.n:Int)):=by omega
   have hrl:=hh.asN hlt
   have a1:(0:Int)<=(L.length:Int)/\(L.length:Int) < (s.1.n:Int):=aQ hlt
   have a0:(0:Int)<=(t0:Int)/\(t0:Int) < (s.1.n:Int):=aQ (by omega)
   have w2:W ((L.length:Int) - 1)=(t0:Int):=by rw [gQ ⟨by omega,by omega⟩]; omega
   have hk1:=dN hs hlt
   have Ml:=dN hs (t:=t0) (by omega)
   obtain ⟨m,YX⟩:∃ m,s.1.n - L.length=m + 1:=⟨s.1.n - L.length - 1,by omega⟩
   by_cases e2:r.length=(s.1.g L.length).2.1.n
   ·rw [hK,if_pos e2]
    have h2:(r.length:Int)=(((s.1.g L.length).2.1.n:Nat):Int):=by omega
    have hls:aV (same.g L.length)=r:=vE (by rw [hi'.sk _ hlt,e2]) fun i hi2=>hi'.sr i (by rw [hi'.sk _ hlt] at hi2; omega)
    have hL1:=aax hs (R:=mD n) (z:=z) (s:=s) (can:=can) (born:=born) (g0:=gone) (t:=L.length) (k:=(s.1.g t0).2.1.n) (same:=same) (by rw [hi'.sn]; exact hlt) Ml (by rw [hi'.sk _ hlt]; exact hk1) (by omega)
    rw [hls] at hL1
    have aIx:eY (s.1.g t0).2.1.n r<=3:=Nat.le_trans (Nat.le_trans (List.length_filter_le _ _) (by simp)) Ml
    rw [hK,hGo,ht1]
    by_cases e4:Sa s < gone + (eY (s.1.g t0).2.1.n r:Nat)
    ·rw [if_pos e4]
     refine ⟨z,same,can,[],?_,by simp,rfl,fun it h=>by simp at h,hi'⟩
     show wA (mD n) _=_
     unfold wA HA mkX
     simp only [decide_eq_false h1,decide_eq_true a1,e0,decide_eq_true h2,w2,decide_eq_true a0,e3,cond_true,cond_false]
     refine (bp hL1).trans ?_
     show (bif decide (Sa s < gone + (eY (s.1.g t0).2.1.n r:Nat)) then _ else _)=_
     rw [decide_eq_true e4,cond_true]
     simp only [nb,cond_true]
     rfl
    ·rw [if_neg e4]
     have hrow:=hi'.row hh hlt e2
     have hlen:(L ++ [r]).length=L.length + 1:=by simp
     obtain ⟨z',gz,mF,items,f1,f2,f3,f4,f5⟩:=ih (L ++ [r]) [] z born (gone + (eY (s.1.g t0).2.1.n r:Nat)) same can (by
      rw [hlen]
      have:s.1.n - (L.length + 1)=m:=by omega
      rw [this]
      rw [YX] at hm
      simp only [kz,hK] at hm
      simp only [List.length_nil]
      omega) (hh.row hlt e2) hrow hb0 Sw (by omega) (by omega)
     refine ⟨z',gz,mF,items,?_,f2,f3,f4,f5.asO e2⟩
     rw [hlen] at f1
     show wA (mD n) _=_
     unfold wA HA mkX
     have w3:W ((L.length:Int) + 1)=((L.length + 1:Nat):Int):=by rw [gQ ⟨by omega,by omega⟩]; rfl
     simp only [decide_eq_false h1,decide_eq_true a1,e0,decide_eq_true h2,w2,decide_eq_true a0,e3,cond_true,cond_false,w3]
     refine (bp hL1).trans ?_
     show (bif decide (Sa s < gone + (eY (s.1.g t0).2.1.n r:Nat)) then _ else _)=_
     rw [decide_eq_false e4,cond_false]
     refine (aK f1).trans ?_
     simp only [lK,aav,f5.sn,f5.cn,hi'.sn,hi'.cn,nb,cond_true]
     rfl
   ·rw [hK,if_neg e2]
    have h2:¬ ((r.length:Int)=(((s.1.g L.length).2.1.n:Nat):Int)):=by omega
    have hr:r.length < (s.1.g L.length).2.1.n:=by omega
    have NY:∀ c:Int,kz (cB s) (s.1.n - L.length) L.length<=n + (r ++ [c]).length:=fun c=>by simp; omega
    have ihb:∀ b:Nat,b < (s.1.g (L.length - 1)).2.1.n->∀ z same can,Inv s L (r ++ [(b:Int)]) same can ->
      ∃ z' gz mF items,mD n (mkX z L.length ((r ++ [(b:Int)]).length:Nat) born gone s same can)=some (aav z' s gz mF)/\z'.list=z.list ++ items/\items.map toL=gen (cB s) n born gone L (r ++ [(b:Int)])/\(∀ it∈items,Good s it)/\Inv s L (r ++ [(b:Int)]) gz mF:=
     fun b hb z same can hinv=>ih L (r ++ [(b:Int)]) z born gone same can (NY _) (hh.push hlt hr (.inr ⟨by omega,by simpa using hb⟩)) hinv hb0 Sw hg0 hg1
    rw [hBo,hK]
    by_cases e4:born < OC s
    ·rw [if_pos e4]
     have aaz:(r ++ [-1]).getD r.length (-1)=(-1:Int):=by simp
     have aaA:=hi'.push hh hlt hr (-1) (b:=(s.1.g L.length).2.1.g r.length) (by
      rw [qQ Rj,aaz,if_neg (by omega),Rj]; rfl)
     obtain ⟨z1,oK,vF,AF,f1,f2,f3,f4,f5⟩:=ih L (r ++ [-1]) z (born + 1) gone _ _ (NY _) (hh.push hlt hr (.inl rfl)) aaA (by omega) (by omega) hg0 hg1
     have f5:=f5.pop hh
     obtain ⟨z2,JO,VU,FV,g1,g2,g3,g4,g5⟩:=Ob hs hh hlt hr ihb z1 f5
     refine ⟨z2,JO,VU,AF ++ FV,?_,by rw [g2,f2,List.append_assoc],by rw [List.map_append,f3,g3],fun it h=>(List.mem_append.1 h).elim (f4 it) (g4 it),g5⟩
     have hl2:(r ++ [(-1:Int)]).length=r.length + 1:=by simp
     rw [hl2] at f1
     rw [ht1] at g1
     show wA (mD n) _=_
     unfold wA HA mkX
     have w3:W ((r.length:Int) + 1)=((r.length + 1:Nat):Int):=by rw [gQ ⟨by omega,by omega⟩]; rfl
     have w4:W (born + 1)=born + 1:=gQ ⟨by omega,by omega⟩
     have b1:(0:Int)<=(L.length:Int)/\(L.length:Int) < (same.n:Int):=aQ (by rw [hi'.sn]; exact hlt)
     have b2:(0:Int)<=(L.length:Int)/\(L.length:Int) < (can.n:Int):=aQ (by rw [hi'.cn]; exact hlt)
     have hsk:=hi'.sk L.length hlt
     have hck:=hi'.ck L.length hlt
     have b3:(0:Int)<=(r.length:Int)/\(r.length:Int) < ((same.g L.length).n:Int):=by omega
     have b4:(0:Int)<=(r.length:Int)/\(r.length:Int) < ((can.g L.length).n:Int):=by omega
     simp only [decide_eq_false h1,decide_eq_true a1,e0,decide_eq_false h2,cond_true,cond_false,decide_eq_true e4,decide_eq_true b1,decide_eq_true b2,eL,Po hlt hr,lK,e1,decide_eq_true b3,decide_eq_true b4,w3,w4,w2,decide_eq_true a0,e3]
     refine (aq (decide_eq_true e4)).trans ?_
     refine (aK f1).trans ?_
     simp only [lK,aav]
     refine (bp g1).trans ?_
     simp only [ex2,g5.sn,g5.cn,hi'.sn,hi'.cn,nb,cond_true]
     rfl
    ·rw [if_neg e4,List.nil_append]
     obtain ⟨z2,JO,VU,FV,g1,g2,g3,g4,g5⟩:=Ob hs hh hlt hr ihb z hi'
     refine ⟨z2,JO,VU,FV,?_,g2,g3,g4,g5⟩
     rw [ht1] at g1
     show wA (mD n) _=_
     unfold wA HA mkX
     simp only [decide_eq_false h1,decide_eq_true a1,e0,decide_eq_false h2,cond_true,cond_false,decide_eq_false e4,w2,decide_eq_true a0,e3]
     refine (aR (decide_eq_false e4)).trans ?_
     refine (bp g1).trans ?_
     simp only [ex2,g5.sn,g5.cn,hi'.sn,hi'.cn,nb,cond_true]
     rfl
end Go.Dm

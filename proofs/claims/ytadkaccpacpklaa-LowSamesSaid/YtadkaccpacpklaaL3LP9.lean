/- The reference: all links. -/
import Derived.Test.YtadkaccpacpklaaL3LP8
set_option linter.unusedVariables false
set_option linter.unusedSimpArgs false
namespace Go.Dm
set_option maxRecDepth 100000
open Go.Low
variable {s:tS.den}
abbrev zR:=Sl (Ty.den (.cons (.sl (.cons (.sl sR) .nil)) .nil))
def fU (o:zR):List LL:=(List.range o.n).map fun t=>aW (o.g t).1
theorem jA (o:zR):(fU o).length=o.n:=by simp [fU]
theorem IQ {o:zR} {i:Nat} (h:i < o.n):(fU o)[i]? = some (aW (o.g i).1):=by
 unfold fU
 rw [List.getElem?_map,List.getElem?_range h]; rfl
theorem Wu (o:zR) (y:cT):fU (snoc o (y,()))=fU o ++ [aW y]:=by
 unfold fU
 rw [IP,List.range_succ,List.map_append]
 congr 1
 ·exact List.map_congr_left fun i hi=>by rw [Ik (List.mem_range.1 hi)]
 ·simp only [List.map_cons,List.map_nil]
  rw [Il]
theorem Ks (o:cT) (y:Ty.den (.cons (.sl sR) .nil)):aW (snoc o y)=aW o ++ [aV y.1]:=FY o y.1
def BQ (s:PS) (L:LL) (r:List Int):List LL:=if okB s (L ++ [r]) then [L ++ [r]] else []
theorem Sb {p:PS} {L:LL} {r:List Int}:(BQ p L r).length<=1:=by
 unfold BQ
 split <;> simp
theorem JU (p:PS):∀ (m:Nat) (out:List LL),GS p (m + 1) out=(GS p m out).flatMap (xF p)
 | 0,out=>rfl
 | m + 1,out=>by rw [GS,JU p m]; rfl
theorem Sc {before m:Nat} (hb:before<=3) (hm:m<=3):(gV before m []).length<=64:=by
 have h1:=Ip hb m
 have h2:Ij before m [[]]=gV before m []:=by rw [ME]; simp
 have h4:4 ^ m<=4 ^ 3:=Nat.pow_le_pow_right (by omega) hm
 rw [h2] at h1
 omega
theorem Pre.row {L:LL} {r:List Int} (h:Pre s L) (hlt:L.length < s.1.n) (hr:r∈gV (s.1.g (L.length - 1)).2.1.n (s.1.g L.length).2.1.n []):Pre s (L ++ [r]):=by
 have hrow:=NZ.1 hr
 have hpos:=h.sh.pos
 have hsh:Shape s L r:=⟨h.sh.pos,h.sh.le,h.sh.len,h.sh.val,fun _=>by rw [hrow.1]; exact Nat.le_refl _,fun e=>by omega,fun i x hx=>by
  rcases hrow.2 i x hx with q | q
  ·exact .inl q
  ·exact .inr ⟨q.1,q.2.1⟩⟩
 refine ⟨hsh.row hlt hrow.1,?_⟩
 rw [ku hpos]; exact h.first
theorem asT (hs:(cB s).Ok) {out:zR} {AL:cT} {t i:Nat} {c5:Int} (hi:i < out.n) (ahc:aW AL=gV (s.1.g (t - 1)).2.1.n (s.1.g t).2.1.n []) (hP:Pre s (aW (out.g i).1)) (hlen:(aW (out.g i).1).length=t) (hlt:t < s.1.n)
    (WN:zR) (hn0:WN.n<=1000000) :
    ∃ nx:zR,xE ((),(out,(c5,(AL,((i:Int),(s,())))))) (WN,((0:Int),())) = .exit 4 (nx,())/\fU nx=fU WN ++ xF (cB s) (aW (out.g i).1):=by
  have WM:=eF hs
  have aUD:AL.n<=64:=by
    have:=congrArg List.length ahc
    rw [dI] at this
    have h2:=Sc (before:=(s.1.g (t - 1)).2.1.n) (m:=(s.1.g t).2.1.n) (dN hs (by omega)) (dN hs hlt)
    omega
  have RI:(out.g i).1.n=t:=by rw [<- dI]; exact hlen
  have h24:(out.g i).1.n * 24<=140737488355328:=by omega
  have h25:((out.g i).1.n + 1) * 24<=140737488355328:=by omega
  have hst:xF (cB s) (aW (out.g i).1)=(aW AL).flatMap (BQ (cB s) (aW (out.g i).1)):=by
    unfold xF
    rw [ahc,hlen]; rfl
  unfold xE
  obtain ⟨v,⟨nx,hv,h1⟩,h2⟩:=jq (step:=qL ((),(out,(c5,(AL,((i:Int),(s,()))))))) (N:=cz)
    (P:=fun j v=>∃ nx:zR,v=(nx,((j:Int),()))/\fU nx=fU WN ++ ((aW AL).take j).flatMap (BQ (cB s) (aW (out.g i).1)))
    (q:=fun v=>.exit 4 (v.1,())) AL.n (by unfold cz; omega) (fun j v hj hp=>by
      obtain ⟨nx,rfl,h1⟩:=hp
      have hnx:nx.n<=1000064:=by
        have:=congrArg List.length h1
        rw [List.length_append,jA,jA] at this
        have h3:=uU (l:=(aW AL).take j) (f:=BQ (cB s) (aW (out.g i).1)) (k:=1) fun a _=>Sb
        rw [List.length_take,dI] at h3
        omega
      have az0:(nx.n + 1) * 24<=140737488355328:=by omega
      have hmem:aV (AL.g j).1∈gV (s.1.g (t - 1)).2.1.n (s.1.g t).2.1.n []:=by rw [<- ahc]; exact List.mem_of_getElem? (tW hj)
      have hPn:Pre s (aW (snoc (out.g i).1 (AL.g j))):=by
        rw [Ks]
        exact hP.row (by omega) (by rw [hlen]; exact hmem)
      have hnn:(snoc (out.g i).1 (AL.g j)).n=t + 1:=by rw [IP,RI]
      have hkk:∀ u,u < (snoc (out.g i).1 (AL.g j)).n->((snoc (out.g i).1 (AL.g j)).g u).1.n<=3:=fun u hu=>by
        have:=hPn.sh.len u (by rw [dI]; exact hu)
        rw [kH hu,iN] at this
        rw [this]
        exact dN hs (by omega)
      have m56:=ao9 (o:=snoc (out.g i).1 (AL.g j)) (by omega) (by omega) hkk
      have m61:=apa (o:=snoc (out.g i).1 (AL.g j)) (by omega) (by omega) hkk
      have m71:=azZ hs hPn
      have w1:W ((j:Int) + 1)=((j + 1:Nat):Int):=dR hj (by omega)
      have GZ:((aW AL).take (j + 1)).flatMap (BQ (cB s) (aW (out.g i).1))=((aW AL).take j).flatMap (BQ (cB s) (aW (out.g i).1)) ++ BQ (cB s) (aW (out.g i).1) (aV (AL.g j).1):=by
        rw [gu hj,List.flatMap_append]; simp
      have hF:BQ (cB s) (aW (out.g i).1) (aV (AL.g j).1)=if okB (cB s) (aW (snoc (out.g i).1 (AL.g j))) then [aW (snoc (out.g i).1 (AL.g j))] else []:=by
        rw [Ks]; rfl
      have key:qL ((),(out,(c5,(AL,((i:Int),(s,())))))) (nx,((j:Int),())) = .next (bif okB (cB s) (aW (snoc (out.g i).1 (AL.g j))) then snoc nx (snoc (out.g i).1 (AL.g j),()) else nx,(((j + 1:Nat):Int),())):=by
        unfold qL xD
        refine (aq (decide_eq_true (dW hj))).trans ?_
        refine (aq (decide_eq_true (aQ hi))).trans ?_
        refine (aq (decide_eq_true h24)).trans ?_
        refine (aq (decide_eq_true (aQ hj))).trans ?_
        refine (aq (decide_eq_true h25)).trans ?_
        refine (aK m56).trans ?_
        have Ew:∀ z:zR,(RQ.next (show (aa gP).den from (z,(W ((j:Int) + 1),()))):RQ gP uP) = .next (z,(((j + 1:Nat):Int),())):=fun z=>by rw [w1]
        unfold okB
        by_cases c1:((eP (aW (snoc (out.g i).1 (AL.g j))):Nat):Int)<=(cB s).born
        · refine (aq (decide_eq_true c1)).trans ?_
          refine (aK m61).trans ?_
          by_cases c2:((fc (aW (snoc (out.g i).1 (AL.g j))):Nat):Int)<=(cB s).gone
          · refine (aq (decide_eq_true c2)).trans ?_
            refine (aK m71).trans ?_
            rw [decide_eq_true c1,decide_eq_true c2,Bool.true_and,Bool.true_and]
            cases chB (cB s) (aW (snoc (out.g i).1 (AL.g j))) with
            | true =>
              refine (aq rfl).trans ?_
              refine (aq (decide_eq_true az0)).trans ?_
              exact Ew _
            | false=>exact Ew _
          · refine (aR (decide_eq_false c2)).trans ?_
            rw [decide_eq_false c2,Bool.and_false,Bool.false_and]
            exact Ew _
        · refine (aR (decide_eq_false c1)).trans ?_
          rw [decide_eq_false c1,Bool.false_and,Bool.false_and]
          exact Ew _
      refine ⟨_,key,_,rfl,?_⟩
      rw [GZ,hF]
      cases okB (cB s) (aW (snoc (out.g i).1 (AL.g j))) with
      | true=>rw [cond_true,if_pos rfl,Wu,h1,List.append_assoc]
      | false=>rw [cond_false,if_neg (by simp),List.append_nil,h1]) (fun v hp=>by
      obtain ⟨nx,rfl,h1⟩:=hp
      unfold qL xD
      have:¬ ((AL.n:Int) < (AL.n:Int)):=by omega
      exact aR (decide_eq_false this)) (WN,((0:Int),())) ⟨WN,rfl,by simp⟩
  exact ⟨nx,h2.trans (by rw [hv]),by rw [h1,hst,List.take_of_length_le (by rw [dI]; exact Nat.le_refl _)]⟩
theorem Sd (hs:(cB s).Ok) {L:LL} (hL:L.length < s.1.n):(xF (cB s) L).length<=64:=by
 have h1:=uU (l:=gV ((cB s).k (L.length - 1)) ((cB s).k L.length) []) (f:=BQ (cB s) L) (k:=1) fun a _=>Sb
 have h2:=Sc (before:=(cB s).k (L.length - 1)) (m:=(cB s).k L.length) (dN hs (by omega)) (dN hs hL)
 have:xF (cB s) L=(gV ((cB s).k (L.length - 1)) ((cB s).k L.length) []).flatMap (BQ (cB s) L):=rfl
 rw [this]
 omega
theorem ank (hs:(cB s).Ok) {out:zR} {AL:cT} {t:Nat} (hout:out.n<=4096) (ahc:aW AL=gV (s.1.g (t - 1)).2.1.n (s.1.g t).2.1.n []) (hP:∀ i,i < out.n->Pre s (aW (out.g i).1)/\(aW (out.g i).1).length=t) (hlt:t < s.1.n) :
    ∃ nx:zR,Ii ((),(out,((t:Int),(AL,(s,()))))) ((⟨0,fun i=>((⟨0,fun i=>((⟨0,fun i=>((0:Int),())⟩:Sl _),())⟩:Sl _),())⟩:Sl _),((0:Int),())) = .exit 2 (nx,())/\fU nx=(fU out).flatMap (xF (cB s)):=by
  unfold Ii
  obtain ⟨v,⟨nx,hv,h1⟩,h2⟩:=jq (step:=Ch ((),(out,((t:Int),(AL,(s,())))))) (N:=cz)
    (P:=fun j v=>∃ nx:zR,v=(nx,((j:Int),()))/\fU nx=((fU out).take j).flatMap (xF (cB s)))
    (q:=fun v=>.exit 2 (v.1,())) out.n (by unfold cz; omega) (fun j v hj hp=>by
      obtain ⟨nx,rfl,h1⟩:=hp
      have hnx:nx.n<=1000000:=by
        have:=congrArg List.length h1
        rw [jA] at this
        have h3:=uU (l:=(fU out).take j) (f:=xF (cB s)) (k:=64) fun a ha=>by
          have ha:=List.mem_of_mem_take ha
          obtain ⟨i,hi',e⟩:=List.mem_map.1 ha
          have hi':=List.mem_range.1 hi'
          rw [<- e]
          exact Sd hs (by rw [(hP i hi').2]; exact hlt)
        rw [List.length_take,jA] at h3
        omega
      obtain ⟨nx',g1,g2⟩:=asT hs (c5:=(t:Int)) hj ahc (hP j hj).1 (hP j hj).2 hlt nx hnx
      refine ⟨(nx',(((j + 1:Nat):Int),())),?_,nx',rfl,?_⟩
      · unfold Ch Ih
        refine (aq (decide_eq_true (dW hj))).trans ?_
        refine (bp g1).trans ?_
        exact congrArg (fun q:Int=>(RQ.next (show (aa lG).den from (nx',(q,()))):RQ lG BM)) (dR hj (by omega))
      · rw [g2,h1,List.take_add_one,IQ hj,List.flatMap_append]
        simp) (fun v hp=>by
      obtain ⟨nx,rfl,h1⟩:=hp
      unfold Ch Ih
      have:¬ ((out.n:Int) < (out.n:Int)):=by omega
      exact aR (decide_eq_false this)) ((⟨0,fun i=>((⟨0,fun i=>((⟨0,fun i=>((0:Int),())⟩:Sl _),())⟩:Sl _),())⟩:Sl _),((0:Int),())) ⟨_,rfl,rfl⟩
  exact ⟨nx,h2.trans (by rw [hv]),by rw [h1,List.take_of_length_le (by rw [jA]; exact Nat.le_refl _)]⟩
theorem Yo (hs:(cB s).Ok):∀ j,j + 1<=s.1.n->(∀ L∈GS (cB s) j [[first (cB s)]],Pre s L/\L.length=j + 1)/\(GS (cB s) j [[first (cB s)]]).length<=64 ^ j
 | 0,h=>by
  refine ⟨fun L hL=>?_,by simp [GS]⟩
  simp only [GS,List.mem_singleton] at hL
  subst hL
  refine ⟨⟨⟨by simp,by simpa using h,fun t ht=>?_,fun t i x ht=>by simp at ht,fun _=>Nat.zero_le _,fun _=>rfl,fun i x hx=>by simp at hx⟩,rfl⟩,rfl⟩
  have:t=0:=by simp at ht; exact ht
  subst this; simp [first]; rfl
 | j + 1,h=>by
  obtain ⟨h1,h2⟩:=Yo hs j (by omega)
  rw [JU]
  refine ⟨fun L hL=>?_,?_⟩
  ·obtain ⟨L0,hL0,hL⟩:=List.mem_flatMap.1 hL
   obtain ⟨p1,p2⟩:=h1 L0 hL0
   obtain ⟨r,hr,hL⟩:=List.mem_flatMap.1 hL
   split at hL
   ·simp only [List.mem_singleton] at hL
    subst hL
    exact ⟨p1.row (by omega) hr,by simp; omega⟩
   ·simp at hL
  ·have h3:=uU (l:=GS (cB s) j [[first (cB s)]]) (f:=xF (cB s)) (k:=64) fun a ha=>Sd hs (by rw [(h1 a ha).2]; omega)
   rw [Nat.pow_succ]
   omega
theorem asM (hs:(cB s).Ok):∃ all:zR,M22 (no_index (s,()))=some (all,())/\fU all=links (cB s):=by
  have WM:=eF hs
  have xU:0 < s.1.n:=hs.n1
  obtain ⟨n,hn⟩:∃ n,s.1.n=n + 1:=⟨s.1.n - 1,by omega⟩
  obtain ⟨fr,f1,f2,_⟩:=ao8 (k:=(s.1.g 0).2.1.n) (b:=0) (dN hs xU) (by omega)
  have hfr:aW fr=[first (cB s)]:=by rw [f2,Ws]; rfl
  have key:∃ all:zR,abN ((),(s,())) ((⟨1,fun i=>List.getD [((fr,()):Ty.den (.cons (.sl (.cons (.sl sR) .nil)) .nil))] i (fr,())⟩:zR),((1:Int),())) = .exit 0 (all,())/\fU all=GS (cB s) n [[first (cB s)]]:=by
    unfold abN
    obtain ⟨v,⟨nx,hv,h1⟩,h2⟩:=jq (step:=RZ ((),(s,()))) (N:=cz)
      (P:=fun j v=>∃ nx:zR,v=(nx,(((j + 1:Nat):Int),()))/\fU nx=GS (cB s) j [[first (cB s)]])
      (q:=fun v=>.exit 0 (v.1,())) n (by unfold cz; omega) (fun j v hj hp=>by
        obtain ⟨nx,rfl,h1⟩:=hp
        have hj1:j + 1 < s.1.n:=by omega
        obtain ⟨b1,b2⟩:=Yo hs j (by omega)
        have hnx:nx.n<=4096:=by
          have:=congrArg List.length h1
          rw [jA] at this
          have h4:64 ^ j<=64 ^ 2:=Nat.pow_le_pow_right (by omega) (by omega)
          omega
        have hP:∀ i,i < nx.n->Pre s (aW (nx.g i).1)/\(aW (nx.g i).1).length=j + 1:=fun i hi=>b1 _ (by rw [<- h1]; exact List.mem_of_getElem? (IQ hi))
        obtain ⟨AL,c1,c2,_⟩:=ao8 (k:=(s.1.g (j + 1)).2.1.n) (b:=(s.1.g j).2.1.n) (dN hs hj1) (dN hs (by omega))
        obtain ⟨nx',g1,g2⟩:=ank hs (t:=j + 1) hnx c2 hP hj1
        refine ⟨(nx',(((j + 1 + 1:Nat):Int),())),?_,nx',rfl,by rw [g2,h1,JU]⟩
        have w2:=wo (n:=s.1.n) (by omega) hj1
        have e4:∀ {α:Type} (x y:α),(bif decide ((0:Int)<=W (((j + 1:Nat):Int) - 1)/\W (((j + 1:Nat):Int) - 1) < (s.1.n:Int)) then x else y)=x:=fun x y=>by rw [w2]; exact aq (decide_eq_true (aQ (Nat.lt_of_succ_lt hj1)))
        have c1':M70 ((((s.1.g (j + 1)).2.1.n:Nat):Int),((((s.1.g (Int.toNat (W (((j + 1:Nat):Int) - 1)))).2.1.n:Nat):Int),()))=some (AL,()):=by rw [w2]; exact c1
        unfold RZ Wq
        refine (aq (decide_eq_true (dW hj1))).trans ?_
        refine (aq (decide_eq_true (aQ hj1))).trans ?_
        refine (e4 _ _).trans ?_
        refine (aK c1').trans ?_
        refine (bp g1).trans ?_
        exact congrArg (fun q:Int=>(RQ.next (show (aa tV).den from (nx',(q,()))):RQ tV NW)) (dR hj1 (by omega))) (fun v hp=>by
        obtain ⟨nx,rfl,h1⟩:=hp
        unfold RZ Wq
        have:¬ (((n + 1:Nat):Int) < (s.1.n:Int)):=by omega
        exact aR (decide_eq_false this)) ((⟨1,fun i=>List.getD [((fr,()):Ty.den (.cons (.sl (.cons (.sl sR) .nil)) .nil))] i (fr,())⟩:zR),((1:Int),())) ⟨_,rfl,by
          show [aW fr]=[[first (cB s)]]
          rw [hfr]⟩
    exact ⟨nx,h2.trans (by rw [hv]),h1⟩
  obtain ⟨all,h1,h2⟩:=key
  refine ⟨all,?_,?_⟩
  · unfold M22 Q22
    have a0:(0:Int)<=0/\(0:Int) < (s.1.n:Int):=by omega
    refine (aq (decide_eq_true a0)).trans ?_
    refine (aK f1).trans ?_
    exact bp h1
  · rw [h2,Ym]
    simp only [List.flatMap_cons,List.flatMap_nil,List.append_nil]
    unfold links
    rw [show (cB s).N - 1=n by show s.1.n - 1=n; omega]
end Go.Dm

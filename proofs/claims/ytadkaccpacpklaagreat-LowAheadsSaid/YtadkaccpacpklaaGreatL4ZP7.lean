/-
 Of the plain law.
-/
import Derived.Test.YtadkaccpacpklaaGreatL4ZP4
set_option linter.unusedVariables false
set_option linter.unusedSimpArgs false
namespace Go.Dm
set_option maxRecDepth 100000
open Go.Low
variable {s:tS.den} {same:kA} {can:sq}
def z0:Sl fD.den:=⟨0,fun i=>(((⟨0,fun i=>((0:Int),((⟨0,fun i=>((0:Int),((0:Int),((0:Int),((0:Int),((0:Int),((0:Int),()))))))⟩:Sl _),()))⟩:Sl _),((0:Int),((0:Int),((0:Int),((0:Int),((⟨0,fun i=>((⟨0,fun i=>((0:Int),())⟩:Sl _),())⟩:Sl _),())))))),())⟩
def rS (k:Nat):Sl sR.den:=⟨k,fun _=>((0:Int),())⟩
def rC (k:Nat):Sl Py.den:=⟨k,fun _=>((0:Int),((0:Int),((0:Int),((0:Int),((0:Int),((0:Int),()))))))⟩
def WN (s:tS.den) (q:Int) (A:kA) (B:sq):RQ nr FU:=.next (q,(((),()),(dx s,(((),()),(A,(B,()))))))
def nx1 (s:tS.den) (q:Int) (A:kA) (B:sq):RQ auX ayf:=.next (q,(((),()),(dx s,(((),()),(A,(B,()))))))
theorem aPK (hs:(cB s).Ok) :
    ∃ (same:kA) (can:sq),same.n=s.1.n/\can.n=s.1.n/\(∀ t,t < s.1.n->(same.g t).n=(s.1.g t).2.1.n/\(can.g t).n=(s.1.g t).2.1.n) /\
      Ul (z0,(s,((),((),((),(s.1,((s.1.n:Int),()))))))) ((0:Int),(((),()),(dx s,(((),()),((⟨s.1.n,fun _=>(⟨0,fun i=>((0:Int),())⟩:Sl _)⟩:kA),((⟨s.1.n,fun _=>(⟨0,fun i=>((0:Int),((0:Int),((0:Int),((0:Int),((0:Int),((0:Int),()))))))⟩:Sl _)⟩:sq),())))))) =
        .exit 0 (((),()),(dx s,(((),()),(same,(can,()))))):=by
  have WM:=eF hs
  unfold Ul
  obtain ⟨v,⟨same,can,hv,h1,h2,h3⟩,h4⟩:=jq (step:=JI (z0,(s,((),((),((),(s.1,((s.1.n:Int),())))))))) (N:=cz)
    (P:=fun j v=>∃ (same:kA) (can:sq),v=((j:Int),(((),()),(dx s,(((),()),(same,(can,()))))))/\same.n=s.1.n/\can.n=s.1.n/\(∀ t,t < j->(same.g t).n=(s.1.g t).2.1.n/\(can.g t).n=(s.1.g t).2.1.n))
    (q:=fun v=>.exit 0 v.2) s.1.n (by unfold cz; omega) (fun j v hj hp=>by
      obtain ⟨same,can,rfl,g1,g2,g3⟩:=hp
      have hk:=dN hs hj
      refine ⟨(((j + 1:Nat):Int),(((),()),(dx s,(((),()),(bO same j (rS (s.1.g j).2.1.n),(bO can j (rC (s.1.g j).2.1.n),())))))),?_,_,_,rfl,g1,g2,fun t ht=>?_⟩
      · unfold JI NU
        have w1:W ((j:Int) + 1)=((j + 1:Nat):Int):=by rw [gQ ⟨by omega,by omega⟩]; rfl
        have a8:(0:Int)<=(((s.1.g j).2.1.n:Nat):Int)/\((((s.1.g j).2.1.n:Nat):Int)<=281474976710656/\(((s.1.g j).2.1.n:Nat):Int) * 8<=281474976710656):=by omega
        have a27:(0:Int)<=(((s.1.g j).2.1.n:Nat):Int)/\((((s.1.g j).2.1.n:Nat):Int)<=281474976710656/\(((s.1.g j).2.1.n:Nat):Int) * 48<=281474976710656):=by omega
        refine (aq (decide_eq_true (dW hj))).trans ?_
        refine (aq (decide_eq_true (aQ hj))).trans ?_
        refine (aq (decide_eq_true a8)).trans ?_
        refine (aq (decide_eq_true a27)).trans ?_
        refine (aq (decide_eq_true (aQ (n:=same.n) (by omega)))).trans ?_
        refine (aq (decide_eq_true (aQ (n:=can.n) (by omega)))).trans ?_
        exact congrArg (fun q:Int=>WN s q (bO same j (rS (s.1.g j).2.1.n)) (bO can j (rC (s.1.g j).2.1.n))) w1
      · by_cases e:t=j
        · subst e; rw [fq,fq]; exact ⟨rfl,rfl⟩
        · rw [gy _ e,gy _ e]; exact g3 t (by omega)) (fun v hp=>by
      obtain ⟨same,can,rfl,g1,g2,g3⟩:=hp
      unfold JI NU
      have:¬ ((s.1.n:Int) < (s.1.n:Int)):=by omega
      exact (aR (decide_eq_false this)).trans rfl) ((0:Int),(((),()),(dx s,(((),()),((⟨s.1.n,fun _=>(⟨0,fun i=>((0:Int),())⟩:Sl _)⟩:kA),((⟨s.1.n,fun _=>(⟨0,fun i=>((0:Int),((0:Int),((0:Int),((0:Int),((0:Int),((0:Int),()))))))⟩:Sl _)⟩:sq),())))))) ⟨_,_,rfl,rfl,rfl,fun t ht=>by omega⟩
  refine ⟨same,can,h1,h2,h3,h4.trans ?_⟩
  rw [hv]
theorem aPL (hs:(cB s).Ok) (h1:same.n=s.1.n) (h2:can.n=s.1.n) (h3:∀ t,t < s.1.n->(same.g t).n=(s.1.g t).2.1.n/\(can.g t).n=(s.1.g t).2.1.n) :
    ∃ (gz:kA) (mF:sq),Inv s [first (cB s)] [] gz mF /\
      aKW (z0,(s,((),((),((),((((s.1.g 0).2.1.n:Nat):Int),())))))) ((0:Int),(((),()),(dx s,(((),()),(same,(can,())))))) = .exit 2 (((),()),(dx s,(((),()),(gz,(mF,()))))):=by
  have WM:=eF hs
  have xU:0 < s.1.n:=hs.n1
  have hk:=dN hs xU
  unfold aKW
  obtain ⟨v,⟨gz,mF,hv,g1,g2,g3,g4⟩,g5⟩:=jq (step:=aEU (z0,(s,((),((),((),((((s.1.g 0).2.1.n:Nat):Int),()))))))) (N:=cz)
    (P:=fun j v=>∃ (same:kA) (can:sq),v=((j:Int),(((),()),(dx s,(((),()),(same,(can,()))))))/\same.n=s.1.n/\can.n=s.1.n/\(∀ t,t < s.1.n->(same.g t).n=(s.1.g t).2.1.n/\(can.g t).n=(s.1.g t).2.1.n) /\
      ∀ i,i < j->(same.g 0).g i=((-1:Int),())/\(can.g 0).g i=(s.1.g 0).2.1.g i)
    (q:=fun v=>.exit 2 v.2) (s.1.g 0).2.1.n (by unfold cz; omega) (fun j v hj hp=>by
      obtain ⟨same,can,rfl,g1,g2,g3,g4⟩:=hp
      refine ⟨(((j + 1:Nat):Int),(((),()),(dx s,(((),()),(bO same 0 (bO (same.g 0) j ((-1:Int),())),(bO can 0 (bO (can.g 0) j ((s.1.g 0).2.1.g j)),())))))),?_,_,_,rfl,g1,g2,fun t ht=>?_,fun i hi'=>?_⟩
      · unfold aEU aFU
        have w1:W ((j:Int) + 1)=((j + 1:Nat):Int):=by rw [gQ ⟨by omega,by omega⟩]; rfl
        have b1:(0:Int)<=0/\(0:Int) < (same.n:Int):=by omega
        have b2:(0:Int)<=0/\(0:Int) < (can.n:Int):=by omega
        refine (aq (decide_eq_true (dW hj))).trans ?_
        refine (aq (decide_eq_true b1)).trans ?_
        refine (aq (decide_eq_true b2)).trans ?_
        refine (aK (aEH (t:=0) xU hj)).trans ?_
        refine (aq (decide_eq_true (aQ (n:=(same.g 0).n) (by rw [(g3 0 xU).1]; exact hj)))).trans ?_
        refine (aq (decide_eq_true (aQ (n:=(can.g 0).n) (by rw [(g3 0 xU).2]; exact hj)))).trans ?_
        exact congrArg (fun q:Int=>nx1 s q (bO same 0 (bO (same.g 0) j ((-1:Int),()))) (bO can 0 (bO (can.g 0) j ((s.1.g 0).2.1.g j)))) w1
      · by_cases e:t=0
        · subst e; rw [fq,fq]; exact g3 0 ht
        · rw [gy _ e,gy _ e]; exact g3 t ht
      · rw [fq,fq]
        by_cases e:i=j
        · subst e; rw [fq,fq]; exact ⟨rfl,rfl⟩
        · rw [gy _ e,gy _ e]; exact g4 i (by omega)) (fun v hp=>by
      obtain ⟨same,can,rfl,g1,g2,g3,g4⟩:=hp
      unfold aEU aFU
      have:¬ ((((s.1.g 0).2.1.n:Nat):Int) < (((s.1.g 0).2.1.n:Nat):Int)):=by omega
      exact (aR (decide_eq_false this)).trans rfl) ((0:Int),(((),()),(dx s,(((),()),(same,(can,())))))) ⟨same,can,rfl,h1,h2,h3,fun i hi'=>by omega⟩
  refine ⟨gz,mF,⟨g1,g2,fun t ht=>(g3 t ht).1,fun t ht=>(g3 t ht).2,fun t ht i hi'=>?_,fun i hi'=>by simp at hi',fun t ht i hi'=>?_,fun i hi'=>by simp at hi'⟩,g5.trans ?_⟩
  · have:t=0:=by simp at ht; exact ht
    subst this
    rw [(g4 i hi').1]
    show (-1:Int)=(first (cB s)).getD i (-1)
    simp only [first,List.getD_eq_getElem?_getD,List.getElem?_replicate]
    rw [if_pos (show i < (cB s).k 0 from hi')]
    rfl
  · have:t=0:=by simp at ht; exact ht
    subst this
    exact (g4 i hi').2
  · rw [hv]
theorem FX (hs:(cB s).Ok):kz (cB s) (s.1.n - 1) 1<=20:=by
 have WM:=eF hs
 have h:∀ m t,t + m<=s.1.n->kz (cB s) m t<=4 * m + 1:=by
  intro m
  induction m with
  | zero=>intro t _; exact Nat.le_refl _
  | succ m ih =>
   intro t ht
   have h1:=ih (t + 1) (by omega)
   have h2:=dN hs (t:=t) (by omega)
   have h3:(cB s).k t=(s.1.g t).2.1.n:=rfl
   simp only [kz,h3]
   omega
 have xU:0 < s.1.n:=hs.n1
 have:=h (s.1.n - 1) 1 (by omega)
 omega
theorem aWq (hs:(cB s).Ok):∃ z:Sl fD.den,M30 (no_index (s,()))=some (z,())/\z.list.map toL=links (cB s)/\∀ it∈z.list,Good s it:=by
 have WM:=eF hs
 have xU:0 < s.1.n:=hs.n1
 obtain ⟨same,can,h1,h2,h3,h4⟩:=aPK hs
 obtain ⟨gz,mF,g1,g2⟩:=aPL hs h1 h2 h3
 have hsh:Shape s [first (cB s)] []:=⟨by simp,xU,fun t ht=>by
   have:t=0:=by simp at ht; exact ht
   subst this; simp [first]; rfl,fun t i x ht=>by simp at ht,fun _=>Nat.zero_le _,fun _=>rfl,fun i x hx=>by simp at hx⟩
 obtain ⟨z',JO,VU,items,f1,f2,f3,f4,f5⟩:=baX hs 20 [first (cB s)] [] z0 0 0 gz mF (FX hs) hsh g1 (Int.le_refl _) hs.bn.1 (Int.le_refl _) hs.gn.1
 have hz:z0.list=[]:=rfl
 rw [hz,List.nil_append] at f2
 refine ⟨z',?_,by rw [f2,f3]; exact VT hs (FX hs),by rw [f2]; exact f4⟩
 have hu:u61 () (s,())=some z':=by
  unfold u61 Q61
  have baY:(0:Int) < (s.1.n:Int)/\((s.1.n:Int)<=281474976710656/\(s.1.n:Int) * 24<=281474976710656):=by omega
  have a0:(0:Int)<=0/\(0:Int) < (s.1.n:Int):=by omega
  refine (aq (decide_eq_true baY)).trans ?_
  refine (aq (decide_eq_true baY)).trans ?_
  refine (bp h4).trans ?_
  refine (aq (decide_eq_true a0)).trans ?_
  refine (bp g2).trans ?_
  refine (aK f1).trans ?_
  rfl
 unfold M30 Q30
 have hp:aT2 () (s,())=true:=by show (u61 () (s,())).isSome=true; rw [hu]; rfl
 refine (aq hp).trans ?_
 show some ((u61 () (s,())).getD _,())=_
 rw [hu]
 rfl
end Go.Dm
namespace Go.Dm
set_option maxRecDepth 100000
open Go.Low
theorem apc (r:Sl sR.den) (hr:r.n<=140737488355328) (x:Int):M76 (no_index (r,(x,())))=some (has (aV r) x,()):=by
 unfold M76 Q76
 have key:aGV (r,(x,())) ((0:Int),())=match fB (fun j=>decide ((show Int from (r.g j).1)=x)) r.n with | some k=>LQ.ret (wy:=au2) (show (aa au2.ret).den from (true,())) | none=>.exit 0 ():=by
  unfold aGV
  refine kG (ps:=aqh) (n:=r.n) (f:=fun j=>((j:Int),())) (qr:=fun k=>LQ.ret (wy:=au2) (show (aa au2.ret).den from (true,()))) (Mk hr) (fun j hj _=>?_) (fun _=>?_)
  ·unfold aGU aGT
   refine (aq (decide_eq_true (dW hj))).trans ?_
   refine (aq (decide_eq_true (aQ hj))).trans ?_
   cases hd:decide ((show Int from (r.g j).1)=x) with
   | true=>exact aq hd
   | false =>
    refine (aR hd).trans ?_
    exact congrArg (fun q:Int=>(RQ.next (show (aa aqh).den from (q,())):RQ aqh au2)) (dR hj hr)
  ·unfold aGU aGT
   have:¬ ((r.n:Int) < (r.n:Int)):=by omega
   exact aR (decide_eq_false this)
 have hh:has (aV r) x=(fB (fun j=>decide ((show Int from (r.g j).1)=x)) r.n).isSome:=by
  rw [Bool.eq_iff_iff,zN]
  cases h:fB (fun j=>decide ((show Int from (r.g j).1)=x)) r.n with
  | some k =>
   obtain ⟨h1,h2,_⟩:=kD h
   have h2:=of_decide_eq_true h2
   exact ⟨fun _=>rfl,fun _=>⟨k,by rw [gR,if_pos h1]; exact congrArg some h2⟩⟩
  | none =>
   have hn:=jg h
   refine ⟨fun ⟨i,hi⟩=>?_,fun h=>by cases h⟩
   rw [gR] at hi
   split at hi
   ·rename_i hlt
    have:=hn i hlt
    rw [decide_eq_false_iff_not] at this
    exact absurd (Option.some.inj hi) this
   ·cases hi
 rw [hh]
 revert key
 cases fB (fun j=>decide ((show Int from (r.g j).1)=x)) r.n with
 | some k=>intro key; refine (congrArg (fun o=>aF o 0 _ (bS o _ _)) key).trans ?_; rfl
 | none=>intro key; refine (congrArg (fun o=>aF o 0 _ (bS o _ _)) key).trans ?_; rfl
theorem Et (r:Sl sR.den) (x:Int):aV (snoc r (x,()))=aV r ++ [x]:=by
 unfold aV
 rw [IP,List.range_succ,List.map_append]
 congr 1
 ·exact List.map_congr_left fun i hi=>by rw [Ik (List.mem_range.1 hi)]
 ·simp only [List.map_cons,List.map_nil]
  rw [Il]
theorem FY (o:cT) (y:Sl sR.den):aW (snoc o (y,()))=aW o ++ [aV y]:=by
 unfold aW
 rw [IP,List.range_succ,List.map_append]
 congr 1
 ·exact List.map_congr_left fun i hi=>by rw [Ik (List.mem_range.1 hi)]
 ·simp only [List.map_cons,List.map_nil]
  rw [Il]
theorem dI (o:cT):(aW o).length=o.n:=by simp [aW]
theorem tW {o:cT} {i:Nat} (h:i < o.n):(aW o)[i]? = some (aV (o.g i).1):=by
 unfold aW
 rw [List.getElem?_map,List.getElem?_range h]; rfl
theorem JR (before:Nat):∀ (m:Nat) (out:LL),Ij before (m + 1) out=(Ij before m out).flatMap (me before)
 | 0,out=>rfl
 | m + 1,out=>by rw [Ij,JR before m]; rfl
theorem JT {before:Nat} {r:List Int}:(me before r).length<=before + 1:=by
 unfold me
 rw [List.length_cons]
 have:∀ l:List Nat,(l.flatMap fun b:Nat=>if has r (b:Int) then [] else [r ++ [(b:Int)]]).length<=l.length:=by
  intro l
  induction l with
  | nil=>exact Nat.le_refl _
  | cons a l ih =>
   rw [List.flatMap_cons,List.length_append,List.length_cons]
   split
   ·rw [List.length_nil]; omega
   ·rw [List.length_singleton]; omega
 have:=this (List.range before)
 rw [List.length_range] at this
 omega
theorem uU {α β:Type} {l:List α} {f:α->List β} {k:Nat} (h:∀ a∈l,(f a).length<=k):(l.flatMap f).length<=k * l.length:=by
 induction l with
 | nil=>simp
 | cons a l ih =>
  rw [List.flatMap_cons,List.length_append,List.length_cons,Nat.mul_succ]
  have:=h a (.head _)
  have:=ih fun b hb=>h b (.tail _ hb)
  omega
theorem Ip {before:Nat} (hb:before<=3):∀ m,(Ij before m [[]]).length<=4 ^ m
 | 0=>by simp [Ij]
 | m + 1=>by
  rw [JR]
  have h1:=uU (l:=Ij before m [[]]) (f:=me before) (k:=4) fun a _=>Nat.le_trans JT (by omega)
  have h2:=Ip hb m
  rw [Nat.pow_succ]
  omega
theorem ahb {before m:Nat} {x:List Int} (h:x∈Ij before m [[]]):x.length=m:=by
 rw [ME] at h
 simp only [List.flatMap_cons,List.flatMap_nil,List.append_nil] at h
 have:=(vP h).2
 simpa using this
theorem aWX {k before low:Int} {out:cT} {i b:Nat} (hi:i < out.n) (hb:before=(b:Int)) (hb3:b<=3) (hrow:(out.g i).1.n<=1000) (WN:cT) (hn0:WN.n<=1000000) :
    ∃ nx:cT,auC (k,(before,(out,(low,((i:Int),()))))) (WN,((-1:Int),())) = .exit 4 (nx,())/\aW nx=aW WN ++ me b (aV (out.g i).1):=by
  subst hb
  unfold auC
  have e:Int.toNat (i:Int)=i:=rfl
  have h8:(out.g i).1.n * 8<=140737488355328:=by omega
  have h9:((out.g i).1.n + 1) * 8<=140737488355328:=by omega
  obtain ⟨v,⟨nx,hv,h1⟩,h2⟩:=jq (step:=ajk (k,((b:Int),(out,(low,((i:Int),())))))) (N:=cz)
    (P:=fun j v=>∃ nx:cT,v=(nx,((j:Int) - 1,()))/\aW nx=aW WN ++ match j with | 0=>[] | j + 1=>me j (aV (out.g i).1))
    (q:=fun v=>.exit 4 (v.1,())) (b + 1) (by unfold cz; omega) (fun j v hj hp=>by
      obtain ⟨nx,rfl,h1⟩:=hp
      have hlen:nx.n<=WN.n + 4:=by
        have:=congrArg List.length h1
        rw [List.length_append,dI,dI] at this
        cases j with
        | zero=>simp at this; omega
        | succ j =>
          have h3:=JT (before:=j) (r:=aV (out.g i).1)
          simp only at this
          omega
      have aDq:(nx.n + 1) * 24<=140737488355328:=by omega
      have hlt:(j:Int) - 1 < (b:Int):=by omega
      have w1:W ((j:Int) - 1 + 1)=((j + 1:Nat):Int) - 1:=by rw [gQ ⟨by omega,by omega⟩]; omega
      cases j with
      | zero =>
        have hneg:((0:Nat):Int) - 1 < 0:=by omega
        refine ⟨(snoc nx (snoc (out.g i).1 (((0:Nat):Int) - 1,()),()),(((0 + 1:Nat):Int) - 1,())),?_,_,rfl,?_⟩
        · unfold ajk amU
          refine (aq (decide_eq_true hlt)).trans ?_
          refine (aq (decide_eq_true hneg)).trans ?_
          refine (aq (decide_eq_true (aQ hi))).trans ?_
          refine (aq (decide_eq_true h8)).trans ?_
          refine (aq (decide_eq_true h9)).trans ?_
          refine (aq (decide_eq_true aDq)).trans ?_
          exact congrArg (fun q:Int=>(RQ.next (show (aa ia).den from (snoc nx (snoc (out.g i).1 (((0:Nat):Int) - 1,()),()),(q,()))):RQ ia agV)) w1
        · rw [FY,Et,h1,List.append_nil]
          rfl
      | succ j =>
        have hneg:¬ (((j + 1:Nat):Int) - 1 < 0):=by omega
        have ej:((j + 1:Nat):Int) - 1=(j:Int):=by omega
        have hM:=apc (out.g i).1 (by omega) (((j + 1:Nat):Int) - 1)
        have hst:me (j + 1) (aV (out.g i).1)=me j (aV (out.g i).1) ++ if has (aV (out.g i).1) (j:Int) then [] else [aV (out.g i).1 ++ [(j:Int)]]:=by
          simp only [me,List.range_succ,List.flatMap_append,List.flatMap_cons,List.flatMap_nil,List.append_nil,List.cons_append]
        cases hh:has (aV (out.g i).1) (((j + 1:Nat):Int) - 1) with
        | true =>
          refine ⟨(nx,(((j + 1 + 1:Nat):Int) - 1,())),?_,nx,rfl,?_⟩
          · unfold ajk amU
            refine (aq (decide_eq_true hlt)).trans ?_
            refine (aR (decide_eq_false hneg)).trans ?_
            refine (aq (decide_eq_true (aQ hi))).trans ?_
            refine (aK hM).trans ?_
            rw [hh]
            exact congrArg (fun q:Int=>(RQ.next (show (aa ia).den from (nx,(q,()))):RQ ia agV)) w1
          · rw [ej] at hh
            rw [h1]
            show _=_ ++ me (j + 1) _
            rw [hst,hh,if_pos rfl,List.append_nil]
        | false =>
          refine ⟨(snoc nx (snoc (out.g i).1 (((j + 1:Nat):Int) - 1,()),()),(((j + 1 + 1:Nat):Int) - 1,())),?_,_,rfl,?_⟩
          · unfold ajk amU
            refine (aq (decide_eq_true hlt)).trans ?_
            refine (aR (decide_eq_false hneg)).trans ?_
            refine (aq (decide_eq_true (aQ hi))).trans ?_
            refine (aK hM).trans ?_
            rw [hh]
            refine (aq (decide_eq_true (aQ hi))).trans ?_
            refine (aq (decide_eq_true h8)).trans ?_
            refine (aq (decide_eq_true h9)).trans ?_
            refine (aq (decide_eq_true aDq)).trans ?_
            exact congrArg (fun q:Int=>(RQ.next (show (aa ia).den from (snoc nx (snoc (out.g i).1 (((j + 1:Nat):Int) - 1,()),()),(q,()))):RQ ia agV)) w1
          · rw [ej] at hh
            rw [FY,Et,h1,ej]
            show _=_ ++ me (j + 1) _
            rw [hst,hh,if_neg (by simp),List.append_assoc]) (fun v hp=>by
      obtain ⟨nx,rfl,h1⟩:=hp
      unfold ajk amU
      have:¬ (((b + 1:Nat):Int) - 1 < (b:Int)):=by omega
      exact aR (decide_eq_false this)) (WN,((-1:Int),())) ⟨WN,rfl,by rw [List.append_nil]⟩
  exact ⟨nx,h2.trans (by rw [hv]),h1⟩
theorem aPM {k before low:Int} {out:cT} {b m:Nat} (hb:before=(b:Int)) (hb3:b<=3) (hout:out.n<=100000) (hrow:∀ i,i < out.n->(out.g i).1.n<=1000) :
    ∃ nx:cT,aBc (k,(before,(out,(low,())))) ((⟨0,fun i=>((⟨0,fun i=>((0:Int),())⟩:Sl _),())⟩:Sl _),((0:Int),())) = .exit 2 (nx,())/\aW nx=(aW out).flatMap (me b):=by
  unfold aBc
  obtain ⟨v,⟨nx,hv,h1⟩,h2⟩:=jq (step:=axV (k,(before,(out,(low,()))))) (N:=cz)
    (P:=fun j v=>∃ nx:cT,v=(nx,((j:Int),()))/\aW nx=((aW out).take j).flatMap (me b))
    (q:=fun v=>.exit 2 (v.1,())) out.n (by unfold cz; omega) (fun j v hj hp=>by
      obtain ⟨nx,rfl,h1⟩:=hp
      have hlen:nx.n<=1000000:=by
        have:=congrArg List.length h1
        rw [dI] at this
        have h3:=uU (l:=(aW out).take j) (f:=me b) (k:=4) fun a _=>Nat.le_trans JT (by omega)
        rw [List.length_take,dI] at h3
        omega
      obtain ⟨nx',g1,g2⟩:=aWX (k:=k) (low:=low) hj hb hb3 (hrow j hj) nx hlen
      refine ⟨(nx',(((j + 1:Nat):Int),())),?_,nx',rfl,?_⟩
      · unfold axV aBb
        refine (aq (decide_eq_true (dW hj))).trans ?_
        refine (bp g1).trans ?_
        exact congrArg (fun q:Int=>(RQ.next (show (aa LG).den from (nx',(q,()))):RQ LG aw6)) (dR hj (by omega))
      · rw [g2,h1,List.take_add_one,tW hj,List.flatMap_append]
        simp) (fun v hp=>by
      obtain ⟨nx,rfl,h1⟩:=hp
      unfold axV aBb
      have:¬ ((out.n:Int) < (out.n:Int)):=by omega
      exact aR (decide_eq_false this)) ((⟨0,fun i=>((⟨0,fun i=>((0:Int),())⟩:Sl _),())⟩:Sl _),((0:Int),())) ⟨_,rfl,rfl⟩
  exact ⟨nx,h2.trans (by rw [hv]),by rw [h1,List.take_of_length_le (by rw [dI]; exact Nat.le_refl _)]⟩
theorem awZ {k b:Nat} (hk:k<=3) (hb:b<=3):∃ rows:cT,M41 (no_index ((k:Int),((b:Int),())))=some (rows,())/\aW rows=gV b k []/\rows.n<=64:=by
  have key:∃ rows:cT,TQ ((k:Int),((b:Int),())) ((⟨1,fun i=>List.getD [((⟨0,fun i=>((0:Int),())⟩:Sl _),())] i ((⟨0,fun i=>((0:Int),())⟩:Sl _),())⟩:Sl _),((0:Int),())) = .exit 0 (rows,())/\aW rows=Ij b k [[]]:=by
    unfold TQ
    obtain ⟨v,⟨nx,hv,h1⟩,h2⟩:=jq (step:=TP ((k:Int),((b:Int),()))) (N:=cz)
      (P:=fun j v=>∃ nx:cT,v=(nx,((j:Int),()))/\aW nx=Ij b j [[]])
      (q:=fun v=>.exit 0 (v.1,())) k (by unfold cz; omega) (fun j v hj hp=>by
        obtain ⟨nx,rfl,h1⟩:=hp
        have hlen:nx.n<=100000:=by
          have:=congrArg List.length h1
          rw [dI] at this
          have h3:=Ip hb j
          have h4:4 ^ j<=4 ^ 3:=Nat.pow_le_pow_right (by omega) (by omega)
          omega
        have hrow:∀ i,i < nx.n->(nx.g i).1.n<=1000:=fun i hi=>by
          have h3:=List.mem_of_getElem? (tW hi)
          rw [h1] at h3
          have h4:=ahb h3
          rw [iN] at h4
          omega
        obtain ⟨nx',g1,g2⟩:=aPM (m:=0) (k:=(k:Int)) (low:=(j:Int)) (before:=(b:Int)) rfl hb hlen hrow
        refine ⟨(nx',(((j + 1:Nat):Int),())),?_,nx',rfl,?_⟩
        · unfold TP TO
          refine (aq (decide_eq_true (dW hj))).trans ?_
          refine (bp g1).trans ?_
          exact congrArg (fun q:Int=>(RQ.next (show (aa mq).den from (nx',(q,()))):RQ mq Ee)) (dR hj (by omega))
        · rw [g2,h1,JR]) (fun v hp=>by
        obtain ⟨nx,rfl,h1⟩:=hp
        unfold TP TO
        have:¬ ((k:Int) < (k:Int)):=by omega
        exact aR (decide_eq_false this)) ((⟨1,fun i=>List.getD [((⟨0,fun i=>((0:Int),())⟩:Sl _),())] i ((⟨0,fun i=>((0:Int),())⟩:Sl _),())⟩:Sl _),((0:Int),())) ⟨_,rfl,rfl⟩
    exact ⟨nx,h2.trans (by rw [hv]),h1⟩
  obtain ⟨rows,h1,h2⟩:=key
  refine ⟨rows,?_,by rw [h2,ME]; simp,?_⟩
  · unfold M41 Q41
    exact bp h1
  · have:=congrArg List.length h2
    rw [dI] at this
    have h3:=Ip hb k
    have h4:4 ^ k<=4 ^ 3:=Nat.pow_le_pow_right (by omega) (by omega)
    omega
end Go.Dm
namespace Go.Dm
set_option maxRecDepth 100000
open Go.Low
variable {s:tS.den}
theorem kH {o:cT} {t:Nat} (h:t < o.n):(aW o).getD t []=aV (o.g t).1:=by
 rw [List.getD_eq_getElem?_getD,tW h]; rfl
theorem gu {o:cT} {t:Nat} (h:t < o.n):(aW o).take (t + 1)=(aW o).take t ++ [aV (o.g t).1]:=by
 rw [List.take_add_one,tW h]; rfl
theorem wq {o:cT} {t:Nat} (h:t<=o.n):((aW o).take t).length=t:=by rw [List.length_take,dI]; omega
theorem getD_take {L:LL} {t j:Nat} (h:t < j):(L.take j).getD t []=L.getD t []:=by
 simp only [List.getD_eq_getElem?_getD]
 rw [List.getElem?_take_of_lt h]
theorem LM (r:List Int) (x:Int):eO (r ++ [x])=eO r + (bif decide (x = -1) then 1 else 0):=by
 unfold eO
 rw [List.count_append]
 congr 1
theorem Eu {r:Sl sR.den} {j:Nat} (h:j < r.n):(aV r).take (j + 1)=(aV r).take j ++ [(show Int from (r.g j).1)]:=by
 rw [List.take_add_one,gR,if_pos h]; rfl
theorem aWY {o : cT} {t : Nat} (ht : t < o.n) (hk : (o.g t).1.n ≤ 3) {c0 : Nat} (hc : c0 ≤ 100) :
    aAY (o, ((t : Int), ())) ((c0 : Int), ((0 : Int), ())) = .exit 2 (((c0 + eO (aV (o.g t).1) : Nat) : Int), ()) := by
  unfold aAY
  have hb : ∀ j, eO ((aV (o.g t).1).take j) ≤ j := fun j => by
    unfold eO
    exact Nat.le_trans List.count_le_length (by rw [List.length_take]; omega)
  have e2 : (aV (o.g t).1).take (o.g t).1.n = aV (o.g t).1 := List.take_of_length_le (by rw [iN]; exact Nat.le_refl _)
  have key : aH (axG (o, ((t : Int), ()))) cz (((c0 + eO ((aV (o.g t).1).take 0) : Nat) : Int), ((0 : Int), ())) = .exit 2 (((c0 + eO ((aV (o.g t).1).take (o.g t).1.n) : Nat) : Int), ()) := by
   refine bQ (ps := iD) (o.g t).1.n cz (fun j => (((c0 + eO ((aV (o.g t).1).take j) : Nat) : Int), ((j : Int), ()))) (by unfold cz; omega) (fun j hj => ?_) ?_
   · unfold axG aAW
     refine (aq (decide_eq_true (aQ ht))).trans ?_
     refine (aq (decide_eq_true (dW hj))).trans ?_
     refine (aq (decide_eq_true (aQ ht))).trans ?_
     refine (aq (decide_eq_true (aQ hj))).trans ?_
     have Gr := hb j
     have w1 : W ((j : Int) + 1) = ((j + 1 : Nat) : Int) := dR hj (by omega)
     have hs := LM ((aV (o.g t).1).take j) (show Int from ((o.g t).1.g j).1)
     rw [← Eu hj] at hs
     cases hd : decide ((show Int from ((o.g t).1.g j).1) = -1) with
     | true =>
       rw [hd, cond_true] at hs
       refine (aq hd).trans ?_
       have w2 : W (((c0 + eO ((aV (o.g t).1).take j) : Nat) : Int) + 1) = ((c0 + eO ((aV (o.g t).1).take (j + 1)) : Nat) : Int) := by rw [gQ ⟨by omega, by omega⟩, hs]; omega
       exact (congrArg (fun q : Int => (RQ.next (show (aa iD).den from (q, (W ((j : Int) + 1), ()))) : RQ iD aqg)) w2).trans (congrArg (fun q : Int => (RQ.next (show (aa iD).den from (((c0 + eO ((aV (o.g t).1).take (j + 1)) : Nat) : Int), (q, ()))) : RQ iD aqg)) w1)
     | false =>
       rw [hd, cond_false, Nat.add_zero] at hs
       refine (aR hd).trans ?_
       rw [hs]
       exact congrArg (fun q : Int => (RQ.next (show (aa iD).den from (((c0 + eO ((aV (o.g t).1).take j) : Nat) : Int), (q, ()))) : RQ iD aqg)) w1
   · unfold axG aAW
     refine (aq (decide_eq_true (aQ ht))).trans ?_
     have : ¬ (((o.g t).1.n : Int) < ((o.g t).1.n : Int)) := by omega
     exact aR (decide_eq_false this)
  rw [e2] at key
  exact key
theorem BO {o:cT} (hk:∀ t,t < o.n->(o.g t).1.n<=3):∀ j,j + 1<=o.n->eP ((aW o).take (j + 1))<=3 * j
 | 0,h=>by
  have:(aW o).take 1=[aV (o.g 0).1]:=by have:=gu (o:=o) (t:=0) (by omega); simpa using this
  show eP ((aW o).take 1)<=0
  rw [this]; exact Nat.le_refl _
 | j + 1,h=>by
  rw [gu (by omega),qZ (by rw [wq (by omega)]; omega)]
  have h1:=BO hk j (by omega)
  have h2:eO (aV (o.g (j + 1)).1)<=(aV (o.g (j + 1)).1).length:=List.count_le_length
  rw [iN] at h2
  have:=hk (j + 1) (by omega)
  omega
theorem aw1 {o:cT} (h1:0 < o.n) (hn:o.n<=4) (hk:∀ t,t < o.n->(o.g t).1.n<=3):M42 (no_index (o,()))=some (((eP (aW o):Nat):Int),()):=by
 obtain ⟨n,xU⟩:∃ n,o.n=n + 1:=⟨o.n - 1,by omega⟩
 have key:aLd (o,()) ((0:Int),((1:Int),())) = .exit 0 (((eP ((aW o).take (n + 1)):Nat):Int),()):=by
  unfold aLd
  have b0:eP ((aW o).take 1)=0:=Nat.le_zero.1 (BO hk 0 (by omega))
  have:=bQ (step:=aEW (o,())) n cz (fun j=>(((eP ((aW o).take (j + 1)):Nat):Int),(((j + 1:Nat):Int),()))) (by unfold cz; omega) (fun j hj=>by
   unfold aEW aGS
   have hj1:j + 1 < o.n:=by omega
   refine (aq (decide_eq_true (dW hj1))).trans ?_
   have hle:=BO hk j (by omega)
   refine (bp (aWY hj1 (hk _ hj1) (c0:=eP ((aW o).take (j + 1))) (by omega))).trans ?_
   have e:eP ((aW o).take (j + 1)) + eO (aV (o.g (j + 1)).1)=eP ((aW o).take (j + 1 + 1)):=by
    rw [gu hj1,qZ (by rw [wq (by omega)]; omega)]
   rw [e]
   exact congrArg (fun q:Int=>(RQ.next (show (aa auv).den from (((eP ((aW o).take (j + 1 + 1)):Nat):Int),(q,()))):RQ auv aEA)) (dR hj1 (by omega))) (q:=.exit 0 (((eP ((aW o).take (n + 1)):Nat):Int),())) (by
   unfold aEW aGS
   have:¬ (((n + 1:Nat):Int) < (o.n:Int)):=by omega
   exact aR (decide_eq_false this))
  have e0:(((eP ((aW o).take (0 + 1)):Nat):Int),(((0 + 1:Nat):Int),()))=((0:Int),((1:Int),())):=by
   show (((eP ((aW o).take 1):Nat):Int),((1:Int),()))=_
   rw [b0]; rfl
  rw [<- e0]
  exact this
 unfold M42 Q42
 refine (bp key).trans ?_
 rw [List.take_of_length_le (by rw [dI]; omega)]
theorem aWZ {o:cT} {t:Nat} (ht:t + 1 < o.n) (hn:o.n<=4) (hk:∀ t,t < o.n->(o.g t).1.n<=3) {c0:Nat} (hc:c0<=100) :
  aA4 (o,(((t + 1:Nat):Int),())) ((c0:Int),((0:Int),())) = .exit 2 (((c0 + eY (o.g t).1.n (aV (o.g (t + 1)).1):Nat):Int),()):=by
 unfold aA4
 have hm:∀ j r,eY j r<=j:=fun j r=>by
  unfold eY
  exact Nat.le_trans (List.length_filter_le _ _) (by simp)
 have Ml:=hk t (by omega)
 have hk1:=hk (t + 1) ht
 have wp:=wo (n:=o.n) (by omega) ht
 have e4:∀ {α:Type} (x y:α),(bif decide ((0:Int)<=W (((t + 1:Nat):Int) - 1)/\W (((t + 1:Nat):Int) - 1) < (o.n:Int)) then x else y)=x:=fun x y=>by rw [wp]; exact aq (decide_eq_true (aQ (Nat.lt_of_succ_lt ht)))
 have e5:∀ {α:Type} (j:Nat) (x y:α),(bif decide ((j:Int) < (((o.g (Int.toNat (W (((t + 1:Nat):Int) - 1)))).1.n:Nat):Int)) then x else y)=(bif decide ((j:Int) < (((o.g t).1.n:Nat):Int)) then x else y):=fun j x y=>by rw [wp]; rfl
 refine bQ (ps:=iX) (o.g t).1.n cz (fun j=>(((c0 + eY j (aV (o.g (t + 1)).1):Nat):Int),((j:Int),()))) (by unfold cz; omega) (fun j hj=>?_) ?_
 ·unfold aA3 aA1
  refine (e4 _ _).trans ?_
  refine (e5 j _ _).trans ?_
  refine (aq (decide_eq_true (dW hj))).trans ?_
  refine (aq (decide_eq_true (aQ ht))).trans ?_
  refine (aK (apc (o.g (t + 1)).1 (by omega) (j:Int))).trans ?_
  have hmj:=hm j (aV (o.g (t + 1)).1)
  have hs:=Ck j (aV (o.g (t + 1)).1)
  have w1:W ((j:Int) + 1)=((j + 1:Nat):Int):=dR hj (by omega)
  cases hd:has (aV (o.g (t + 1)).1) (j:Int) with
  | true =>
   rw [hd,cond_true,Nat.add_zero] at hs
   rw [hs]
   exact congrArg (fun q:Int=>(RQ.next (show (aa iX).den from (((c0 + eY j (aV (o.g (t + 1)).1):Nat):Int),(q,()))):RQ iX aqs)) w1
  | false =>
   rw [hd,cond_false] at hs
   have w2:W (((c0 + eY j (aV (o.g (t + 1)).1):Nat):Int) + 1)=((c0 + eY (j + 1) (aV (o.g (t + 1)).1):Nat):Int):=by rw [gQ ⟨by omega,by omega⟩,hs]; omega
   exact (congrArg (fun q:Int=>(RQ.next (show (aa iX).den from (q,(W ((j:Int) + 1),()))):RQ iX aqs)) w2).trans (congrArg (fun q:Int=>(RQ.next (show (aa iX).den from (((c0 + eY (j + 1) (aV (o.g (t + 1)).1):Nat):Int),(q,()))):RQ iX aqs)) w1)
 ·unfold aA3 aA1
  refine (e4 _ _).trans ?_
  refine (e5 _ _ _).trans ?_
  have:¬ (((o.g t).1.n:Int) < ((o.g t).1.n:Int)):=by omega
  exact aR (decide_eq_false this)
theorem AG {o:cT} {j:Nat} (hj:j + 1 < o.n):fc ((aW o).take (j + 1 + 1))=fc ((aW o).take (j + 1)) + eY (o.g j).1.n (aV (o.g (j + 1)).1):=by
 rw [gu hj,Ci (by rw [wq (by omega)]; omega),wq (by omega),Nat.add_sub_cancel,getD_take (by omega),kH (by omega),iN]
theorem BP {o:cT} (hk:∀ t,t < o.n->(o.g t).1.n<=3):∀ j,j + 1<=o.n->fc ((aW o).take (j + 1))<=3 * j
 | 0,h=>by
  have:(aW o).take 1=[aV (o.g 0).1]:=by have:=gu (o:=o) (t:=0) (by omega); simpa using this
  show fc ((aW o).take 1)<=0
  rw [this]; exact Nat.le_refl _
 | j + 1,h=>by
  rw [AG (by omega)]
  have h1:=BP hk j (by omega)
  have h2:eY (o.g j).1.n (aV (o.g (j + 1)).1)<=(o.g j).1.n:=by
   unfold eY
   exact Nat.le_trans (List.length_filter_le _ _) (by simp)
  have:=hk j (by omega)
  omega
theorem aBv {o:cT} (h1:0 < o.n) (hn:o.n<=4) (hk:∀ t,t < o.n->(o.g t).1.n<=3):M43 (no_index (o,()))=some (((fc (aW o):Nat):Int),()):=by
 obtain ⟨n,xU⟩:∃ n,o.n=n + 1:=⟨o.n - 1,by omega⟩
 have key:aLg (o,()) ((0:Int),((1:Int),())) = .exit 0 (((fc ((aW o).take (n + 1)):Nat):Int),()):=by
  unfold aLg
  have b0:fc ((aW o).take 1)=0:=Nat.le_zero.1 (BP hk 0 (by omega))
  have:=bQ (step:=aEX (o,())) n cz (fun j=>(((fc ((aW o).take (j + 1)):Nat):Int),(((j + 1:Nat):Int),()))) (by unfold cz; omega) (fun j hj=>by
   unfold aEX aGW
   have hj1:j + 1 < o.n:=by omega
   refine (aq (decide_eq_true (dW hj1))).trans ?_
   have hle:=BP hk j (by omega)
   refine (bp (aWZ hj1 hn hk (c0:=fc ((aW o).take (j + 1))) (by omega))).trans ?_
   rw [<- AG hj1]
   exact congrArg (fun q:Int=>(RQ.next (show (aa auw).den from (((fc ((aW o).take (j + 1 + 1)):Nat):Int),(q,()))):RQ auw aEB)) (dR hj1 (by omega))) (q:=.exit 0 (((fc ((aW o).take (n + 1)):Nat):Int),())) (by
   unfold aEX aGW
   have:¬ (((n + 1:Nat):Int) < (o.n:Int)):=by omega
   exact aR (decide_eq_false this))
  have e0:(((fc ((aW o).take (0 + 1)):Nat):Int),(((0 + 1:Nat):Int),()))=((0:Int),((1:Int),())):=by
   show (((fc ((aW o).take 1):Nat):Int),((1:Int),()))=_
   rw [b0]; rfl
  rw [<- e0]
  exact this
 unfold M43 Q43
 refine (bp key).trans ?_
 rw [List.take_of_length_le (by rw [dI]; omega)]
end Go.Dm

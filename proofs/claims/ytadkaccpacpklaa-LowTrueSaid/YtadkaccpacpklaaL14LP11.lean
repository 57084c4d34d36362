/-
 Of the plain law.
-/
import Derived.Test.YtadkaccpacpklaaL14LP4
set_option linter.unusedVariables false
set_option linter.unusedSimpArgs false
namespace Go.Dm
set_option maxRecDepth 100000
open Go.Low
variable {s:tS.den} {same:kA} {can:sq}
def z0:Sl fD.den:=⟨0,fun i=>(((⟨0,fun i=>((0:Int),((⟨0,fun i=>((0:Int),((0:Int),((0:Int),((0:Int),((0:Int),((0:Int),()))))))⟩:Sl _),()))⟩:Sl _),((0:Int),((0:Int),((0:Int),((0:Int),((⟨0,fun i=>((⟨0,fun i=>((0:Int),())⟩:Sl _),())⟩:Sl _),())))))),())⟩
def rS (k:Nat):Sl sR.den:=⟨k,fun _=>((0:Int),())⟩
def rC (k:Nat):Sl Py.den:=⟨k,fun _=>((0:Int),((0:Int),((0:Int),((0:Int),((0:Int),((0:Int),()))))))⟩
def WN (s:tS.den) (q:Int) (A:kA) (B:sq):RQ iP nN:=.next (q,(((),()),(dx s,(((),()),(A,(B,()))))))
def nx1 (s:tS.den) (q:Int) (A:kA) (B:sq):RQ iQ nO:=.next (q,(((),()),(dx s,(((),()),(A,(B,()))))))
theorem aaB (hs:(cB s).Ok) :
    ∃ (same:kA) (can:sq),same.n=s.1.n/\can.n=s.1.n/\(∀ t,t < s.1.n->(same.g t).n=(s.1.g t).2.1.n/\(can.g t).n=(s.1.g t).2.1.n) /\
      GA (z0,(s,((),((),((),(s.1,((s.1.n:Int),()))))))) ((0:Int),(((),()),(dx s,(((),()),((⟨s.1.n,fun _=>(⟨0,fun i=>((0:Int),())⟩:Sl _)⟩:kA),((⟨s.1.n,fun _=>(⟨0,fun i=>((0:Int),((0:Int),((0:Int),((0:Int),((0:Int),((0:Int),()))))))⟩:Sl _)⟩:sq),())))))) =
        .exit 0 (((),()),(dx s,(((),()),(same,(can,()))))):=by
  have WM:=eF hs
  unfold GA
  obtain ⟨v,⟨same,can,hv,h1,h2,h3⟩,h4⟩:=jq (step:=xo (z0,(s,((),((),((),(s.1,((s.1.n:Int),())))))))) (N:=cz)
    (P:=fun j v=>∃ (same:kA) (can:sq),v=((j:Int),(((),()),(dx s,(((),()),(same,(can,()))))))/\same.n=s.1.n/\can.n=s.1.n/\(∀ t,t < j->(same.g t).n=(s.1.g t).2.1.n/\(can.g t).n=(s.1.g t).2.1.n))
    (q:=fun v=>.exit 0 v.2) s.1.n (by unfold cz; omega) (fun j v hj hp=>by
      obtain ⟨same,can,rfl,g1,g2,g3⟩:=hp
      have hk:=dN hs hj
      refine ⟨(((j + 1:Nat):Int),(((),()),(dx s,(((),()),(bO same j (rS (s.1.g j).2.1.n),(bO can j (rC (s.1.g j).2.1.n),())))))),?_,_,_,rfl,g1,g2,fun t ht=>?_⟩
      · unfold xo Aw
        have w1:W ((j:Int) + 1)=((j + 1:Nat):Int):=by rw [gQ ⟨by omega,by omega⟩]; rfl
        have a8:(0:Int)<=(((s.1.g j).2.1.n:Nat):Int)/\((((s.1.g j).2.1.n:Nat):Int)<=281474976710656/\(((s.1.g j).2.1.n:Nat):Int) * 8<=281474976710656):=by omega
        have PA:(0:Int)<=(((s.1.g j).2.1.n:Nat):Int)/\((((s.1.g j).2.1.n:Nat):Int)<=281474976710656/\(((s.1.g j).2.1.n:Nat):Int) * 48<=281474976710656):=by omega
        refine (aq (decide_eq_true (dW hj))).trans ?_
        refine (aq (decide_eq_true (aQ hj))).trans ?_
        refine (aq (decide_eq_true a8)).trans ?_
        refine (aq (decide_eq_true PA)).trans ?_
        refine (aq (decide_eq_true (aQ (n:=same.n) (by omega)))).trans ?_
        refine (aq (decide_eq_true (aQ (n:=can.n) (by omega)))).trans ?_
        exact congrArg (fun q:Int=>WN s q (bO same j (rS (s.1.g j).2.1.n)) (bO can j (rC (s.1.g j).2.1.n))) w1
      · by_cases e:t=j
        · subst e; rw [fq,fq]; exact ⟨rfl,rfl⟩
        · rw [gy _ e,gy _ e]; exact g3 t (by omega)) (fun v hp=>by
      obtain ⟨same,can,rfl,g1,g2,g3⟩:=hp
      unfold xo Aw
      have:¬ ((s.1.n:Int) < (s.1.n:Int)):=by omega
      exact (aR (decide_eq_false this)).trans rfl) ((0:Int),(((),()),(dx s,(((),()),((⟨s.1.n,fun _=>(⟨0,fun i=>((0:Int),())⟩:Sl _)⟩:kA),((⟨s.1.n,fun _=>(⟨0,fun i=>((0:Int),((0:Int),((0:Int),((0:Int),((0:Int),((0:Int),()))))))⟩:Sl _)⟩:sq),())))))) ⟨_,_,rfl,rfl,rfl,fun t ht=>by omega⟩
  refine ⟨same,can,h1,h2,h3,h4.trans ?_⟩
  rw [hv]
theorem aaC (hs:(cB s).Ok) (h1:same.n=s.1.n) (h2:can.n=s.1.n) (h3:∀ t,t < s.1.n->(same.g t).n=(s.1.g t).2.1.n/\(can.g t).n=(s.1.g t).2.1.n) :
    ∃ (gz:kA) (mF:sq),Inv s [first (cB s)] [] gz mF /\
      GC (z0,(s,((),((),((),((((s.1.g 0).2.1.n:Nat):Int),())))))) ((0:Int),(((),()),(dx s,(((),()),(same,(can,())))))) = .exit 2 (((),()),(dx s,(((),()),(gz,(mF,()))))):=by
  have WM:=eF hs
  have xU:0 < s.1.n:=hs.n1
  have hk:=dN hs xU
  unfold GC
  obtain ⟨v,⟨gz,mF,hv,g1,g2,g3,g4⟩,g5⟩:=jq (step:=xq (z0,(s,((),((),((),((((s.1.g 0).2.1.n:Nat):Int),()))))))) (N:=cz)
    (P:=fun j v=>∃ (same:kA) (can:sq),v=((j:Int),(((),()),(dx s,(((),()),(same,(can,()))))))/\same.n=s.1.n/\can.n=s.1.n/\(∀ t,t < s.1.n->(same.g t).n=(s.1.g t).2.1.n/\(can.g t).n=(s.1.g t).2.1.n) /\
      ∀ i,i < j->(same.g 0).g i=((-1:Int),())/\(can.g 0).g i=(s.1.g 0).2.1.g i)
    (q:=fun v=>.exit 2 v.2) (s.1.g 0).2.1.n (by unfold cz; omega) (fun j v hj hp=>by
      obtain ⟨same,can,rfl,g1,g2,g3,g4⟩:=hp
      refine ⟨(((j + 1:Nat):Int),(((),()),(dx s,(((),()),(bO same 0 (bO (same.g 0) j ((-1:Int),())),(bO can 0 (bO (can.g 0) j ((s.1.g 0).2.1.g j)),())))))),?_,_,_,rfl,g1,g2,fun t ht=>?_,fun i hi'=>?_⟩
      · unfold xq Ax
        have w1:W ((j:Int) + 1)=((j + 1:Nat):Int):=by rw [gQ ⟨by omega,by omega⟩]; rfl
        have b1:(0:Int)<=0/\(0:Int) < (same.n:Int):=by omega
        have b2:(0:Int)<=0/\(0:Int) < (can.n:Int):=by omega
        refine (aq (decide_eq_true (dW hj))).trans ?_
        refine (aq (decide_eq_true b1)).trans ?_
        refine (aq (decide_eq_true b2)).trans ?_
        refine (aK (Po (t:=0) xU hj)).trans ?_
        refine (aq (decide_eq_true (aQ (n:=(same.g 0).n) (by rw [(g3 0 xU).1]; exact hj)))).trans ?_
        refine (aq (decide_eq_true (aQ (n:=(can.g 0).n) (by rw [(g3 0 xU).2]; exact hj)))).trans ?_
        exact congrArg (fun q:Int=>nx1 s q (bO same 0 (bO (same.g 0) j ((-1:Int),()))) (bO can 0 (bO (can.g 0) j ((s.1.g 0).2.1.g j)))) w1
      · by_cases e:t=0
        · subst e; rw [fq,fq]; exact g3 0 ht
        · rw [gy _ e,gy _ e]; exact g3 t ht
      · rw [fq,fq]
        by_cases e:i=j
        · subst e; rw [fq,fq]; exact ⟨rfl,rfl⟩
        · rw [gy _ e,gy _ e]; exact g4 i (by omega)) (fun v hp=>by
      obtain ⟨same,can,rfl,g1,g2,g3,g4⟩:=hp
      unfold xq Ax
      have:¬ ((((s.1.g 0).2.1.n:Nat):Int) < (((s.1.g 0).2.1.n:Nat):Int)):=by omega
      exact (aR (decide_eq_false this)).trans rfl) ((0:Int),(((),()),(dx s,(((),()),(same,(can,())))))) ⟨same,can,rfl,h1,h2,h3,fun i hi'=>by omega⟩
  refine ⟨gz,mF,⟨g1,g2,fun t ht=>(g3 t ht).1,fun t ht=>(g3 t ht).2,fun t ht i hi'=>?_,fun i hi'=>by simp at hi',fun t ht i hi'=>?_,fun i hi'=>by simp at hi'⟩,g5.trans ?_⟩
  · have:t=0:=by simp at ht; exact ht
    subst this
    rw [(g4 i hi').1]
    show (-1:Int)=(first (cB s)).getD i (-1)
    simp only [first,List.getD_eq_getElem?_getD,List.getElem?_replicate]
    rw [if_pos (show i < (cB s).k 0 from hi')]
    rfl
  · have:t=0:=by simp at ht; exact ht
    subst this
    exact (g4 i hi').2
  · rw [hv]
theorem FX (hs:(cB s).Ok):kz (cB s) (s.1.n - 1) 1<=20:=by
 have WM:=eF hs
 have h:∀ m t,t + m<=s.1.n->kz (cB s) m t<=4 * m + 1:=by
  intro m
  induction m with
  | zero=>intro t _; exact Nat.le_refl _
  | succ m ih =>
   intro t ht
   have h1:=ih (t + 1) (by omega)
   have h2:=dN hs (t:=t) (by omega)
   have h3:(cB s).k t=(s.1.g t).2.1.n:=rfl
   simp only [kz,h3]
   omega
 have xU:0 < s.1.n:=hs.n1
 have:=h (s.1.n - 1) 1 (by omega)
 omega
theorem anh (hs:(cB s).Ok):∃ z:Sl fD.den,US (no_index (s,()))=some (z,())/\z.list.map toL=links (cB s)/\∀ it∈z.list,Good s it:=by
 have WM:=eF hs
 have xU:0 < s.1.n:=hs.n1
 obtain ⟨same,can,h1,h2,h3,h4⟩:=aaB hs
 obtain ⟨gz,mF,g1,g2⟩:=aaC hs h1 h2 h3
 have hsh:Shape s [first (cB s)] []:=⟨by simp,xU,fun t ht=>by
   have:t=0:=by simp at ht; exact ht
   subst this; simp [first]; rfl,fun t i x ht=>by simp at ht,fun _=>Nat.zero_le _,fun _=>rfl,fun i x hx=>by simp at hx⟩
 obtain ⟨z',JO,VU,items,f1,f2,f3,f4,f5⟩:=aki hs 20 [first (cB s)] [] z0 0 0 gz mF (FX hs) hsh g1 (Int.le_refl _) hs.bn.1 (Int.le_refl _) hs.gn.1
 have hz:z0.list=[]:=rfl
 rw [hz,List.nil_append] at f2
 refine ⟨z',?_,by rw [f2,f3]; exact VT hs (FX hs),by rw [f2]; exact f4⟩
 have hu:De () (s,())=some z':=by
  unfold De UR
  have a24:(0:Int) < (s.1.n:Int)/\((s.1.n:Int)<=281474976710656/\(s.1.n:Int) * 24<=281474976710656):=by omega
  have a0:(0:Int)<=0/\(0:Int) < (s.1.n:Int):=by omega
  refine (aq (decide_eq_true a24)).trans ?_
  refine (aq (decide_eq_true a24)).trans ?_
  refine (bp h4).trans ?_
  refine (aq (decide_eq_true a0)).trans ?_
  refine (bp g2).trans ?_
  refine (aK f1).trans ?_
  rfl
 unfold US Q81
 have hp:UX () (s,())=true:=by show (De () (s,())).isSome=true; rw [hu]; rfl
 refine (aq hp).trans ?_
 show some ((De () (s,())).getD _,())=_
 rw [hu]
 rfl
end Go.Dm
namespace Go.Dm
set_option maxRecDepth 100000
open Go.Low
theorem acB (r:Sl sR.den) (hr:r.n<=140737488355328) (x:Int):M73 (no_index (r,(x,())))=some (has (aV r) x,()):=by
 unfold M73 Q73
 have key:NR (r,(x,())) ((0:Int),())=match fB (fun j=>decide ((show Int from (r.g j).1)=x)) r.n with | some k=>LQ.ret (wy:=sg) (show (aa sg.ret).den from (true,())) | none=>.exit 0 ():=by
  unfold NR
  refine kG (ps:=mc) (n:=r.n) (f:=fun j=>((j:Int),())) (qr:=fun k=>LQ.ret (wy:=sg) (show (aa sg.ret).den from (true,()))) (Mk hr) (fun j hj _=>?_) (fun _=>?_)
  ·unfold NQ NP
   refine (aq (decide_eq_true (dW hj))).trans ?_
   refine (aq (decide_eq_true (aQ hj))).trans ?_
   cases hd:decide ((show Int from (r.g j).1)=x) with
   | true=>exact aq hd
   | false =>
    refine (aR hd).trans ?_
    exact congrArg (fun q:Int=>(RQ.next (show (aa mc).den from (q,())):RQ mc sg)) (dR hj hr)
  ·unfold NQ NP
   have:¬ ((r.n:Int) < (r.n:Int)):=by omega
   exact aR (decide_eq_false this)
 have hh:has (aV r) x=(fB (fun j=>decide ((show Int from (r.g j).1)=x)) r.n).isSome:=by
  rw [Bool.eq_iff_iff,zN]
  cases h:fB (fun j=>decide ((show Int from (r.g j).1)=x)) r.n with
  | some k =>
   obtain ⟨h1,h2,_⟩:=kD h
   have h2:=of_decide_eq_true h2
   exact ⟨fun _=>rfl,fun _=>⟨k,by rw [gR,if_pos h1]; exact congrArg some h2⟩⟩
  | none =>
   have hn:=jg h
   refine ⟨fun ⟨i,hi⟩=>?_,fun h=>by cases h⟩
   rw [gR] at hi
   split at hi
   ·rename_i hlt
    have:=hn i hlt
    rw [decide_eq_false_iff_not] at this
    exact absurd (Option.some.inj hi) this
   ·cases hi
 rw [hh]
 revert key
 cases fB (fun j=>decide ((show Int from (r.g j).1)=x)) r.n with
 | some k=>intro key; refine (congrArg (fun o=>aF o 0 _ (bS o _ _)) key).trans ?_; rfl
 | none=>intro key; refine (congrArg (fun o=>aF o 0 _ (bS o _ _)) key).trans ?_; rfl
theorem Et (r:Sl sR.den) (x:Int):aV (snoc r (x,()))=aV r ++ [x]:=by
 unfold aV
 rw [IP,List.range_succ,List.map_append]
 congr 1
 ·exact List.map_congr_left fun i hi=>by rw [Ik (List.mem_range.1 hi)]
 ·simp only [List.map_cons,List.map_nil]
  rw [Il]
theorem FY (o:cT) (y:Sl sR.den):aW (snoc o (y,()))=aW o ++ [aV y]:=by
 unfold aW
 rw [IP,List.range_succ,List.map_append]
 congr 1
 ·exact List.map_congr_left fun i hi=>by rw [Ik (List.mem_range.1 hi)]
 ·simp only [List.map_cons,List.map_nil]
  rw [Il]
theorem dI (o:cT):(aW o).length=o.n:=by simp [aW]
theorem tW {o:cT} {i:Nat} (h:i < o.n):(aW o)[i]? = some (aV (o.g i).1):=by
 unfold aW
 rw [List.getElem?_map,List.getElem?_range h]; rfl
theorem JR (before:Nat):∀ (m:Nat) (out:LL),Ij before (m + 1) out=(Ij before m out).flatMap (me before)
 | 0,out=>rfl
 | m + 1,out=>by rw [Ij,JR before m]; rfl
theorem JT {before:Nat} {r:List Int}:(me before r).length<=before + 1:=by
 unfold me
 rw [List.length_cons]
 have:∀ l:List Nat,(l.flatMap fun b:Nat=>if has r (b:Int) then [] else [r ++ [(b:Int)]]).length<=l.length:=by
  intro l
  induction l with
  | nil=>exact Nat.le_refl _
  | cons a l ih =>
   rw [List.flatMap_cons,List.length_append,List.length_cons]
   split
   ·rw [List.length_nil]; omega
   ·rw [List.length_singleton]; omega
 have:=this (List.range before)
 rw [List.length_range] at this
 omega
theorem uU {α β:Type} {l:List α} {f:α->List β} {k:Nat} (h:∀ a∈l,(f a).length<=k):(l.flatMap f).length<=k * l.length:=by
 induction l with
 | nil=>simp
 | cons a l ih =>
  rw [List.flatMap_cons,List.length_append,List.length_cons,Nat.mul_succ]
  have:=h a (.head _)
  have:=ih fun b hb=>h b (.tail _ hb)
  omega
theorem Ip {before:Nat} (hb:before<=3):∀ m,(Ij before m [[]]).length<=4 ^ m
 | 0=>by simp [Ij]
 | m + 1=>by
  rw [JR]
  have h1:=uU (l:=Ij before m [[]]) (f:=me before) (k:=4) fun a _=>Nat.le_trans JT (by omega)
  have h2:=Ip hb m
  rw [Nat.pow_succ]
  omega
end Go.Dm
namespace Go.Dm
set_option maxRecDepth 100000
open Go.Low
variable {s:tS.den}
theorem kH {o:cT} {t:Nat} (h:t < o.n):(aW o).getD t []=aV (o.g t).1:=by
 rw [List.getD_eq_getElem?_getD,tW h]; rfl
theorem gu {o:cT} {t:Nat} (h:t < o.n):(aW o).take (t + 1)=(aW o).take t ++ [aV (o.g t).1]:=by
 rw [List.take_add_one,tW h]; rfl
theorem wq {o:cT} {t:Nat} (h:t<=o.n):((aW o).take t).length=t:=by rw [List.length_take,dI]; omega
theorem getD_take {L:LL} {t j:Nat} (h:t < j):(L.take j).getD t []=L.getD t []:=by
 simp only [List.getD_eq_getElem?_getD]
 rw [List.getElem?_take_of_lt h]
theorem LM (r:List Int) (x:Int):eO (r ++ [x])=eO r + (bif decide (x = -1) then 1 else 0):=by
 unfold eO
 rw [List.count_append]
 congr 1
theorem Eu {r:Sl sR.den} {j:Nat} (h:j < r.n):(aV r).take (j + 1)=(aV r).take j ++ [(show Int from (r.g j).1)]:=by
 rw [List.take_add_one,gR,if_pos h]; rfl
theorem akj {o : cT} {t : Nat} (ht : t < o.n) (hk : (o.g t).1.n ≤ 3) {c0 : Nat} (hc : c0 ≤ 100) :
    yY (o, ((t : Int), ())) ((c0 : Int), ((0 : Int), ())) = .exit 2 (((c0 + eO (aV (o.g t).1) : Nat) : Int), ()) := by
  unfold yY
  have hb : ∀ j, eO ((aV (o.g t).1).take j) ≤ j := fun j => by
    unfold eO
    exact Nat.le_trans List.count_le_length (by rw [List.length_take]; omega)
  have e2 : (aV (o.g t).1).take (o.g t).1.n = aV (o.g t).1 := List.take_of_length_le (by rw [iN]; exact Nat.le_refl _)
  have key : aH (vv (o, ((t : Int), ()))) cz (((c0 + eO ((aV (o.g t).1).take 0) : Nat) : Int), ((0 : Int), ())) = .exit 2 (((c0 + eO ((aV (o.g t).1).take (o.g t).1.n) : Nat) : Int), ()) := by
   refine bQ (ps := eB) (o.g t).1.n cz (fun j => (((c0 + eO ((aV (o.g t).1).take j) : Nat) : Int), ((j : Int), ()))) (by unfold cz; omega) (fun j hj => ?_) ?_
   · unfold vv yX
     refine (aq (decide_eq_true (aQ ht))).trans ?_
     refine (aq (decide_eq_true (dW hj))).trans ?_
     refine (aq (decide_eq_true (aQ ht))).trans ?_
     refine (aq (decide_eq_true (aQ hj))).trans ?_
     have Gr := hb j
     have w1 : W ((j : Int) + 1) = ((j + 1 : Nat) : Int) := dR hj (by omega)
     have hs := LM ((aV (o.g t).1).take j) (show Int from ((o.g t).1.g j).1)
     rw [← Eu hj] at hs
     cases hd : decide ((show Int from ((o.g t).1.g j).1) = -1) with
     | true =>
       rw [hd, cond_true] at hs
       refine (aq hd).trans ?_
       have w2 : W (((c0 + eO ((aV (o.g t).1).take j) : Nat) : Int) + 1) = ((c0 + eO ((aV (o.g t).1).take (j + 1)) : Nat) : Int) := by rw [gQ ⟨by omega, by omega⟩, hs]; omega
       exact (congrArg (fun q : Int => (RQ.next (show (aa eB).den from (q, (W ((j : Int) + 1), ()))) : RQ eB oE)) w2).trans (congrArg (fun q : Int => (RQ.next (show (aa eB).den from (((c0 + eO ((aV (o.g t).1).take (j + 1)) : Nat) : Int), (q, ()))) : RQ eB oE)) w1)
     | false =>
       rw [hd, cond_false, Nat.add_zero] at hs
       refine (aR hd).trans ?_
       rw [hs]
       exact congrArg (fun q : Int => (RQ.next (show (aa eB).den from (((c0 + eO ((aV (o.g t).1).take j) : Nat) : Int), (q, ()))) : RQ eB oE)) w1
   · unfold vv yX
     refine (aq (decide_eq_true (aQ ht))).trans ?_
     have : ¬ (((o.g t).1.n : Int) < ((o.g t).1.n : Int)) := by omega
     exact aR (decide_eq_false this)
  rw [e2] at key
  exact key
theorem BO {o:cT} (hk:∀ t,t < o.n->(o.g t).1.n<=3):∀ j,j + 1<=o.n->eP ((aW o).take (j + 1))<=3 * j
 | 0,h=>by
  have:(aW o).take 1=[aV (o.g 0).1]:=by have:=gu (o:=o) (t:=0) (by omega); simpa using this
  show eP ((aW o).take 1)<=0
  rw [this]; exact Nat.le_refl _
 | j + 1,h=>by
  rw [gu (by omega),qZ (by rw [wq (by omega)]; omega)]
  have h1:=BO hk j (by omega)
  have h2:eO (aV (o.g (j + 1)).1)<=(aV (o.g (j + 1)).1).length:=List.count_le_length
  rw [iN] at h2
  have:=hk (j + 1) (by omega)
  omega
theorem ao9 {o:cT} (h1:0 < o.n) (hn:o.n<=4) (hk:∀ t,t < o.n->(o.g t).1.n<=3):M56 (no_index (o,()))=some (((eP (aW o):Nat):Int),()):=by
 obtain ⟨n,xU⟩:∃ n,o.n=n + 1:=⟨o.n - 1,by omega⟩
 have key:Uj (o,()) ((0:Int),((1:Int),())) = .exit 0 (((eP ((aW o).take (n + 1)):Nat):Int),()):=by
  unfold Uj
  have b0:eP ((aW o).take 1)=0:=Nat.le_zero.1 (BO hk 0 (by omega))
  have:=bQ (step:=JF (o,())) n cz (fun j=>(((eP ((aW o).take (j + 1)):Nat):Int),(((j + 1:Nat):Int),()))) (by unfold cz; omega) (fun j hj=>by
   unfold JF NN
   have hj1:j + 1 < o.n:=by omega
   refine (aq (decide_eq_true (dW hj1))).trans ?_
   have hle:=BO hk j (by omega)
   refine (bp (akj hj1 (hk _ hj1) (c0:=eP ((aW o).take (j + 1))) (by omega))).trans ?_
   have e:eP ((aW o).take (j + 1)) + eO (aV (o.g (j + 1)).1)=eP ((aW o).take (j + 1 + 1)):=by
    rw [gu hj1,qZ (by rw [wq (by omega)]; omega)]
   rw [e]
   exact congrArg (fun q:Int=>(RQ.next (show (aa nq).den from (((eP ((aW o).take (j + 1 + 1)):Nat):Int),(q,()))):RQ nq FT)) (dR hj1 (by omega))) (q:=.exit 0 (((eP ((aW o).take (n + 1)):Nat):Int),())) (by
   unfold JF NN
   have:¬ (((n + 1:Nat):Int) < (o.n:Int)):=by omega
   exact aR (decide_eq_false this))
  have e0:(((eP ((aW o).take (0 + 1)):Nat):Int),(((0 + 1:Nat):Int),()))=((0:Int),((1:Int),())):=by
   show (((eP ((aW o).take 1):Nat):Int),((1:Int),()))=_
   rw [b0]; rfl
  rw [<- e0]
  exact this
 unfold M56 Q56
 refine (bp key).trans ?_
 rw [List.take_of_length_le (by rw [dI]; omega)]
theorem AG {o:cT} {j:Nat} (hj:j + 1 < o.n):fc ((aW o).take (j + 1 + 1))=fc ((aW o).take (j + 1)) + eY (o.g j).1.n (aV (o.g (j + 1)).1):=by
 rw [gu hj,Ci (by rw [wq (by omega)]; omega),wq (by omega),Nat.add_sub_cancel,getD_take (by omega),kH (by omega),iN]
theorem BP {o:cT} (hk:∀ t,t < o.n->(o.g t).1.n<=3):∀ j,j + 1<=o.n->fc ((aW o).take (j + 1))<=3 * j
 | 0,h=>by
  have:(aW o).take 1=[aV (o.g 0).1]:=by have:=gu (o:=o) (t:=0) (by omega); simpa using this
  show fc ((aW o).take 1)<=0
  rw [this]; exact Nat.le_refl _
 | j + 1,h=>by
  rw [AG (by omega)]
  have h1:=BP hk j (by omega)
  have h2:eY (o.g j).1.n (aV (o.g (j + 1)).1)<=(o.g j).1.n:=by
   unfold eY
   exact Nat.le_trans (List.length_filter_le _ _) (by simp)
  have:=hk j (by omega)
  omega
end Go.Dm
namespace Go.Dm
set_option maxRecDepth 100000
open Go.Low
variable {s:tS.den}
structure Pre (s:tS.den) (L:LL):Prop where
 sh:Shape s L []
 first:L.getD 0 []=first (cB s)
theorem OO {o:cT} {t i:Nat} (ht:t < o.n) (hi':i < (o.g t).1.n):qR (aW o) t i=(show Int from ((o.g t).1.g i).1):=by
 unfold qR
 rw [kH ht,List.getD_eq_getElem?_getD,gR,if_pos hi']; rfl
end Go.Dm
namespace Go.Dm
set_option maxRecDepth 100000
open Go.Low
variable {s:tS.den}
abbrev zR:=Sl (Ty.den (.cons (.sl (.cons (.sl sR) .nil)) .nil))
def BQ (s:PS) (L:LL) (r:List Int):List LL:=if okB s (L ++ [r]) then [L ++ [r]] else []
theorem Sb {p:PS} {L:LL} {r:List Int}:(BQ p L r).length<=1:=by
 unfold BQ
 split <;> simp
theorem JU (p:PS):∀ (m:Nat) (out:List LL),GS p (m + 1) out=(GS p m out).flatMap (xF p)
 | 0,out=>rfl
 | m + 1,out=>by rw [GS,JU p m]; rfl
theorem Sc {before m:Nat} (hb:before<=3) (hm:m<=3):(gV before m []).length<=64:=by
 have h1:=Ip hb m
 have h2:Ij before m [[]]=gV before m []:=by rw [ME]; simp
 have h4:4 ^ m<=4 ^ 3:=Nat.pow_le_pow_right (by omega) hm
 rw [h2] at h1
 omega
theorem Pre.row {L:LL} {r:List Int} (h:Pre s L) (hlt:L.length < s.1.n) (hr:r∈gV (s.1.g (L.length - 1)).2.1.n (s.1.g L.length).2.1.n []):Pre s (L ++ [r]):=by
 have hrow:=NZ.1 hr
 have hpos:=h.sh.pos
 have hsh:Shape s L r:=⟨h.sh.pos,h.sh.le,h.sh.len,h.sh.val,fun _=>by rw [hrow.1]; exact Nat.le_refl _,fun e=>by omega,fun i x hx=>by
  rcases hrow.2 i x hx with q | q
  ·exact .inl q
  ·exact .inr ⟨q.1,q.2.1⟩⟩
 refine ⟨hsh.row hlt hrow.1,?_⟩
 rw [ku hpos]; exact h.first
theorem Sd (hs:(cB s).Ok) {L:LL} (hL:L.length < s.1.n):(xF (cB s) L).length<=64:=by
 have h1:=uU (l:=gV ((cB s).k (L.length - 1)) ((cB s).k L.length) []) (f:=BQ (cB s) L) (k:=1) fun a _=>Sb
 have h2:=Sc (before:=(cB s).k (L.length - 1)) (m:=(cB s).k L.length) (dN hs (by omega)) (dN hs hL)
 have:xF (cB s) L=(gV ((cB s).k (L.length - 1)) ((cB s).k L.length) []).flatMap (BQ (cB s) L):=rfl
 rw [this]
 omega
theorem Yo (hs:(cB s).Ok):∀ j,j + 1<=s.1.n->(∀ L∈GS (cB s) j [[first (cB s)]],Pre s L/\L.length=j + 1)/\(GS (cB s) j [[first (cB s)]]).length<=64 ^ j
 | 0,h=>by
  refine ⟨fun L hL=>?_,by simp [GS]⟩
  simp only [GS,List.mem_singleton] at hL
  subst hL
  refine ⟨⟨⟨by simp,by simpa using h,fun t ht=>?_,fun t i x ht=>by simp at ht,fun _=>Nat.zero_le _,fun _=>rfl,fun i x hx=>by simp at hx⟩,rfl⟩,rfl⟩
  have:t=0:=by simp at ht; exact ht
  subst this; simp [first]; rfl
 | j + 1,h=>by
  obtain ⟨h1,h2⟩:=Yo hs j (by omega)
  rw [JU]
  refine ⟨fun L hL=>?_,?_⟩
  ·obtain ⟨L0,hL0,hL⟩:=List.mem_flatMap.1 hL
   obtain ⟨p1,p2⟩:=h1 L0 hL0
   obtain ⟨r,hr,hL⟩:=List.mem_flatMap.1 hL
   split at hL
   ·simp only [List.mem_singleton] at hL
    subst hL
    exact ⟨p1.row (by omega) hr,by simp; omega⟩
   ·simp at hL
  ·have h3:=uU (l:=GS (cB s) j [[first (cB s)]]) (f:=xF (cB s)) (k:=64) fun a ha=>Sd hs (by rw [(h1 a ha).2]; omega)
   rw [Nat.pow_succ]
   omega
end Go.Dm
namespace Go.Dm
set_option maxRecDepth 100000
open Go.Low
variable {s:tS.den}
def OD (a b m:Int):Bool:=decide (0<=a) && (decide (a<=b) && decide (b<=m))
def Is (b:B6):Bool:=OD b.1 b.2.1 100 && (OD b.2.2.1 b.2.2.2.1 100 && OD b.2.2.2.2.1 b.2.2.2.2.2.1 99999)
theorem LJ (a b m:Int):Hl (no_index ((a,(b,())),(m,())))=some (OD a b m,()):=by
 show (bif decide (0<=a) then bif decide (a<=b) then some (decide (b<=m),()) else some (false,()) else some (false,()))=_
 unfold OD
 cases decide (0<=a) <;> cases decide (a<=b) <;> rfl
theorem Uq (a b m:Int):M69 (no_index ((a,(b,())),(m,())))=some (OD a b m,()):=by
 show (bif decide (0<=a) then bif decide (a<=b) then some (decide (b<=m),()) else some (false,()) else some (false,()))=_
 unfold OD
 cases decide (0<=a) <;> cases decide (a<=b) <;> rfl
def oV (x a b:Int):Bool:=decide (a<=x) && decide (x<=b)
theorem zk (x a b:Int):Kk (no_index (x,(a,(b,()))))=some (oV x a b,()):=by
 show (bif decide (a<=x) then some (decide (x<=b),()) else some (false,()))=_
 unfold oV
 cases decide (a<=x) <;> rfl
theorem uW (x a b:Int):MC (no_index (x,(a,(b,()))))=some (oV x a b,()):=by
 show (bif decide (a<=x) then some (decide (x<=b),()) else some (false,()))=_
 unfold oV
 cases decide (a<=x) <;> rfl
theorem Ur (b:B6):Hp (no_index (b,()))=some (!Is b,()):=by
 unfold Hp Xv Is
 refine (aK (LJ _ _ _)).trans ?_
 cases OD b.1 b.2.1 100 with
 | false=>rfl
 | true =>
  refine (aR rfl).trans ?_
  refine (aK (LJ _ _ _)).trans ?_
  cases OD b.2.2.1 b.2.2.2.1 100 with
  | false=>rfl
  | true =>
   refine (aR rfl).trans ?_
   refine (aK (LJ _ _ _)).trans ?_
   rfl
def Im (r:Sl Py.den):Bool:=(List.range r.n).all fun j=>Is (r.g j)
theorem ae0 (r:Sl Py.den) (hr:r.n<=140737488355328):Hi (no_index (r,((fun y=>(Dw y,AM y)),())))=some (!Im r,()):=by
 unfold Hi Xu
 have hp:∀ j,Dw (r.g j,())=true:=fun j=>by show (Hp (r.g j,())).isSome=true; rw [Ur]; rfl
 have hv:∀ j,AM (r.g j,())=(!Is (r.g j),()):=fun j=>by show (Hp (r.g j,())).getD _=_; rw [Ur]; rfl
 have key:yP (r,((fun y=>(Dw y,AM y)),(((r.n:Nat):Int),()))) ((0:Int),())=match fB (fun j=>!Is (r.g j)) r.n with | some k=>LQ.ret (wy:=jJ) (show (aa jJ.ret).den from ((k:Int),())) | none=>.exit 0 ():=by
  unfold yP
  refine kG (ps:=fJ) (n:=r.n) (f:=fun j=>((j:Int),())) (qr:=fun k=>LQ.ret (wy:=jJ) (show (aa jJ.ret).den from ((k:Int),()))) (Mk hr) (fun j hj _=>?_) (fun _=>?_)
  ·unfold yO yN
   refine (aq (decide_eq_true (dW hj))).trans ?_
   refine (aq (decide_eq_true (aQ hj))).trans ?_
   refine (aq (hp j)).trans ?_
   have vz:(AM (r.g j,())).1 = !Is (r.g j):=by rw [hv]
   cases hb:Is (r.g j) with
   | false=>rw [hb] at vz; exact aq vz
   | true =>
    rw [hb] at vz
    refine (aR vz).trans ?_
    exact congrArg (fun q:Int=>(RQ.next (show (aa fJ).den from (q,())):RQ fJ jJ)) (dR hj hr)
  ·unfold yO yN
   have:¬ ((r.n:Int) < (r.n:Int)):=by omega
   exact aR (decide_eq_false this)
 have hM:Lg (r,((fun y=>(Dw y,AM y)),()))=some ((match fB (fun j=>!Is (r.g j)) r.n with | some k=>(k:Int) | none=>-1),()):=by
  unfold Lg Xt
  revert key
  cases fB (fun j=>!Is (r.g j)) r.n with
  | some k=>intro key; refine (congrArg (fun o=>aF o 0 _ (bS o _ _)) key).trans ?_; rfl
  | none=>intro key; refine (congrArg (fun o=>aF o 0 _ (bS o _ _)) key).trans ?_; rfl
 refine (aK hM).trans ?_
 have:Im r=(fB (fun j=>!Is (r.g j)) r.n).isNone:=by
  cases h:fB (fun j=>!Is (r.g j)) r.n with
  | some k =>
   obtain ⟨h1,h2,_⟩:=kD h
   rw [Bool.eq_false_iff.2 (show Im r≠true from fun e=>by have:=mQ e h1; rw [this] at h2; cases h2)]; rfl
  | none =>
   have hn:=jg h
   exact JL fun j hj=>by have:=hn j hj; simpa using this
 rw [this]
 cases fB (fun j=>!Is (r.g j)) r.n with
 | none=>rfl
 | some k =>
  have:(0:Int)<=(k:Int):=by omega
  show some (decide ((0:Int)<=(k:Int)),())=_
  rw [decide_eq_true this]; rfl
def jI (s:tS.den):Nat->Int
 | 0=>-1
 | j + 1=>mT s j
def lD (s:tS.den) (j:Nat):Bool:=!decide (mT s j<=jI s j) && (!decide (200 < mT s j) && (!decide (3 < (s.1.g j).2.1.n) && Im (s.1.g j).2.1))
def UW (s:tS.den):Bool:=oV (s.1.n:Int) 1 4 && (oV (pN s) 0 50 && (oV (zn s) 0 1000 && (oV (OC s) 0 12 && oV (Sa s) 0 12)))
def Io (s:tS.den):Bool:=(List.range s.1.n).all (lD s) && UW s
theorem qP (h:Io s=true):(cB s).Ok:=by
 unfold Io UW oV at h
 simp only [Bool.and_eq_true,decide_eq_true_eq] at h
 obtain ⟨h1,⟨n1,n4⟩,sp,dp,bn,gn⟩:=h
 have hm:∀ t,t < s.1.n->jI s t < mT s t/\mT s t<=200/\(s.1.g t).2.1.n<=3/\∀ j,j < (s.1.g t).2.1.n->Is ((s.1.g t).2.1.g j)=true:=fun t ht=>by
  have:=mQ h1 ht
  unfold lD at this
  simp only [Bool.and_eq_true,Bool.not_eq_true',decide_eq_false_iff_not] at this
  obtain ⟨a,b,c,d⟩:=this
  exact ⟨by omega,by omega,by omega,fun j hj=>mQ d hj⟩
 have hp:∀ t,t < s.1.n->0<=mT s t:=fun t=>by
  induction t with
  | zero=>intro ht; have h2:=(hm 0 ht).1; have:jI s 0 = -1:=rfl; omega
  | succ t ih=>intro ht; have h2:=(hm (t + 1) ht).1; have:jI s (t + 1)=mT s t:=rfl; have:=ih (by omega); omega
 refine ⟨?_,?_,fun t ht=>(hm t ht).2.2.1,fun t ht=>⟨hp t ht,(hm t ht).2.1⟩,fun t ht=>(hm (t + 1) ht).1,fun t i ht hi' a ha=>?_,sp,dp,bn,gn⟩
 ·show 0 < s.1.n; omega
 ·show s.1.n<=4; omega
 ·have hb:=(hm t ht).2.2.2 i hi'
  unfold Is OD at hb
  simp only [Bool.and_eq_true,decide_eq_true_eq] at hb
  obtain ⟨⟨a1,a2,a3⟩,⟨b1,b2,b3⟩,c1,c2,c3⟩:=hb
  show 0<=lo ((s.1.g t).2.1.g i) a/\lo ((s.1.g t).2.1.g i) a<=hi ((s.1.g t).2.1.g i) a/\hi ((s.1.g t).2.1.g i) a<=99999
  match a,ha with
  | 0,_=>exact ⟨a1,a2,Int.le_trans a3 (by decide)⟩
  | 1,_=>exact ⟨b1,b2,Int.le_trans b3 (by decide)⟩
  | 2,_=>exact ⟨c1,c2,c3⟩
theorem Us (hn:s.1.n<=1000) (hk:∀ t,t < s.1.n->(s.1.g t).2.1.n<=1000):WW (no_index (s,()))=some (Io s,()):=by
 have key:Hs ((),(s.1,(((s.1.n:Nat):Int),(s,())))) ((-1:Int),((0:Int),()))=bif (List.range s.1.n).all (lD s) then .exit 0 () else LQ.ret (wy:=rY) (show (aa rY.ret).den from (false,())):=by
  unfold Hs
  refine dX (ps:=ji) (n:=s.1.n) (f:=fun j=>(jI s j,((j:Int),()))) (c:=lD s) (by unfold cz; omega) (fun j hj _=>?_) (fun _=>?_)
  ·unfold Hr Hq
   refine (aq (decide_eq_true (dW hj))).trans ?_
   refine (aq (decide_eq_true (aQ hj))).trans ?_
   unfold lD
   by_cases c1:mT s j<=jI s j
   ·rw [decide_eq_true c1]
    exact aq (decide_eq_true c1)
   refine (aR (decide_eq_false c1)).trans ?_
   rw [decide_eq_false c1]
   by_cases c2:200 < mT s j
   ·rw [decide_eq_true c2]
    exact aq (decide_eq_true c2)
   refine (aR (decide_eq_false c2)).trans ?_
   rw [decide_eq_false c2]
   by_cases c3:3 < (s.1.g j).2.1.n
   ·rw [decide_eq_true c3]
    have c3':(3:Int) < (((s.1.g j).2.1.n:Nat):Int):=by omega
    exact aq (decide_eq_true c3')
   have c3':¬ (3:Int) < (((s.1.g j).2.1.n:Nat):Int):=by omega
   refine (aR (decide_eq_false c3')).trans ?_
   rw [decide_eq_false c3]
   have hM:=ae0 (s.1.g j).2.1 (by have:=hk j hj; omega)
   refine (aK hM).trans ?_
   have hv:(adv ((s.1.g j).2.1,((fun y3=>(Dw y3,AM y3)),()))).1 = !Im (s.1.g j).2.1:=by
    show ((Hi ((s.1.g j).2.1,((fun y3=>(Dw y3,AM y3)),()))).getD _).1=_
    rw [hM]; rfl
   cases hr:Im (s.1.g j).2.1 with
   | false =>
    rw [hr] at hv
    exact aq hv
   | true =>
    rw [hr] at hv
    refine (aR hv).trans ?_
    exact congrArg (fun q:Int=>(RQ.next (show (aa ji).den from (mT s j,(q,()))):RQ ji rY)) (dR hj (by omega))
  ·unfold Hr Hq
   have:¬ ((s.1.n:Int) < (s.1.n:Int)):=by omega
   exact aR (decide_eq_false this)
 unfold WW Q74 Io
 revert key
 cases (List.range s.1.n).all (lD s) with
 | false=>intro key; refine (congrArg (fun o=>aF o 0 _ (bS o _ _)) key).trans ?_; rfl
 | true =>
  intro key
  refine (bp key).trans ?_
  unfold UW
  refine (aK (zk _ _ _)).trans ?_
  cases oV (s.1.n:Int) 1 4 with
  | false=>rfl
  | true =>
   refine (aq rfl).trans ?_
   refine (aK (zk (pN s) _ _)).trans ?_
   cases oV (pN s) 0 50 with
   | false=>rfl
   | true =>
    refine (aq rfl).trans ?_
    refine (aK (zk (zn s) _ _)).trans ?_
    cases oV (zn s) 0 1000 with
    | false=>rfl
    | true =>
     refine (aq rfl).trans ?_
     refine (aK (zk (OC s) _ _)).trans ?_
     cases oV (OC s) 0 12 with
     | false=>rfl
     | true =>
      refine (aq rfl).trans ?_
      refine (aK (zk (Sa s) _ _)).trans ?_
      rfl
theorem aau:∃ b:Bool,Yz (no_index (s,()))=some (b,())/\(b=true->s.1.n<=6/\∀ t,t < s.1.n->(s.1.g t).2.1.n<=5):=by
 let c:Nat->Bool:=fun j=>!decide ((5:Int) < (((s.1.g j).2.1.n:Nat):Int))
 have key:HP ((),(s,())) ((0:Int),())=bif (List.range (min s.1.n 7)).all c then .exit 0 () else LQ.ret (wy:=rZ) (show (aa rZ.ret).den from (false,())):=by
  unfold HP
  refine dX (ps:=jk) (n:=min s.1.n 7) (f:=fun j=>((j:Int),())) (c:=c) (by unfold cz; omega) (fun j hj _=>?_) (fun _=>?_)
  ·unfold HO HN
   have hj1:j < s.1.n:=by omega
   have hj7:(j:Int) < 7:=by omega
   refine (aq (decide_eq_true (dW hj1))).trans ?_
   refine (aq (decide_eq_true hj7)).trans ?_
   refine (aq (decide_eq_true (aQ hj1))).trans ?_
   show _=bif c j then _ else _
   by_cases c1:(5:Int) < (((s.1.g j).2.1.n:Nat):Int)
   ·have:c j=false:=by show (!decide _)=false; rw [decide_eq_true c1]; rfl
    rw [this]
    exact aq (decide_eq_true c1)
   ·have:c j=true:=by show (!decide _)=true; rw [decide_eq_false c1]; rfl
    rw [this]
    refine (aR (decide_eq_false c1)).trans ?_
    exact congrArg (fun q:Int=>(RQ.next (show (aa jk).den from (q,())):RQ jk rZ)) (dR (n:=7) (by omega) (by omega))
  ·unfold HO HN
   by_cases h:s.1.n<=7
   ·have:¬ (((min s.1.n 7:Nat):Int) < (s.1.n:Int)):=by omega
    exact aR (decide_eq_false this)
   ·have h1:((min s.1.n 7:Nat):Int) < (s.1.n:Int):=by omega
    have h2:¬ ((min s.1.n 7:Nat):Int) < 7:=by omega
    exact (aq (decide_eq_true h1)).trans (aR (decide_eq_false h2))
 unfold Yz Q16
 cases hc:(List.range (min s.1.n 7)).all c with
 | false =>
  rw [hc] at key
  exact ⟨false,(congrArg (fun o=>aF o 0 _ (bS o _ _)) key).trans rfl,fun h=>by cases h⟩
 | true =>
  rw [hc] at key
  refine ⟨decide ((s.1.n:Int)<=6),(bp key).trans rfl,fun h=>?_⟩
  have h:=of_decide_eq_true h
  refine ⟨by omega,fun t ht=>?_⟩
  have:=mQ hc (j:=t) (by omega)
  have:(!decide ((5:Int) < (((s.1.g t).2.1.n:Nat):Int)))=true:=this
  simp at this
  omega
end Go.Dm
namespace Go.Dm
set_option maxRecDepth 100000
open Go.Low
variable {s:tS.den}
theorem ae2 {t:Nat} (hk:(s.1.g t).2.1.n<=1000) :
  jf ((),((t:Int),((),(s,(s.1.g t,()))))) ((0:Int),())=bif Im (s.1.g t).2.1 then .exit 2 () else LQ.ret (wy:=gL) (show (aa gL.ret).den from (false,())):=by
 unfold jf
 refine dX (ps:=eG) (n:=(s.1.g t).2.1.n) (f:=fun j=>((j:Int),())) (c:=fun j=>Is ((s.1.g t).2.1.g j)) (by unfold cz; omega) (fun j hj _=>?_) (fun _=>?_)
 ·unfold tR tQ Is
  refine (aq (decide_eq_true (dW hj))).trans ?_
  refine (aq (decide_eq_true (aQ hj))).trans ?_
  refine (aK (Uq (show B6 from (s.1.g t).2.1.g j).1 (show B6 from (s.1.g t).2.1.g j).2.1 100)).trans ?_
  cases OD (show B6 from (s.1.g t).2.1.g j).1 (show B6 from (s.1.g t).2.1.g j).2.1 100 with
  | false=>rfl
  | true =>
   refine (aR rfl).trans ?_
   refine (aK (Uq (show B6 from (s.1.g t).2.1.g j).2.2.1 (show B6 from (s.1.g t).2.1.g j).2.2.2.1 100)).trans ?_
   cases OD (show B6 from (s.1.g t).2.1.g j).2.2.1 (show B6 from (s.1.g t).2.1.g j).2.2.2.1 100 with
   | false=>rfl
   | true =>
    refine (aR rfl).trans ?_
    refine (aK (Uq (show B6 from (s.1.g t).2.1.g j).2.2.2.2.1 (show B6 from (s.1.g t).2.1.g j).2.2.2.2.2.1 99999)).trans ?_
    cases OD (show B6 from (s.1.g t).2.1.g j).2.2.2.2.1 (show B6 from (s.1.g t).2.1.g j).2.2.2.2.2.1 99999 with
    | false=>rfl
    | true =>
     refine (aR rfl).trans ?_
     exact congrArg (fun q:Int=>(RQ.next (show (aa eG).den from (q,())):RQ eG gL)) (dR hj (by omega))
 ·unfold tR tQ
  have:¬ (((s.1.g t).2.1.n:Int) < ((s.1.g t).2.1.n:Int)):=by omega
  exact aR (decide_eq_false this)
theorem JM (hn:s.1.n<=1000) (hk:∀ t,t < s.1.n->(s.1.g t).2.1.n<=1000):Sj (no_index (s,()))=some (Io s,()):=by
 have key:HT ((),(s,())) ((0:Int),())=bif (List.range s.1.n).all (lD s) then .exit 0 () else LQ.ret (wy:=jb) (show (aa jb.ret).den from (false,())):=by
  unfold HT
  refine dX (ps:=fS) (n:=s.1.n) (f:=fun j=>((j:Int),())) (c:=lD s) (by unfold cz; omega) (fun j hj hall=>?_) (fun _=>?_)
  ·have w1:W ((j:Int) + 1)=((j + 1:Nat):Int):=dR hj (by omega)
   have Ew:(RQ.next (show (aa fS).den from (W ((j:Int) + 1),())):RQ fS jb) = .next (((j + 1:Nat):Int),()):=by rw [w1]
   have tail:∀ (hp:¬ mT s j<=jI s j) (h2:¬ 200 < mT s j) (f:(aa (dB gL 2)).den->RQ fS jb) (g:(aa gL.ret).den->RQ fS jb),(∀ u,f u=RQ.next (show (aa fS).den from (W ((j:Int) + 1),())))->(∀ u,g u = .out (.ret u)) ->
     (bif decide ((3:Int) < (((s.1.g j).2.1.n:Nat):Int)) then RQ.out (LQ.ret (wy:=jb) (show (aa jb.ret).den from (false,()))) else aF (jf ((),((j:Int),((),(s,(s.1.g j,()))))) ((0:Int),())) 2 f (bS (jf ((),((j:Int),((),(s,(s.1.g j,()))))) ((0:Int),())) g .bad)) =
      bif lD s j then .next (((j + 1:Nat):Int),()) else .out (LQ.ret (wy:=jb) (show (aa jb.ret).den from (false,()))):=by
    intro hp h2 f g hf hg
    unfold lD
    rw [decide_eq_false hp,decide_eq_false h2]
    by_cases c3:3 < (s.1.g j).2.1.n
    ·have c3':(3:Int) < (((s.1.g j).2.1.n:Nat):Int):=by omega
     rw [decide_eq_true c3,decide_eq_true c3']; rfl
    ·have c3':¬ (3:Int) < (((s.1.g j).2.1.n:Nat):Int):=by omega
     rw [decide_eq_false c3,decide_eq_false c3',cond_false,ae2 (hk j hj)]
     cases Im (s.1.g j).2.1 with
     | true=>exact (hf ()).trans Ew
     | false=>exact hg _
   have acA:jI s j<=mT s j->(0 < j->0<=jI s j):=fun _ hj0=>by
    have h0:∀ i,i < j->0<=mT s i:=fun i=>by
     induction i with
     | zero =>
      intro hi
      have h:=hall 0 hi
      unfold lD at h
      simp only [Bool.and_eq_true,Bool.not_eq_true',decide_eq_false_iff_not] at h
      have:jI s 0 = -1:=rfl
      omega
     | succ i ih =>
      intro hi
      have h:=hall (i + 1) hi
      unfold lD at h
      simp only [Bool.and_eq_true,Bool.not_eq_true',decide_eq_false_iff_not] at h
      have:jI s (i + 1)=mT s i:=rfl
      have:=ih (by omega)
      omega
    obtain ⟨i,rfl⟩:∃ i,j=i + 1:=⟨j - 1,by omega⟩
    exact h0 i (by omega)
   unfold HS HR
   refine (aq (decide_eq_true (dW hj))).trans ?_
   refine (aq (decide_eq_true (aQ hj))).trans ?_
   refine (aK (uW (mT s j) 0 200)).trans ?_
   unfold oV
   by_cases c2:200 < mT s j
   ·have d:¬ mT s j<=200:=by omega
    have hm:lD s j=false:=by
     unfold lD; rw [decide_eq_true c2]; simp
    rw [decide_eq_false d,Bool.and_false,hm]; rfl
   have d2:mT s j<=200:=by omega
   rw [decide_eq_true d2,Bool.and_true]
   cases j with
   | zero =>
    by_cases c1:0<=mT s 0
    ·rw [decide_eq_true c1]
     refine (aR rfl).trans ?_
     have hz:¬ (0:Int) < ((0:Nat):Int):=by omega
     refine (aR (decide_eq_false hz)).trans ?_
     exact tail (by show ¬ mT s 0 ≤ -1; omega) c2 _ _ (fun _=>rfl) (fun _=>rfl)
    ·have hm:lD s 0=false:=by
      unfold lD
      have:mT s 0<=jI s 0:=by show mT s 0 ≤ -1; omega
      rw [decide_eq_true this]; rfl
     rw [decide_eq_false c1,hm]; rfl
   | succ j =>
    have hpv:jI s (j + 1)=mT s j:=rfl
    by_cases c1:0<=mT s (j + 1)
    ·rw [decide_eq_true c1]
     refine (aR rfl).trans ?_
     have hz:(0:Int) < ((j + 1:Nat):Int):=by omega
     refine (aq (decide_eq_true hz)).trans ?_
     have wp:=wo (n:=s.1.n) hn hj
     have e4:∀ {α:Type} (x y:α),(bif decide ((0:Int)<=W (((j + 1:Nat):Int) - 1)/\W (((j + 1:Nat):Int) - 1) < (s.1.n:Int)) then x else y)=x:=fun x y=>by rw [wp]; exact aq (decide_eq_true (aQ (Nat.lt_of_succ_lt hj)))
     refine (e4 _ _).trans ?_
     have e5:∀ {α:Type} (x y:α),(bif decide (mT s (j + 1)<=mT s (Int.toNat (W (((j + 1:Nat):Int) - 1)))) then x else y)=(bif decide (mT s (j + 1)<=mT s j) then x else y):=fun x y=>by rw [wp]; rfl
     refine (e5 _ _).trans ?_
     by_cases c4:mT s (j + 1)<=mT s j
     ·have hm:lD s (j + 1)=false:=by
       unfold lD
       rw [hpv,decide_eq_true c4]; rfl
      rw [hm]
      exact aq (decide_eq_true c4)
     ·refine (aR (decide_eq_false c4)).trans ?_
      exact tail (by rw [hpv]; exact c4) c2 _ _ (fun _=>rfl) (fun _=>rfl)
    ·have hm:lD s (j + 1)=false:=by
      unfold lD
      have:mT s (j + 1)<=jI s (j + 1):=by
       by_cases q:jI s (j + 1)<=mT s (j + 1)
       ·have:=acA q (by omega); omega
       ·omega
      rw [decide_eq_true this]; rfl
     rw [decide_eq_false c1,hm]; rfl
  ·unfold HS HR
   have:¬ ((s.1.n:Int) < (s.1.n:Int)):=by omega
   exact aR (decide_eq_false this)
 unfold Sj Q21 Io
 revert key
 cases (List.range s.1.n).all (lD s) with
 | false=>intro key; refine (congrArg (fun o=>aF o 0 _ (bS o _ _)) key).trans ?_; rfl
 | true =>
  intro key
  refine (bp key).trans ?_
  unfold UW
  refine (aK (uW _ _ _)).trans ?_
  cases oV (s.1.n:Int) 1 4 with
  | false=>rfl
  | true =>
   refine (aq rfl).trans ?_
   refine (aK (uW (pN s) _ _)).trans ?_
   cases oV (pN s) 0 50 with
   | false=>rfl
   | true =>
    refine (aq rfl).trans ?_
    refine (aK (uW (zn s) _ _)).trans ?_
    cases oV (zn s) 0 1000 with
    | false=>rfl
    | true =>
     refine (aq rfl).trans ?_
     refine (aK (uW (OC s) _ _)).trans ?_
     cases oV (OC s) 0 12 with
     | false=>rfl
     | true =>
      refine (aq rfl).trans ?_
      refine (aK (uW (Sa s) _ _)).trans ?_
      rfl
theorem aiR (hs:(cB s).Ok):Yx (no_index (s,()))=some (!(links (cB s)).isEmpty,()):=by
 obtain ⟨z,h1,h2,_⟩:=anh hs
 unfold Yx Q77
 refine (aK h1).trans ?_
 have hl:(links (cB s)).isEmpty=z.list.isEmpty:=by rw [<- h2]; simp
 rw [hl]
 show oQ (JD ((),((false,()),())) z.list) _ (oR (JD ((),((false,()),())) z.list) _ _)=_
 cases z.list with
 | nil=>rfl
 | cons a l=>rfl
end Go.Dm

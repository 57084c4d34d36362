/- All links of a suite. -/
import Derived.Test.YtadkaccpacpklaaL10LP4
set_option linter.unusedVariables false
set_option linter.unusedSimpArgs false
namespace Go.Dm
set_option maxRecDepth 100000
open Go.Low
variable {s:tS.den} {same:kA} {can:sq}
def z0:Sl fD.den:=⟨0,fun i=>(((⟨0,fun i=>((0:Int),((⟨0,fun i=>((0:Int),((0:Int),((0:Int),((0:Int),((0:Int),((0:Int),()))))))⟩:Sl _),()))⟩:Sl _),((0:Int),((0:Int),((0:Int),((0:Int),((⟨0,fun i=>((⟨0,fun i=>((0:Int),())⟩:Sl _),())⟩:Sl _),())))))),())⟩
def rS (k:Nat):Sl sR.den:=⟨k,fun _=>((0:Int),())⟩
def rC (k:Nat):Sl Py.den:=⟨k,fun _=>((0:Int),((0:Int),((0:Int),((0:Int),((0:Int),((0:Int),()))))))⟩
def WN (s:tS.den) (q:Int) (A:kA) (B:sq):RQ iP nN:=.next (q,(((),()),(dx s,(((),()),(A,(B,()))))))
def nx1 (s:tS.den) (q:Int) (A:kA) (B:sq):RQ iQ nO:=.next (q,(((),()),(dx s,(((),()),(A,(B,()))))))
theorem aaB (hs:(cB s).Ok) :
    ∃ (same:kA) (can:sq),same.n=s.1.n/\can.n=s.1.n/\(∀ t,t < s.1.n->(same.g t).n=(s.1.g t).2.1.n/\(can.g t).n=(s.1.g t).2.1.n) /\
      GA (z0,(s,((),((),((),(s.1,((s.1.n:Int),()))))))) ((0:Int),(((),()),(dx s,(((),()),((⟨s.1.n,fun _=>(⟨0,fun i=>((0:Int),())⟩:Sl _)⟩:kA),((⟨s.1.n,fun _=>(⟨0,fun i=>((0:Int),((0:Int),((0:Int),((0:Int),((0:Int),((0:Int),()))))))⟩:Sl _)⟩:sq),())))))) =
        .exit 0 (((),()),(dx s,(((),()),(same,(can,()))))):=by
  have WM:=eF hs
  unfold GA
  obtain ⟨v,⟨same,can,hv,h1,h2,h3⟩,h4⟩:=jq (step:=xo (z0,(s,((),((),((),(s.1,((s.1.n:Int),())))))))) (N:=cz)
    (P:=fun j v=>∃ (same:kA) (can:sq),v=((j:Int),(((),()),(dx s,(((),()),(same,(can,()))))))/\same.n=s.1.n/\can.n=s.1.n/\(∀ t,t < j->(same.g t).n=(s.1.g t).2.1.n/\(can.g t).n=(s.1.g t).2.1.n))
    (q:=fun v=>.exit 0 v.2) s.1.n (by unfold cz; omega) (fun j v hj hp=>by
      obtain ⟨same,can,rfl,g1,g2,g3⟩:=hp
      have hk:=dN hs hj
      refine ⟨(((j + 1:Nat):Int),(((),()),(dx s,(((),()),(bO same j (rS (s.1.g j).2.1.n),(bO can j (rC (s.1.g j).2.1.n),())))))),?_,_,_,rfl,g1,g2,fun t ht=>?_⟩
      · unfold xo Aw
        have w1:W ((j:Int) + 1)=((j + 1:Nat):Int):=by rw [gQ ⟨by omega,by omega⟩]; rfl
        have a8:(0:Int)<=(((s.1.g j).2.1.n:Nat):Int)/\((((s.1.g j).2.1.n:Nat):Int)<=281474976710656/\(((s.1.g j).2.1.n:Nat):Int) * 8<=281474976710656):=by omega
        have PA:(0:Int)<=(((s.1.g j).2.1.n:Nat):Int)/\((((s.1.g j).2.1.n:Nat):Int)<=281474976710656/\(((s.1.g j).2.1.n:Nat):Int) * 48<=281474976710656):=by omega
        refine (aq (decide_eq_true (dW hj))).trans ?_
        refine (aq (decide_eq_true (aQ hj))).trans ?_
        refine (aq (decide_eq_true a8)).trans ?_
        refine (aq (decide_eq_true PA)).trans ?_
        refine (aq (decide_eq_true (aQ (n:=same.n) (by omega)))).trans ?_
        refine (aq (decide_eq_true (aQ (n:=can.n) (by omega)))).trans ?_
        exact congrArg (fun q:Int=>WN s q (bO same j (rS (s.1.g j).2.1.n)) (bO can j (rC (s.1.g j).2.1.n))) w1
      · by_cases e:t=j
        · subst e; rw [fq,fq]; exact ⟨rfl,rfl⟩
        · rw [gy _ e,gy _ e]; exact g3 t (by omega)) (fun v hp=>by
      obtain ⟨same,can,rfl,g1,g2,g3⟩:=hp
      unfold xo Aw
      have:¬ ((s.1.n:Int) < (s.1.n:Int)):=by omega
      exact (aR (decide_eq_false this)).trans rfl) ((0:Int),(((),()),(dx s,(((),()),((⟨s.1.n,fun _=>(⟨0,fun i=>((0:Int),())⟩:Sl _)⟩:kA),((⟨s.1.n,fun _=>(⟨0,fun i=>((0:Int),((0:Int),((0:Int),((0:Int),((0:Int),((0:Int),()))))))⟩:Sl _)⟩:sq),())))))) ⟨_,_,rfl,rfl,rfl,fun t ht=>by omega⟩
  refine ⟨same,can,h1,h2,h3,h4.trans ?_⟩
  rw [hv]
theorem aaC (hs:(cB s).Ok) (h1:same.n=s.1.n) (h2:can.n=s.1.n) (h3:∀ t,t < s.1.n->(same.g t).n=(s.1.g t).2.1.n/\(can.g t).n=(s.1.g t).2.1.n) :
    ∃ (gz:kA) (mF:sq),Inv s [first (cB s)] [] gz mF /\
      GC (z0,(s,((),((),((),((((s.1.g 0).2.1.n:Nat):Int),())))))) ((0:Int),(((),()),(dx s,(((),()),(same,(can,())))))) = .exit 2 (((),()),(dx s,(((),()),(gz,(mF,()))))):=by
  have WM:=eF hs
  have xU:0 < s.1.n:=hs.n1
  have hk:=dN hs xU
  unfold GC
  obtain ⟨v,⟨gz,mF,hv,g1,g2,g3,g4⟩,g5⟩:=jq (step:=xq (z0,(s,((),((),((),((((s.1.g 0).2.1.n:Nat):Int),()))))))) (N:=cz)
    (P:=fun j v=>∃ (same:kA) (can:sq),v=((j:Int),(((),()),(dx s,(((),()),(same,(can,()))))))/\same.n=s.1.n/\can.n=s.1.n/\(∀ t,t < s.1.n->(same.g t).n=(s.1.g t).2.1.n/\(can.g t).n=(s.1.g t).2.1.n) /\
      ∀ i,i < j->(same.g 0).g i=((-1:Int),())/\(can.g 0).g i=(s.1.g 0).2.1.g i)
    (q:=fun v=>.exit 2 v.2) (s.1.g 0).2.1.n (by unfold cz; omega) (fun j v hj hp=>by
      obtain ⟨same,can,rfl,g1,g2,g3,g4⟩:=hp
      refine ⟨(((j + 1:Nat):Int),(((),()),(dx s,(((),()),(bO same 0 (bO (same.g 0) j ((-1:Int),())),(bO can 0 (bO (can.g 0) j ((s.1.g 0).2.1.g j)),())))))),?_,_,_,rfl,g1,g2,fun t ht=>?_,fun i hi'=>?_⟩
      · unfold xq Ax
        have w1:W ((j:Int) + 1)=((j + 1:Nat):Int):=by rw [gQ ⟨by omega,by omega⟩]; rfl
        have b1:(0:Int)<=0/\(0:Int) < (same.n:Int):=by omega
        have b2:(0:Int)<=0/\(0:Int) < (can.n:Int):=by omega
        refine (aq (decide_eq_true (dW hj))).trans ?_
        refine (aq (decide_eq_true b1)).trans ?_
        refine (aq (decide_eq_true b2)).trans ?_
        refine (aK (Po (t:=0) xU hj)).trans ?_
        refine (aq (decide_eq_true (aQ (n:=(same.g 0).n) (by rw [(g3 0 xU).1]; exact hj)))).trans ?_
        refine (aq (decide_eq_true (aQ (n:=(can.g 0).n) (by rw [(g3 0 xU).2]; exact hj)))).trans ?_
        exact congrArg (fun q:Int=>nx1 s q (bO same 0 (bO (same.g 0) j ((-1:Int),()))) (bO can 0 (bO (can.g 0) j ((s.1.g 0).2.1.g j)))) w1
      · by_cases e:t=0
        · subst e; rw [fq,fq]; exact g3 0 ht
        · rw [gy _ e,gy _ e]; exact g3 t ht
      · rw [fq,fq]
        by_cases e:i=j
        · subst e; rw [fq,fq]; exact ⟨rfl,rfl⟩
        · rw [gy _ e,gy _ e]; exact g4 i (by omega)) (fun v hp=>by
      obtain ⟨same,can,rfl,g1,g2,g3,g4⟩:=hp
      unfold xq Ax
      have:¬ ((((s.1.g 0).2.1.n:Nat):Int) < (((s.1.g 0).2.1.n:Nat):Int)):=by omega
      exact (aR (decide_eq_false this)).trans rfl) ((0:Int),(((),()),(dx s,(((),()),(same,(can,())))))) ⟨same,can,rfl,h1,h2,h3,fun i hi'=>by omega⟩
  refine ⟨gz,mF,⟨g1,g2,fun t ht=>(g3 t ht).1,fun t ht=>(g3 t ht).2,fun t ht i hi'=>?_,fun i hi'=>by simp at hi',fun t ht i hi'=>?_,fun i hi'=>by simp at hi'⟩,g5.trans ?_⟩
  · have:t=0:=by simp at ht; exact ht
    subst this
    rw [(g4 i hi').1]
    show (-1:Int)=(first (cB s)).getD i (-1)
    simp only [first,List.getD_eq_getElem?_getD,List.getElem?_replicate]
    rw [if_pos (show i < (cB s).k 0 from hi')]
    rfl
  · have:t=0:=by simp at ht; exact ht
    subst this
    exact (g4 i hi').2
  · rw [hv]
theorem FX (hs:(cB s).Ok):kz (cB s) (s.1.n - 1) 1<=20:=by
 have WM:=eF hs
 have h:∀ m t,t + m<=s.1.n->kz (cB s) m t<=4 * m + 1:=by
  intro m
  induction m with
  | zero=>intro t _; exact Nat.le_refl _
  | succ m ih =>
   intro t ht
   have h1:=ih (t + 1) (by omega)
   have h2:=dN hs (t:=t) (by omega)
   have h3:(cB s).k t=(s.1.g t).2.1.n:=rfl
   simp only [kz,h3]
   omega
 have xU:0 < s.1.n:=hs.n1
 have:=h (s.1.n - 1) 1 (by omega)
 omega
theorem anh (hs:(cB s).Ok):∃ z:Sl fD.den,US (no_index (s,()))=some (z,())/\z.list.map toL=links (cB s)/\∀ it∈z.list,Good s it:=by
 have WM:=eF hs
 have xU:0 < s.1.n:=hs.n1
 obtain ⟨same,can,h1,h2,h3,h4⟩:=aaB hs
 obtain ⟨gz,mF,g1,g2⟩:=aaC hs h1 h2 h3
 have hsh:Shape s [first (cB s)] []:=⟨by simp,xU,fun t ht=>by
   have:t=0:=by simp at ht; exact ht
   subst this; simp [first]; rfl,fun t i x ht=>by simp at ht,fun _=>Nat.zero_le _,fun _=>rfl,fun i x hx=>by simp at hx⟩
 obtain ⟨z',JO,VU,items,f1,f2,f3,f4,f5⟩:=aki hs 20 [first (cB s)] [] z0 0 0 gz mF (FX hs) hsh g1 (Int.le_refl _) hs.bn.1 (Int.le_refl _) hs.gn.1
 have hz:z0.list=[]:=rfl
 rw [hz,List.nil_append] at f2
 refine ⟨z',?_,by rw [f2,f3]; exact VT hs (FX hs),by rw [f2]; exact f4⟩
 have hu:De () (s,())=some z':=by
  unfold De UR
  have a24:(0:Int) < (s.1.n:Int)/\((s.1.n:Int)<=281474976710656/\(s.1.n:Int) * 24<=281474976710656):=by omega
  have a0:(0:Int)<=0/\(0:Int) < (s.1.n:Int):=by omega
  refine (aq (decide_eq_true a24)).trans ?_
  refine (aq (decide_eq_true a24)).trans ?_
  refine (bp h4).trans ?_
  refine (aq (decide_eq_true a0)).trans ?_
  refine (bp g2).trans ?_
  refine (aK f1).trans ?_
  rfl
 unfold US Q81
 have hp:UX () (s,())=true:=by show (De () (s,())).isSome=true; rw [hu]; rfl
 refine (aq hp).trans ?_
 show some ((De () (s,())).getD _,())=_
 rw [hu]
 rfl
end Go.Dm

/-
 Of the plain law.
-/
import Derived.Test.YtadkaccpacpklaaL14LP11
set_option linter.unusedVariables false
set_option linter.unusedSimpArgs false
namespace Go.Dm
set_option maxRecDepth 100000
open Go.Low
variable {s:tS.den}
def abe (s:tS.den) (m:Nat):tS.den:=(⟨m,s.1.g⟩,s.2)
theorem ae3 (hs:(cB s).Ok) {m:Nat} (h1:0 < m) (h2:m<=s.1.n):(cB (abe s m)).Ok:=
 ⟨h1,Nat.le_trans h2 hs.n4,fun t ht=>hs.k t (Nat.lt_of_lt_of_le ht h2),fun t ht=>hs.Xp t (Nat.lt_of_lt_of_le ht h2),fun t ht=>hs.tm t (Nat.lt_of_lt_of_le ht h2),fun t i ht=>hs.box t i (Nat.lt_of_lt_of_le ht h2),hs.sp,hs.dp,hs.bn,hs.gn⟩
def Yn (s:tS.den) (t:Nat):Bool:=(links (cB (abe s (t + 1)))).isEmpty
theorem ao7 (hs:(cB s).Ok) {t:Nat} (ht:t < s.1.n):M89 (no_index ((t:Int),(s,())))=some (true,(Yn s t,())):=by
 have WM:=eF hs
 unfold M89 Q89
 have w:=dR (n:=s.1.n) ht (by omega)
 have a:(0:Int)<=0/\((0:Int)<=W ((t:Int) + 1)/\W ((t:Int) + 1)<=(s.1.n:Int)):=by rw [w]; omega
 refine (aq (decide_eq_true a)).trans ?_
 have hM:=aiR (ae3 hs (m:=t + 1) (by omega) (by omega))
 have hM':Yx (((⟨Int.toNat (W ((t:Int) + 1) - 0),fun i=>s.1.g (i + 0)⟩:Sl Tc.den),s.2),())=some (!(links (cB (abe s (t + 1)))).isEmpty,()):=by rw [w]; exact hM
 refine (aK hM').trans ?_
 show some (true,(!(!(links (cB (abe s (t + 1)))).isEmpty),()))=_
 rw [Bool.not_not]; rfl
theorem auH (hs:Io s=true) (hn:s.1.n<=1000) (hk:∀ t,t < s.1.n->(s.1.g t).2.1.n<=1000):Yl (no_index (s,()))=some (match fB (Yn s) s.1.n with | some k=>((k:Int),((0:Int),())) | none=>((0:Int),((5:Int),()))):=by
 have hok:=qP hs
 have WM:=eF hok
 have xU:0 < s.1.n:=hok.n1
 have hp:∀ j,j < s.1.n->p89 ((j:Int),(s,()))=true:=fun j hj=>by show (M89 ((j:Int),(s,()))).isSome=true; rw [ao7 hok hj]; rfl
 have hv:∀ j,j < s.1.n->v89 ((j:Int),(s,()))=(true,(Yn s j,())):=fun j hj=>by show (M89 ((j:Int),(s,()))).getD _=_; rw [ao7 hok hj]; rfl
 have wN:W ((s.1.n:Int) - 1)=((s.1.n - 1:Nat):Int):=by rw [gQ ⟨by omega,by omega⟩]; omega
 have key:FO (W (((s.1.n:Nat):Int) - 1),((fun y1=>(p89 (y1.1,(s,())),v89 (y1.1,(s,())))),())) ((0:Int),())=match fB (Yn s) s.1.n with | some k=>LQ.ret (wy:=jM) (show (aa jM.ret).den from (true,((k:Int),(true,())))) | none=>.exit 0 ():=by
  rw [wN]
  unfold FO
  refine kG (ps:=iR) (n:=s.1.n) (f:=fun j=>((j:Int),())) (qr:=fun k=>LQ.ret (wy:=jM) (show (aa jM.ret).den from (true,((k:Int),(true,()))))) (by unfold cz; omega) (fun j hj _=>?_) (fun _=>?_)
  ·unfold FN FM
   have h1:(j:Int)<=((s.1.n - 1:Nat):Int):=by omega
   refine (aq (decide_eq_true h1)).trans ?_
   refine (aq (hp j hj)).trans ?_
   have vz:(v89 ((j:Int),(s,()))).2.1=Yn s j:=by rw [hv j hj]
   cases hb:Yn s j with
   | true =>
    rw [hb] at vz
    refine (aq vz).trans ?_
    show RQ.out (LQ.ret (show (aa jM.ret).den from ((v89 ((j:Int),(s,()))).1,((j:Int),(true,())))))=_
    rw [hv j hj]; rfl
   | false =>
    rw [hb] at vz
    refine (aR vz).trans ?_
    exact congrArg (fun q:Int=>(RQ.next (show (aa iR).den from (q,())):RQ iR jM)) (dR hj (by omega))
  ·unfold FN FM
   have:¬ ((s.1.n:Int)<=((s.1.n - 1:Nat):Int)):=by omega
   exact aR (decide_eq_false this)
 have hM:Xl ((0:Int),(W (((s.1.n:Nat):Int) - 1),((fun y1=>(p89 (y1.1,(s,())),v89 (y1.1,(s,())))),())))=some (match fB (Yn s) s.1.n with | some k=>(true,((k:Int),(true,()))) | none=>(false,((0:Int),(false,())))):=by
  unfold Xl Q75
  revert key
  cases fB (Yn s) s.1.n with
  | some k=>intro key; exact (congrArg (fun o=>aF o 0 _ (bS o _ _)) key).trans rfl
  | none=>intro key; exact (congrArg (fun o=>aF o 0 _ (bS o _ _)) key).trans rfl
 have h74:=Us hn hk
 rw [hs] at h74
 have fin:∀ o:Option Nat,Xl ((0:Int),(W (((s.1.n:Nat):Int) - 1),((fun y1=>(p89 (y1.1,(s,())),v89 (y1.1,(s,())))),())))=some (match o with | some k=>(true,((k:Int),(true,()))) | none=>(false,((0:Int),(false,()))))->Yl (no_index (s,()))=some (match o with | some k=>((k:Int),((0:Int),())) | none=>((0:Int),((5:Int),()))):=fun o ho=>by
  unfold Yl Q46
  simp only [h74,lK,ho,Bool.not_true,cond_false]
  cases o <;> rfl
 exact fin _ hM
end Go.Dm
namespace Go.Dm
set_option maxRecDepth 100000
open Go.Low
variable {s:tS.den}
end Go.Dm
namespace Go.Dm
set_option maxRecDepth 100000
open Go.Low
variable {s:tS.den}
structure PC (s:tS.den) (rows:cT):Prop where
 n:rows.n=s.1.n
 k:∀ t,t < s.1.n->(rows.g t).1.n=(s.1.g t).2.1.n
theorem aoL (hs:(cB s).Ok) {t:Nat} (ht:t < s.1.n) {L:LL} (h:L∈links (cB s)):L.take (t + 1)∈links (cB (abe s (t + 1))):=by
 have h:=(tX hs).1 h
 have hlen:L.length=s.1.n:=h.len
 have hp:L.take (t + 1) <+: L:=List.take_prefix _ _
 have hl:(L.take (t + 1)).length=t + 1:=by rw [List.length_take]; omega
 have hb:(OC s)=(cB s).born:=rfl
 refine (tX (ae3 hs (by omega) (by omega))).2 ⟨hl,(getD_take (Nat.succ_pos t)).trans h.first,fun u hu=>?_,?_,?_,fun u hu i hi' p Yw=>?_⟩
 ·have Pt:u + 1 < t + 1:=hu
  rw [getD_take Pt]
  exact h.row u (show u + 1 < s.1.n by omega)
 ·have h1:=acG hp
  have h2:=h.born
  have:(cB (abe s (t + 1))).born=(cB s).born:=rfl
  omega
 ·have h1:=acH hp
  have h2:=h.gone
  have:(cB (abe s (t + 1))).gone=(cB s).gone:=rfl
  omega
 ·have Pt:u < t + 1:=hu
  have e:=AZ (L:=L.take (t + 1)) (M:=L.drop (t + 1)) (t:=u) (i:=i) (by omega)
  rw [List.take_append_drop] at e
  rw [<- e] at Yw
  exact h.ch u (show u < s.1.n by omega) i hi' p Yw
def Dg (s:tS.den):Bool:=!(links (cB s)).isEmpty
theorem Ki:Dg s=true↔∃ L,L∈links (cB s):=by
 unfold Dg
 cases links (cB s) with
 | nil=>simp
 | cons a l=>exact ⟨fun _=>⟨a,.head _⟩,fun _=>rfl⟩
theorem afh (hs:(cB s).Ok):(fB (Yn s) s.1.n).isNone=Dg s:=by
 have xU:0 < s.1.n:=hs.n1
 cases h:fB (Yn s) s.1.n with
 | none =>
  have h1:=jg h (s.1.n - 1) (by omega)
  unfold Yn at h1
  rw [Nat.sub_add_cancel xU] at h1
  show true = !(links (cB s)).isEmpty
  have e:(links (cB s)).isEmpty=false:=h1
  rw [e]; rfl
 | some k =>
  obtain ⟨h1,h2,_⟩:=kD h
  cases ha:Dg s with
  | false=>rfl
  | true =>
   obtain ⟨L,hL⟩:=Ki.1 ha
   have h3:=aoL hs h1 hL
   unfold Yn at h2
   rw [List.isEmpty_iff] at h2
   rw [h2] at h3
   cases h3
end Go.Dm
namespace Go.Dm
set_option maxRecDepth 100000
open Go.Low
variable {s:tS.den}
abbrev Fact:=Int×Int×Int×Int×Unit
abbrev afP:=Fact->Option Int
def vM (m:afP) (f:Fact):Int:=Option.getD (m f) 0
def aKh (m:afP) (f:Fact):afP:=ek (k:=Ca) (v:=tI) (nP Ca) m f (W ((Option.getD (m f) (0:Int)) + (1:Int)))
def Yv (m:afP) (l:List Fact):afP:=l.foldl aKh m
def cnt (f:Fact) (l:List Fact):Nat:=l.countP fun g=>decide (g=f)
theorem bah (x y:Fact):nP Ca x y=decide (x=y):=by
 rw [Bool.eq_iff_iff,decide_eq_true_eq]
 exact BY (τ:=Ca) rfl x y
theorem aPp {m:afP} {f:Fact} (h0:0<=vM m f) (h1:vM m f<=1000000000) (g:Fact):vM (aKh m f) g=vM m g + (if f=g then 1 else 0):=by
 have hw:W (vM m f + 1)=vM m f + 1:=gQ ⟨by omega,by omega⟩
 show Option.getD (bif nP Ca g f then some (W (vM m f + 1)) else m g) 0=_
 rw [bah,hw]
 by_cases e:g=f
 ·subst e
  rw [decide_eq_true rfl,if_pos rfl]; rfl
 ·rw [decide_eq_false e,if_neg (fun h=>e h.symm),Int.add_zero]; rfl
theorem aFu:∀ (l:List Fact) (m:afP),(∀ f,0<=vM m f/\vM m f + l.length<=1000000000)->∀ g,vM (Yv m l) g=vM m g + (cnt g l:Nat)
 | [],m,_,g=>by show vM m g=vM m g + ((0:Nat):Int); omega
 | f :: l,m,h,g=>by
  have hf:=h f
  rw [List.length_cons] at hf
  have h1:∀ g,vM (aKh m f) g=vM m g + (if f=g then 1 else 0):=aPp hf.1 (by omega)
  have:=aFu l (aKh m f) (fun g=>by
   have hg:=h g
   rw [List.length_cons] at hg
   rw [h1 g]
   by_cases e:f=g
   ·subst e; rw [if_pos rfl]; omega
   ·rw [if_neg e]; omega) g
  show vM (Yv (aKh m f) l) g=_
  rw [this,h1 g]
  unfold cnt
  rw [List.countP_cons]
  by_cases e:f=g
  ·subst e; simp; omega
  ·simp [e]
theorem atL (m:afP) (a b:List Fact):Yv m (a ++ b)=Yv (Yv m a) b:=List.foldl_append
def hit (N:Nat) (L:LL) (t i:Nat):List Fact:=
 (if t=0 then [] else if qR L t i < 0 then [((1:Int),(t:Int),(i:Int),(0:Int),())] else [((0:Int),(t:Int),(i:Int),qR L t i,())]) ++ (if t + 1 < N/\has (L.getD (t + 1) []) (i:Int)=false then [((2:Int),(t:Int),(i:Int),(0:Int),())] else [])
def facts (N:Nat) (k:Nat->Nat) (L:LL):List Fact:=(List.range N).flatMap fun t=>(List.range (k t)).flatMap (hit N L t)
theorem aTB {rows:cT} (hn:rows.n=s.1.n) (h4:s.1.n<=4) {t i:Nat} (ht:t + 1 < s.1.n) (hr:(rows.g (t + 1)).1.n<=1000) :
  ∃ v:Int,Ay (no_index ((vw s rows).1,((t:Int),((i:Int),()))))=some (v,())/\decide (v < 0) = !has ((aW rows).getD (t + 1) []) (i:Int):=by
 rw [kH (by omega)]
 have adO:=aat (rows.g (t + 1)).1 (by omega) (i:Int)
 have h97:=Wt (rows.g (t + 1)).1 (by omega) (i:Int)
 have hW:W ((t:Int) + 1)=((t + 1:Nat):Int):=dR (n:=s.1.n) (by omega) (by omega)
 unfold XA Q97 at h97
 have h97:=(aK adO).symm.trans h97
 refine ⟨(match fB (fun j=>decide ((i:Int)=((rows.g (t + 1)).1.g j).1)) (rows.g (t + 1)).1.n with | some k=>(k:Int) | none=>-1),?_,?_⟩
 ·have key:∀ w:Int,w=((t + 1:Nat):Int)->(bif decide (w=((s.1.n:Nat):Int)) then some ((-1:Int),()) else bif decide ((0:Int)<=w/\w < ((rows.n:Nat):Int)) then cl (Dx).dflt (Gq ((rows.g (Int.toNat w)).1,((i:Int),()))) (fun u0=>some u0) none else none)=some ((match fB (fun j=>decide ((i:Int)=((rows.g (t + 1)).1.g j).1)) (rows.g (t + 1)).1.n with | some k=>(k:Int) | none=>-1),()):=by
   intro w hw
   subst hw
   have c1:¬ (((t + 1:Nat):Int)=((s.1.n:Nat):Int)):=by omega
   refine (aR (decide_eq_false c1)).trans ?_
   refine (aq (decide_eq_true (aQ (by omega)))).trans ?_
   exact aK adO
  unfold Ay aa9
  exact key _ hW
 ·have h:decide ((0:Int)<=(match fB (fun j=>decide ((i:Int)=((rows.g (t + 1)).1.g j).1)) (rows.g (t + 1)).1.n with | some k=>(k:Int) | none=>-1))=has (aV (rows.g (t + 1)).1) (i:Int):=congrArg (fun o:Option (Bool×Unit)=>(o.getD (true,())).1) h97
  rw [<- h]
  generalize (match fB (fun j=>decide ((i:Int)=((rows.g (t + 1)).1.g j).1)) (rows.g (t + 1)).1.n with | some k=>(k:Int) | none=>-1)=v
  by_cases c:v < 0
  ·have c':¬ (0<=v):=by omega
   rw [decide_eq_true c,decide_eq_false c']; rfl
  ·have c':0<=v:=by omega
   rw [decide_eq_false c,decide_eq_true c']; rfl
def bai (j:Int) (m:afP):RQ ep mE:=.next (j,(((),()),(m,())))
theorem aTC (hs:(cB s).Ok) {rows:cT} (h:PC s rows) {t:Nat} (ht:t < s.1.n) (N:Int) (c:T0.den) (m:afP) :
    sV ((),((),((),((),((t:Int),(N,((t:Int),((rows.g t).1,((((rows.g t).1.n:Nat):Int),(s,(c,((vw s rows).1,())))))))))))) ((0:Int),(((),()),(m,()))) =
      .exit 4 (((),()),(Yv m ((List.range (s.1.g t).2.1.n).flatMap (hit s.1.n (aW rows) t)),())):=by
  have h4:=eF hs
  have hk:=dN hs ht
  have RI:=h.n
  have hkn:=h.k t ht
  unfold sV
  have:=bQ (step:=qY ((),((),((),((),((t:Int),(N,((t:Int),((rows.g t).1,((((rows.g t).1.n:Nat):Int),(s,(c,((vw s rows).1,()))))))))))))) (rows.g t).1.n cz
    (fun j=>((j:Int),(((),()),(Yv m ((List.range j).flatMap (hit s.1.n (aW rows) t)),())))) (by unfold cz; omega) (fun j hj=>by
      have e:Yv m ((List.range (j + 1)).flatMap (hit s.1.n (aW rows) t))=Yv (Yv m ((List.range j).flatMap (hit s.1.n (aW rows) t))) (hit s.1.n (aW rows) t j):=by
        rw [List.range_succ,List.flatMap_append,atL]; simp
      rw [e]
      generalize Yv m ((List.range j).flatMap (hit s.1.n (aW rows) t))=m'
      have w1:W ((j:Int) + 1)=((j + 1:Nat):Int):=dR hj (by omega)
      show _=bai ((j + 1:Nat):Int) _
      rw [<- w1]
      have hl:qR (aW rows) t j=(show Int from ((rows.g t).1.g j).1):=OO (by omega) hj
      have hW:W ((t:Int) + 1)=((t + 1:Nat):Int):=dR (n:=s.1.n) (by omega) (by omega)
      unfold qY sU
      refine (aq (decide_eq_true (dW hj))).trans ?_
      refine (aq (decide_eq_true (aQ hj))).trans ?_
      by_cases tn:t + 1 < s.1.n
      · have hd:decide (W ((t:Int) + 1) < ((s.1.n:Nat):Int))=true:=by rw [hW]; exact decide_eq_true (by omega)
        obtain ⟨v,hv,hv2⟩:=aTB (i:=j) RI h4 tn (by have:=h.k (t + 1) tn; have:=dN hs tn; omega)
        by_cases t0:t=0
        · have d0:decide ((t:Int)=(0:Int))=true:=decide_eq_true (by omega)
          refine (aq d0).trans ?_
          refine (aq hd).trans ?_
          refine (aK hv).trans ?_
          cases hh:has ((aW rows).getD (t + 1) []) (j:Int) with
          | true =>
            rw [hh] at hv2
            refine (aR hv2).trans ?_
            unfold hit
            rw [if_pos t0,if_neg (by rw [hh]; simp)]; rfl
          | false =>
            rw [hh] at hv2
            refine (aq hv2).trans ?_
            unfold hit
            rw [if_pos t0,if_pos ⟨tn,hh⟩]; rfl
        · have d0:decide ((t:Int)=(0:Int))=false:=decide_eq_false (by omega)
          refine (aR d0).trans ?_
          by_cases l0:(show Int from ((rows.g t).1.g j).1) < 0
          · refine (aq (decide_eq_true l0)).trans ?_
            refine (aq hd).trans ?_
            refine (aK hv).trans ?_
            cases hh:has ((aW rows).getD (t + 1) []) (j:Int) with
            | true =>
              rw [hh] at hv2
              refine (aR hv2).trans ?_
              unfold hit
              rw [if_neg t0,hl,if_pos l0,if_neg (by rw [hh]; simp)]; rfl
            | false =>
              rw [hh] at hv2
              refine (aq hv2).trans ?_
              unfold hit
              rw [if_neg t0,hl,if_pos l0,if_pos ⟨tn,hh⟩]; rfl
          · refine (aR (decide_eq_false l0)).trans ?_
            refine (aq hd).trans ?_
            refine (aK hv).trans ?_
            cases hh:has ((aW rows).getD (t + 1) []) (j:Int) with
            | true =>
              rw [hh] at hv2
              refine (aR hv2).trans ?_
              unfold hit
              rw [if_neg t0,hl,if_neg l0,if_neg (by rw [hh]; simp)]; rfl
            | false =>
              rw [hh] at hv2
              refine (aq hv2).trans ?_
              unfold hit
              rw [if_neg t0,hl,if_neg l0,if_pos ⟨tn,hh⟩]; rfl
      · have hd:decide (W ((t:Int) + 1) < ((s.1.n:Nat):Int))=false:=by rw [hW]; exact decide_eq_false (by omega)
        have hno:¬ (t + 1 < s.1.n/\has ((aW rows).getD (t + 1) []) (j:Int)=false):=fun h=>tn h.1
        by_cases t0:t=0
        · have d0:decide ((t:Int)=(0:Int))=true:=decide_eq_true (by omega)
          refine (aq d0).trans ?_
          refine (aR hd).trans ?_
          unfold hit
          rw [if_pos t0,if_neg hno]; rfl
        · have d0:decide ((t:Int)=(0:Int))=false:=decide_eq_false (by omega)
          refine (aR d0).trans ?_
          by_cases l0:(show Int from ((rows.g t).1.g j).1) < 0
          · refine (aq (decide_eq_true l0)).trans ?_
            refine (aR hd).trans ?_
            unfold hit
            rw [if_neg t0,hl,if_pos l0,if_neg hno]; rfl
          · refine (aR (decide_eq_false l0)).trans ?_
            refine (aR hd).trans ?_
            unfold hit
            rw [if_neg t0,hl,if_neg l0,if_neg hno]; rfl) (q:=.exit 4 (((),()),(Yv m ((List.range (rows.g t).1.n).flatMap (hit s.1.n (aW rows) t)),()))) (by
      unfold qY sU
      have:¬ ((((rows.g t).1.n:Nat):Int) < (((rows.g t).1.n:Nat):Int)):=by omega
      exact aR (decide_eq_false this))
  rw [hkn] at this
  rw [hkn]
  exact this
theorem aPq (hs:(cB s).Ok) {rows:cT} (h:PC s rows) (c:T0.den) (m:afP) :
  AP ((),((),((),((),(((s.1.n:Nat):Int),(s,(c,((vw s rows).1,())))))))) ((0:Int),(((),()),(m,()))) =
   .exit 2 (((),()),(Yv m (facts s.1.n (fun t=>(s.1.g t).2.1.n) (aW rows)),())):=by
 have h4:=eF hs
 have RI:=h.n
 unfold AP facts
 refine bQ (step:=zC ((),((),((),((),(((s.1.n:Nat):Int),(s,(c,((vw s rows).1,()))))))))) s.1.n cz
  (fun j=>((j:Int),(((),()),(Yv m ((List.range j).flatMap fun t=>(List.range (s.1.g t).2.1.n).flatMap (hit s.1.n (aW rows) t)),())))) (by unfold cz; omega) (fun j hj=>?_) ?_
 ·have e:Yv m ((List.range (j + 1)).flatMap fun t=>(List.range (s.1.g t).2.1.n).flatMap (hit s.1.n (aW rows) t))=Yv (Yv m ((List.range j).flatMap fun t=>(List.range (s.1.g t).2.1.n).flatMap (hit s.1.n (aW rows) t))) ((List.range (s.1.g j).2.1.n).flatMap (hit s.1.n (aW rows) j)):=by
   rw [List.range_succ,List.flatMap_append,atL]; simp
  rw [e]
  generalize Yv m ((List.range j).flatMap fun t=>(List.range (s.1.g t).2.1.n).flatMap (hit s.1.n (aW rows) t))=m'
  have w1:W ((j:Int) + 1)=((j + 1:Nat):Int):=dR hj (by omega)
  unfold zC AO
  refine (aq (decide_eq_true (dW hj))).trans ?_
  refine (aq (decide_eq_true (aQ (n:=rows.n) (by omega)))).trans ?_
  refine (bp (aTC hs h hj ((s.1.n:Nat):Int) c m')).trans ?_
  exact congrArg (fun q:Int=>(RQ.next (show (aa fF).den from (q,(((),()),(Yv m' ((List.range (s.1.g j).2.1.n).flatMap (hit s.1.n (aW rows) j)),())))):RQ fF sH)) w1
 ·unfold zC AO
  have:¬ (((s.1.n:Nat):Int) < ((s.1.n:Nat):Int)):=by omega
  exact aR (decide_eq_false this)
theorem Good.rows {it:fD.den} (h:Good s it):∃ rows:cT,it=vw s rows/\PC s rows/\toL it=aW rows:=⟨it.1.2.2.2.2.2.1,h.eq,⟨h.n,h.k⟩,rfl⟩
def nxA (c:Int) (m:afP):RO jL:=.next ((),((),((),(s,(((),()),((c,()),(m,())))))))
theorem aFv (hs:(cB s).Ok):∀ (l:List fD.den) (c:Nat) (m:afP),(∀ it∈l,Good s it)->c + l.length<=1000000000 ->
  PI ((),((),((),(s,(((),()),(((c:Int),()),(m,()))))))) l=nxA (s:=s) ((c + l.length:Nat):Int) (Yv m ((l.map toL).flatMap (facts s.1.n fun t=>(s.1.g t).2.1.n)))
 | [],c,m,_,_=>rfl
 | it :: l,c,m,hg,hc=>by
  obtain ⟨rows,rfl,hr,hL⟩:=(hg it (.head _)).rows
  rw [List.length_cons] at hc
  have w1:W ((c:Int) + 1)=((c + 1:Nat):Int):=by rw [gQ ⟨by omega,by omega⟩]; rfl
  have st:PG ((),((),((),(s,(((),()),(((c:Int),()),(m,()))))))) (vw s rows)=nxA (s:=s) ((c + 1:Nat):Int) (Yv m (facts s.1.n (fun t=>(s.1.g t).2.1.n) (aW rows))):=by
   unfold PG RU
   have hm:=aPq hs hr (W ((c:Int) + 1),()) m
   refine (bp hm).trans ?_
   exact congrArg (fun q:Int=>nxA (s:=s) q (Yv m (facts s.1.n (fun t=>(s.1.g t).2.1.n) (aW rows)))) w1
  have ih:=aFv hs l (c + 1) (Yv m (facts s.1.n (fun t=>(s.1.g t).2.1.n) (aW rows))) (fun x hx=>hg x (.tail _ hx)) (by omega)
  unfold PI at ih ⊢
  simp only [eW,st]
  refine ih.trans ?_
  rw [<- atL,List.map_cons,List.flatMap_cons,hL,List.length_cons]
  have:c + 1 + l.length=c + (l.length + 1):=by omega
  rw [this]
theorem abS (hs:(cB s).Ok):(links (cB s)).length<=262144:=by
 have xU:0 < s.1.n:=hs.n1
 have h4:=eF hs
 have h:=(Yo hs (s.1.n - 1) (by omega)).2
 have e:GS (cB s) (s.1.n - 1) [[first (cB s)]]=links (cB s):=by
  rw [Ym]; simp only [List.flatMap_cons,List.flatMap_nil,List.append_nil]; rfl
 rw [e] at h
 have:64 ^ (s.1.n - 1)<=64 ^ 3:=Nat.pow_le_pow_right (by omega) (by omega)
 omega
theorem aPr {N:Nat} {L:LL} {t i:Nat}:(hit N L t i).length<=2:=by
 unfold hit
 rw [List.length_append]
 split <;> split <;> (try split) <;> simp
theorem aGC (hs:(cB s).Ok) {L:LL}:(facts s.1.n (fun t=>(s.1.g t).2.1.n) L).length<=24:=by
 unfold facts
 have h:=uU (l:=List.range s.1.n) (f:=fun t=>(List.range (s.1.g t).2.1.n).flatMap (hit s.1.n L t)) (k:=6) fun t ht=>by
  have h2:=uU (l:=List.range (s.1.g t).2.1.n) (f:=hit s.1.n L t) (k:=2) fun _ _=>aPr
  rw [List.length_range] at h2
  have:=dN hs (List.mem_range.1 ht)
  omega
 rw [List.length_range] at h
 have:=eF hs
 exact Nat.le_trans h (by omega)
theorem aQv (hs:(cB s).Ok):∃ m:afP,M65 (no_index (s,()))=some (m,(((links (cB s)).length:Nat):Int),())/\∀ f,vM m f=((cnt f ((links (cB s)).flatMap (facts s.1.n fun t=>(s.1.g t).2.1.n)):Nat):Int):=by
 obtain ⟨z,h1,h2,h3⟩:=anh hs
 have hlen:z.list.length=(links (cB s)).length:=by rw [<- h2,List.length_map]
 have hsm:=abS hs
 have hL:=aFv hs z.list 0 (fun _=>none) h3 (by omega)
 rw [h2,Nat.zero_add,hlen] at hL
 refine ⟨Yv (fun _=>none) ((links (cB s)).flatMap (facts s.1.n fun t=>(s.1.g t).2.1.n)),?_,fun f=>?_⟩
 ·unfold M65 Q65
  refine (aK h1).trans ?_
  refine (congrArg (fun o=>oQ o _ (oR o _ _)) hL).trans ?_
  rfl
 ·have h:=aFu ((links (cB s)).flatMap (facts s.1.n fun t=>(s.1.g t).2.1.n)) (fun _=>none) (fun g=>by
   have hl:=uU (l:=links (cB s)) (f:=facts s.1.n fun t=>(s.1.g t).2.1.n) (k:=24) fun L _=>aGC hs
   have:vM (fun _=>none) g=0:=rfl
   rw [this]
   omega) f
  have h0:vM (fun _=>none) f=0:=rfl
  rw [h,h0,Int.zero_add]
theorem aoR {g:Nat->List Fact} {f:Fact} {j0:Nat}:∀ {n:Nat},j0 < n->(∀ j,j < n->j≠j0->cnt f (g j)=0)->cnt f ((List.range n).flatMap g)=cnt f (g j0)
 | n + 1,h0,h=>by
  unfold cnt at h ⊢
  rw [List.range_succ,List.flatMap_append,List.countP_append,List.flatMap_cons,List.flatMap_nil,List.append_nil]
  by_cases e:j0=n
  ·subst e
   have:List.countP (fun g=>decide (g=f)) ((List.range j0).flatMap g)=0:=by
    rw [List.countP_eq_zero]
    intro x hx
    obtain ⟨j,hj,hx⟩:=List.mem_flatMap.1 hx
    have hj:=List.mem_range.1 hj
    exact List.countP_eq_zero.1 (h j (by omega) (by omega)) x hx
   omega
  ·have:=aoR (g:=g) (f:=f) (j0:=j0) (n:=n) (by omega) fun j hj hne=>h j (by omega) hne
   unfold cnt at this
   rw [this,h n (by omega) (fun e'=>e e'.symm),Nat.add_zero]
theorem aFw {N:Nat} {L:LL} {t i:Nat} {f:Fact} (h:f∈hit N L t i):f.2.1=(t:Int)/\f.2.2.1=(i:Int):=by
 unfold hit at h
 rw [List.mem_append] at h
 rcases h with h | h
 ·split at h
  ·cases h
  ·split at h <;> (rw [List.mem_singleton] at h; subst h; exact ⟨rfl,rfl⟩)
 ·split at h
  ·rw [List.mem_singleton] at h; subst h; exact ⟨rfl,rfl⟩
  ·cases h
theorem aoS {N:Nat} {k:Nat->Nat} {L:LL} {t i:Nat} (ht:t < N) (hi:i < k t) (a b:Int):cnt (a,((t:Int),((i:Int),(b,())))) (facts N k L)=cnt (a,((t:Int),((i:Int),(b,())))) (hit N L t i):=by
 unfold facts
 rw [aoR ht fun t' _ hne=>?_,aoR hi fun i' _ hne=>?_]
 ·refine List.countP_eq_zero.2 fun f hf=>?_
  have:=aFw hf
  rw [decide_eq_true_eq]
  rintro rfl
  exact hne (by have:=this.2; dsimp only at this; omega)
 ·refine List.countP_eq_zero.2 fun f hf=>?_
  obtain ⟨i',_,hf⟩:=List.mem_flatMap.1 hf
  have:=aFw hf
  rw [decide_eq_true_eq]
  rintro rfl
  exact hne (by have:=this.1; dsimp only at this; omega)
theorem an2 {α:Type} {g:α->List Fact} {f:Fact} {q:α->Bool}:∀ {l:List α},(∀ x∈l,cnt f (g x)=bif q x then 1 else 0)->cnt f (l.flatMap g)=l.countP q
 | [],_=>rfl
 | a :: l,h=>by
  have ih:=an2 (g:=g) (f:=f) (q:=q) (l:=l) fun x hx=>h x (.tail _ hx)
  have h1:=h a (.head _)
  unfold cnt at h1 ih ⊢
  rw [List.flatMap_cons,List.countP_append,h1,ih,List.countP_cons]
  cases q a <;> simp
  omega
variable {L:LL} {N t i:Nat}
theorem aKi (ht:0 < t) {b:Int} (hb:0<=b):cnt ((0:Int),((t:Int),((i:Int),(b,())))) (hit N L t i)=bif decide (qR L t i=b) then 1 else 0:=by
 unfold cnt hit
 rw [if_neg (by omega)]
 by_cases h:qR L t i < 0
 ·rw [if_pos h,decide_eq_false (show ¬ (qR L t i=b) by omega)]
  split <;> simp
 ·rw [if_neg h]
  by_cases e:qR L t i=b
  ·rw [decide_eq_true e]
   split <;> simp [e]
  ·rw [decide_eq_false e]
   split <;> simp [e]
theorem aKj (ht:0 < t) (hl:qR L t i = -1\/0<=qR L t i):cnt ((1:Int),((t:Int),((i:Int),((0:Int),())))) (hit N L t i)=bif decide (qR L t i = -1) then 1 else 0:=by
 unfold cnt hit
 rw [if_neg (by omega)]
 by_cases h:qR L t i < 0
 ·rw [if_pos h,decide_eq_true (show qR L t i = -1 by omega)]
  split <;> simp
 ·rw [if_neg h,decide_eq_false (show ¬ (qR L t i = -1) by omega)]
  split <;> simp
theorem aPs (ht:t + 1 < N):cnt ((2:Int),((t:Int),((i:Int),((0:Int),())))) (hit N L t i)=bif !has (L.getD (t + 1) []) (i:Int) then 1 else 0:=by
 unfold cnt hit
 cases hh:has (L.getD (t + 1) []) (i:Int) with
 | true=>by_cases t0:t=0 <;> by_cases l0:qR L t i < 0 <;> simp [t0,l0]
 | false =>
  rw [if_pos (show t + 1 < N/\false=false from ⟨ht,rfl⟩)]
  by_cases t0:t=0 <;> by_cases l0:qR L t i < 0 <;> simp [t0,l0]
end Go.Dm
namespace Go.Dm
set_option maxRecDepth 100000
open Go.Low
variable {s:tS.den}
def Jc (s:tS.den) (b:Bool):Int:=bif Io s && b then (bif Dg s then 0 else 7) else 2
theorem auP (hn:s.1.n<=1000) (hk:∀ t,t < s.1.n->(s.1.g t).2.1.n<=1000) (b:Bool):Sh (no_index (s,(b,())))=some (Jc s b,()):=by
 unfold Sh Q63 Jc
 refine (aK (Us hn hk)).trans ?_
 cases ho:Io s with
 | false=>exact aq rfl
 | true =>
  refine (aR rfl).trans ?_
  cases b with
  | false=>exact aq rfl
  | true =>
   refine (aR rfl).trans ?_
   refine (aK (aiR (qP ho))).trans ?_
   show (bif !Dg s then _ else _)=_
   cases Dg s <;> rfl
def wd (c a:Nat):Int:=bif decide (((c:Nat):Int)=(0:Int)) then 1 else bif decide (((c:Nat):Int)=((a:Nat):Int)) then 3 else 2
theorem aQw (c a:Nat):M66 (no_index (((c:Nat):Int),(((a:Nat):Int),())))=some (wd c a,()):=by
 show (bif decide (((c:Nat):Int)=(0:Int)) then some ((1:Int),()) else bif decide (((c:Nat):Int)=((a:Nat):Int)) then some ((3:Int),()) else some ((2:Int),()))=_
 unfold wd
 cases decide (((c:Nat):Int)=(0:Int)) <;> cases decide (((c:Nat):Int)=((a:Nat):Int)) <;> rfl
def e1:Sl sR.den:=⟨0,fun i=>((0:Int),())⟩
def e2:cT:=⟨0,fun i=>((⟨0,fun i=>((0:Int),())⟩:Sl _),())⟩
def RH (C:Nat) (w:Nat->Int):Sl sR.den:=tab e1 (fun j=>(w j,())) C
def LW (R:Nat) (C:Nat->Nat) (w:Nat->Nat->Int):cT:=tab e2 (fun i=>(RH (C i) (w i),())) R
theorem PD (C:Nat) (w:Nat->Int):(RH C w).n=C:=aoU rfl
theorem aoV {C:Nat} {w:Nat->Int} {j:Nat} (h:j < C):(RH C w).g j=(w j,()):=aze (s0:=e1) rfl h
theorem aa3 (R:Nat) (C:Nat->Nat) (w:Nat->Nat->Int):(LW R C w).n=R:=aoU rfl
theorem aoW {R:Nat} {C:Nat->Nat} {w:Nat->Nat->Int} {i:Nat} (h:i < R):(LW R C w).g i=(RH (C i) (w i),()):=aze (s0:=e2) rfl h
theorem aoX {α:Type} {s0:Sl α} {y z:Nat->α}:∀ {n:Nat},(∀ i,i < n->y i=z i)->tab s0 y n=tab s0 z n
 | 0,_=>rfl
 | n + 1,h=>by rw [tab,tab,aoX fun i hi=>h i (by omega),h n (by omega)]
theorem ala {R:Nat} {C C':Nat->Nat} {w w':Nat->Nat->Int} (hC:∀ i,i < R->C i=C' i) (h:∀ i,i < R->∀ j,j < C i->w i j=w' i j):LW R C w=LW R C' w':=
 aoX fun i hi=>by
  rw [<- hC i hi]
  exact congrArg (fun r:Sl sR.den=>(r,())) (aoX fun j hj=>by rw [h i hi j hj])
def cS (s:tS.den) (t i:Nat) (b:Int):Nat:=(links (cB s)).countP fun L=>decide (qR L t i=b)
def cE (s:tS.den) (t i:Nat):Nat:=(links (cB s)).countP fun L=>!has (L.getD (t + 1) []) (i:Int)
def nL (s:tS.den):Nat:=(links (cB s)).length
def cF (s:tS.den) (f:Fact):Nat:=cnt f ((links (cB s)).flatMap (facts s.1.n fun t=>(s.1.g t).2.1.n))
theorem aPt {t i b:Nat} (h0:0 < t) (ht:t < s.1.n) (hi:i < (s.1.g t).2.1.n):cF s ((0:Int),((t:Int),((i:Int),((b:Int),()))))=cS s t i (b:Int):=by
 unfold cF cS
 exact an2 fun L _=>by rw [aoS (k:=fun t=>(s.1.g t).2.1.n) ht hi,aKi h0 (by omega)]
theorem aPu (hs:(cB s).Ok) {t i:Nat} (h0:0 < t) (ht:t < s.1.n) (hi:i < (s.1.g t).2.1.n):cF s ((1:Int),((t:Int),((i:Int),((0:Int),()))))=cS s t i (-1):=by
 unfold cF cS
 refine an2 fun L hL=>?_
 obtain ⟨t0,rfl⟩:∃ u,t=u + 1:=⟨t - 1,by omega⟩
 have h:=((tX hs).1 hL).afg (t:=t0) (i:=i) ht hi
 rw [aoS (k:=fun t=>(s.1.g t).2.1.n) ht hi,aKj h0 (h.imp id fun h=>h.1)]
theorem aTD {t i:Nat} (ht:t + 1 < s.1.n) (hi:i < (s.1.g t).2.1.n):cF s ((2:Int),((t:Int),((i:Int),((0:Int),()))))=cE s t i:=by
 unfold cF cE
 exact an2 fun L _=>by rw [aoS (k:=fun t=>(s.1.g t).2.1.n) (by omega) hi,aPs ht]
theorem aTE {m:afP} {a:Nat} (hm:∀ f,vM m f=((cF s f:Nat):Int)) {t i K:Nat} (hK:K<=3) {c5:Int} {c6:cT} {c7:Int} :
  zE (((t + 1:Nat):Int),((),(m,(((a:Nat):Int),(c6,((i:Int),(c5,(c7,(((K:Nat):Int),(s,())))))))))) (e1,((0:Int),())) =
   .exit 2 (RH K (fun j=>wd (cF s ((0:Int),(((t + 1:Nat):Int),((i:Int),((j:Int),()))))) a),()):=by
 unfold zE
 refine bQ (ps:=fP) K cz (fun j=>(RH j (fun j=>wd (cF s ((0:Int),(((t + 1:Nat):Int),((i:Int),((j:Int),()))))) a),((j:Int),()))) (by unfold cz; omega) (fun j hj=>?_) ?_
 ·unfold AR AQ
  have hn:=PD j (fun j=>wd (cF s ((0:Int),(((t + 1:Nat):Int),((i:Int),((j:Int),()))))) a)
  have h8:((RH j (fun j=>wd (cF s ((0:Int),(((t + 1:Nat):Int),((i:Int),((j:Int),()))))) a)).n + 1) * 8<=140737488355328:=by omega
  refine (aq (decide_eq_true (dW hj))).trans ?_
  have h66:=aQw (cF s ((0:Int),(((t + 1:Nat):Int),((i:Int),((j:Int),()))))) a
  rw [<- hm] at h66
  refine (aK h66).trans ?_
  refine (aq (decide_eq_true h8)).trans ?_
  exact congrArg (fun q:Int=>(RQ.next (show (aa fP).den from (RH (j + 1) (fun j=>wd (cF s ((0:Int),(((t + 1:Nat):Int),((i:Int),((j:Int),()))))) a),(q,()))):RQ fP sI)) (dR hj (by omega))
 ·unfold AR AQ
  have:¬ (((K:Nat):Int) < ((K:Nat):Int)):=by omega
  exact aR (decide_eq_false this)
theorem aWr (hs:(cB s).Ok) {m:afP} {a:Nat} (hm:∀ f,vM m f=((cF s f:Nat):Int)) {t:Nat} (ht:t + 1 < s.1.n) :
  Xj (((t + 1:Nat):Int),((),(m,(((a:Nat):Int),((((s.1.g (t + 1)).2.1.n:Nat):Int),(s,())))))) (e2,((0:Int),())) =
   .exit 0 (LW (s.1.g (t + 1)).2.1.n (fun _=>(s.1.g t).2.1.n) (fun i j=>wd (cF s ((0:Int),(((t + 1:Nat):Int),((i:Int),((j:Int),()))))) a),()):=by
 have h4:=eF hs
 have hk:=dN hs ht
 have Ml:=dN hs (t:=t) (by omega)
 have wp:=wo (n:=s.1.n) (by omega) ht
 unfold Xj
 refine bQ (ps:=lp) (s.1.g (t + 1)).2.1.n cz (fun i=>(LW i (fun _=>(s.1.g t).2.1.n) (fun i j=>wd (cF s ((0:Int),(((t + 1:Nat):Int),((i:Int),((j:Int),()))))) a),((i:Int),()))) (by unfold cz; omega) (fun i hi=>?_) ?_
 ·have hn:=aa3 i (fun _=>(s.1.g t).2.1.n) (fun i j=>wd (cF s ((0:Int),(((t + 1:Nat):Int),((i:Int),((j:Int),()))))) a)
  have h24:((LW i (fun _=>(s.1.g t).2.1.n) (fun i j=>wd (cF s ((0:Int),(((t + 1:Nat):Int),((i:Int),((j:Int),()))))) a)).n + 1) * 24<=140737488355328:=by omega
  unfold PK PJ
  refine (aq (decide_eq_true (dW hi))).trans ?_
  have key:∀ w:Int,w=(t:Int)->∀ {α:Type} (f:Int->α) (y:α),(bif decide ((0:Int)<=w/\w < ((s.1.n:Nat):Int)) then f (((s.1.g (Int.toNat w)).2.1.n:Nat):Int) else y)=f (((s.1.g t).2.1.n:Nat):Int):=fun w hw α f y=>by subst hw; exact aq (decide_eq_true (aQ (by omega)))
  refine (key _ wp (fun q=>aF (zE (((t + 1:Nat):Int),((),(m,(((a:Nat):Int),(LW i (fun _=>(s.1.g t).2.1.n) (fun i j=>wd (cF s ((0:Int),(((t + 1:Nat):Int),((i:Int),((j:Int),()))))) a),((i:Int),((((s.1.g (t + 1)).2.1.n:Nat):Int),((i:Int),(q,(s,())))))))))) (e1,((0:Int),()))) 2 _ _) _).trans ?_
  refine (bp (aTE hm Ml)).trans ?_
  refine (aq (decide_eq_true h24)).trans ?_
  exact congrArg (fun q:Int=>(RQ.next (show (aa lp).den from (LW (i + 1) (fun _=>(s.1.g t).2.1.n) (fun i j=>wd (cF s ((0:Int),(((t + 1:Nat):Int),((i:Int),((j:Int),()))))) a),(q,()))):RQ lp CD)) (dR hi (by omega))
 ·unfold PK PJ
  have:¬ ((((s.1.g (t + 1)).2.1.n:Nat):Int) < (((s.1.g (t + 1)).2.1.n:Nat):Int)):=by omega
  exact aR (decide_eq_false this)
def Cl (s:tS.den) (t:Nat):cT:=LW (s.1.g (t + 1)).2.1.n (fun _=>(s.1.g t).2.1.n) (fun i j=>wd (cS s (t + 1) i (j:Int)) (nL s))
theorem aFx (ho:Io s=true) (hn:s.1.n<=1000) (hk:∀ t,t < s.1.n->(s.1.g t).2.1.n<=1000) (ha:Dg s=true) {t:Nat} (ht:t + 1 < s.1.n):XV (no_index (s,(((t + 1:Nat):Int),())))=some (Cl s t,((0:Int),())):=by
 have hs:=qP ho
 have h4:=eF hs
 obtain ⟨m,h65,hm⟩:=aQv hs
 have wn:W (((s.1.n:Nat):Int) - 1)=((s.1.n - 1:Nat):Int):=by rw [gQ ⟨by omega,by omega⟩]; omega
 have h64:Kk (((t + 1:Nat):Int),((1:Int),(W (((s.1.n:Nat):Int) - 1),())))=some (true,()):=by
  refine (zk _ _ _).trans ?_
  have:oV ((t + 1:Nat):Int) 1 (W (((s.1.n:Nat):Int) - 1))=true:=by
   unfold oV
   rw [Bool.and_eq_true,wn]
   exact ⟨decide_eq_true (by omega),decide_eq_true (by omega)⟩
  rw [this]
 have h63:=auP hn hk true
 have e0:Jc s true=0:=by unfold Jc; rw [ho,ha]; rfl
 rw [e0] at h63
 unfold XV Q18
 refine (aK h64).trans ?_
 refine (aK h63).trans ?_
 refine (aR rfl).trans ?_
 refine (aK h65).trans ?_
 refine (aq (decide_eq_true (aQ ht))).trans ?_
 refine (bp (aWr hs (a:=nL s) hm ht)).trans ?_
 refine congrArg (fun z:cT=>some (z,((0:Int),()))) ?_
 exact ala (fun _ _=>rfl) fun i hi j hj=>by rw [aPt (by omega) ht hi]
theorem aTF {m:afP} {a:Nat} (hm:∀ f,vM m f=((cF s f:Nat):Int)) {what:Int} {fr r K:Nat} (hK:K<=3) (hr:fr + r<=100) {c6:cT} {c8 c9:Int} :
  zG (what,((fr:Int),((),(m,(((a:Nat):Int),(c6,((r:Int),(c8,(c9,(((K:Nat):Int),(s,()))))))))))) (e1,((0:Int),())) =
   .exit 2 (RH K (fun j=>wd (cF s (what,(((fr + r:Nat):Int),((j:Int),((0:Int),()))))) a),()):=by
 have wr:W ((fr:Int) + (r:Int))=((fr + r:Nat):Int):=by rw [gQ ⟨by omega,by omega⟩]; omega
 unfold zG
 refine bQ (ps:=fQ) K cz (fun j=>(RH j (fun j=>wd (cF s (what,(((fr + r:Nat):Int),((j:Int),((0:Int),()))))) a),((j:Int),()))) (by unfold cz; omega) (fun j hj=>?_) ?_
 ·unfold AT AS
  have hn:=PD j (fun j=>wd (cF s (what,(((fr + r:Nat):Int),((j:Int),((0:Int),()))))) a)
  have h8:((RH j (fun j=>wd (cF s (what,(((fr + r:Nat):Int),((j:Int),((0:Int),()))))) a)).n + 1) * 8<=140737488355328:=by omega
  refine (aq (decide_eq_true (dW hj))).trans ?_
  have h66:=aQw (cF s (what,(((fr + r:Nat):Int),((j:Int),((0:Int),()))))) a
  rw [<- hm,<- wr] at h66
  refine (aK h66).trans ?_
  refine (aq (decide_eq_true h8)).trans ?_
  rw [wr]
  exact congrArg (fun q:Int=>(RQ.next (show (aa fQ).den from (RH (j + 1) (fun j=>wd (cF s (what,(((fr + r:Nat):Int),((j:Int),((0:Int),()))))) a),(q,()))):RQ fQ sJ)) (dR hj (by omega))
 ·unfold AT AS
  have:¬ (((K:Nat):Int) < ((K:Nat):Int)):=by omega
  exact aR (decide_eq_false this)
theorem aWs (hs:(cB s).Ok) {m:afP} {a:Nat} (hm:∀ f,vM m f=((cF s f:Nat):Int)) {what:Int} {fr:Nat} (hf:fr<=1) :
  Xk (what,((fr:Int),((),(m,(((a:Nat):Int),(((s.1.n - 1:Nat):Int),(s,()))))))) (e2,((0:Int),())) =
   .exit 0 (LW (s.1.n - 1) (fun r=>(s.1.g (fr + r)).2.1.n) (fun r j=>wd (cF s (what,(((fr + r:Nat):Int),((j:Int),((0:Int),()))))) a),()):=by
 have h4:=eF hs
 unfold Xk
 refine bQ (ps:=lq) (s.1.n - 1) cz (fun i=>(LW i (fun r=>(s.1.g (fr + r)).2.1.n) (fun r j=>wd (cF s (what,(((fr + r:Nat):Int),((j:Int),((0:Int),()))))) a),((i:Int),()))) (by unfold cz; omega) (fun i hi=>?_) ?_
 ·have hn:=aa3 i (fun r=>(s.1.g (fr + r)).2.1.n) (fun r j=>wd (cF s (what,(((fr + r:Nat):Int),((j:Int),((0:Int),()))))) a)
  have h24:((LW i (fun r=>(s.1.g (fr + r)).2.1.n) (fun r j=>wd (cF s (what,(((fr + r:Nat):Int),((j:Int),((0:Int),()))))) a)).n + 1) * 24<=140737488355328:=by omega
  have hk:=dN hs (t:=fr + i) (by omega)
  have wr:W ((fr:Int) + (i:Int))=((fr + i:Nat):Int):=by rw [gQ ⟨by omega,by omega⟩]; omega
  unfold PM PL
  refine (aq (decide_eq_true (dW hi))).trans ?_
  have key:∀ w:Int,w=((fr + i:Nat):Int)->∀ {α:Type} (f:Int->α) (y:α),(bif decide ((0:Int)<=w/\w < ((s.1.n:Nat):Int)) then f (((s.1.g (Int.toNat w)).2.1.n:Nat):Int) else y)=f (((s.1.g (fr + i)).2.1.n:Nat):Int):=fun w hw α f y=>by subst hw; exact aq (decide_eq_true (aQ (by omega)))
  refine (key _ wr (fun q=>aF (zG (what,((fr:Int),((),(m,(((a:Nat):Int),(LW i (fun r=>(s.1.g (fr + r)).2.1.n) (fun r j=>wd (cF s (what,(((fr + r:Nat):Int),((j:Int),((0:Int),()))))) a),((i:Int),(((s.1.n - 1:Nat):Int),((i:Int),(q,(s,()))))))))))) (e1,((0:Int),()))) 2 _ _) _).trans ?_
  refine (bp (aTF hm hk (by omega))).trans ?_
  refine (aq (decide_eq_true h24)).trans ?_
  exact congrArg (fun q:Int=>(RQ.next (show (aa lq).den from (LW (i + 1) (fun r=>(s.1.g (fr + r)).2.1.n) (fun r j=>wd (cF s (what,(((fr + r:Nat):Int),((j:Int),((0:Int),()))))) a),(q,()))):RQ lq CF)) (dR hi (by omega))
 ·unfold PM PL
  have:¬ (((s.1.n - 1:Nat):Int) < ((s.1.n - 1:Nat):Int)):=by omega
  exact aR (decide_eq_false this)
theorem aQx (ho:Io s=true) (hn:s.1.n<=1000) (hk:∀ t,t < s.1.n->(s.1.g t).2.1.n<=1000) (ha:Dg s=true) {what to:Int} {fr:Nat} (hf:fr<=1) (hto:W (W (to - (fr:Int)) + 1)=((s.1.n - 1:Nat):Int)) :
  M67 (no_index (s,(what,((fr:Int),(to,())))))=some (LW (s.1.n - 1) (fun r=>(s.1.g (fr + r)).2.1.n) (fun r j=>wd (cF s (what,(((fr + r:Nat):Int),((j:Int),((0:Int),()))))) (nL s)),((0:Int),())):=by
 have hs:=qP ho
 obtain ⟨m,h65,hm⟩:=aQv hs
 have h63:=auP hn hk true
 have e0:Jc s true=0:=by unfold Jc; rw [ho,ha]; rfl
 rw [e0] at h63
 unfold M67 Q67
 refine (aK h63).trans ?_
 refine (aR rfl).trans ?_
 refine (aK h65).trans ?_
 have hL:=aWs hs (a:=nL s) hm (what:=what) hf
 rw [<- hto] at hL
 exact bp hL
def Kt (s:tS.den):cT:=LW (s.1.n - 1) (fun r=>(s.1.g (r + 1)).2.1.n) (fun r i=>wd (cS s (r + 1) i (-1)) (nL s))
def Xg (s:tS.den):cT:=LW (s.1.n - 1) (fun r=>(s.1.g r).2.1.n) (fun r i=>wd (cE s r i) (nL s))
theorem aAB (ho:Io s=true) (hn:s.1.n<=1000) (hk:∀ t,t < s.1.n->(s.1.g t).2.1.n<=1000) (ha:Dg s=true):M19 (no_index (s,()))=some (Kt s,((0:Int),())):=by
 have hs:=qP ho
 have xU:0 < s.1.n:=hs.n1
 have wn:W (((s.1.n:Nat):Int) - 1)=((s.1.n - 1:Nat):Int):=by rw [gQ ⟨by omega,by omega⟩]; omega
 have h:=aQx ho hn hk ha (what:=1) (to:=W (((s.1.n:Nat):Int) - 1)) (fr:=1) (Nat.le_refl _) (by
  rw [wn,gQ (n:=((s.1.n - 1:Nat):Int) - ((1:Nat):Int)) ⟨by omega,by omega⟩,gQ ⟨by omega,by omega⟩]; omega)
 unfold M19 Q19
 refine (aK h).trans ?_
 refine congrArg (fun z:cT=>some (z,((0:Int),()))) ?_
 exact ala (fun r _=>by show (s.1.g (1 + r)).2.1.n=(s.1.g (r + 1)).2.1.n; rw [Nat.add_comm]) fun r hr i hi=>by
  rw [Nat.add_comm 1 r] at hi ⊢
  rw [aPu hs (by omega) (by omega) hi]
theorem aQy (ho:Io s=true) (hn:s.1.n<=1000) (hk:∀ t,t < s.1.n->(s.1.g t).2.1.n<=1000) (ha:Dg s=true):M20 (no_index (s,()))=some (Xg s,((0:Int),())):=by
 have hs:=qP ho
 have xU:0 < s.1.n:=hs.n1
 have h:=aQx ho hn hk ha (what:=2) (to:=W (((s.1.n:Nat):Int) - 2)) (fr:=0) (by omega) (by
  rw [gQ (n:=((s.1.n:Nat):Int) - 2) ⟨by omega,by omega⟩,gQ (n:=((s.1.n:Nat):Int) - 2 - ((0:Nat):Int)) ⟨by omega,by omega⟩,gQ ⟨by omega,by omega⟩]; omega)
 unfold M20 Q20
 refine (aK h).trans ?_
 refine congrArg (fun z:cT=>some (z,((0:Int),()))) ?_
 exact ala (fun r _=>by show (s.1.g (0 + r)).2.1.n=(s.1.g r).2.1.n; rw [Nat.zero_add]) fun r hr i hi=>by
  rw [Nat.zero_add] at hi ⊢
  rw [aTD (by omega) hi]
end Go.Dm
namespace Go.Dm
set_option maxRecDepth 100000
open Go.Low
variable {s:tS.den} {all:zR}
theorem aia (hs:(cB s).Ok) {o:cT} (h:aW o∈links (cB s)):PC s o:=by
 have h:=(tX hs).1 h
 have hn:o.n=s.1.n:=by have:=h.len; rw [dI] at this; exact this
 refine ⟨hn,fun t ht=>?_⟩
 have e:=kH (o:=o) (t:=t) (by omega)
 have e2:=iN (o.g t).1
 rw [<- e] at e2
 rw [<- e2]
 cases t with
 | zero=>rw [h.first]; simp [first]; rfl
 | succ t=>exact (h.row t ht).1
end Go.Dm
namespace Go.Dm
set_option maxRecDepth 100000
open Go.Low
variable {s:tS.den}
theorem wn1 (hs:(cB s).Ok):W (((s.1.n:Nat):Int) - 1)=((s.1.n - 1:Nat):Int):=by
 have:=eF hs
 have xU:0 < s.1.n:=hs.n1
 rw [gQ ⟨by omega,by omega⟩]; omega
end Go.Dm

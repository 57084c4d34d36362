/-
 Of the plain law.
-/
import Derived.Test.YtadkaccpacpklaaGreatL3ZP10
set_option linter.unusedVariables false
set_option linter.unusedSimpArgs false
namespace Go.Dm
set_option maxRecDepth 100000
open Go.Low
variable {s:tS.den}
theorem aWL {t:Nat} (hk:(s.1.g t).2.1.n<=1000) :
  ay2 ((),((t:Int),((),(s,(s.1.g t,()))))) ((0:Int),())=bif Im (s.1.g t).2.1 then .exit 2 () else LQ.ret (wy:=anR) (show (aa anR.ret).den from (false,())):=by
 unfold ay2
 refine dX (ps:=WD) (n:=(s.1.g t).2.1.n) (f:=fun j=>((j:Int),())) (c:=fun j=>Is ((s.1.g t).2.1.g j)) (by unfold cz; omega) (fun j hj _=>?_) (fun _=>?_)
 ·unfold ay1 ay0 Is
  refine (aq (decide_eq_true (dW hj))).trans ?_
  refine (aq (decide_eq_true (aQ hj))).trans ?_
  refine (aK (Us (show B6 from (s.1.g t).2.1.g j).1 (show B6 from (s.1.g t).2.1.g j).2.1 100)).trans ?_
  cases OD (show B6 from (s.1.g t).2.1.g j).1 (show B6 from (s.1.g t).2.1.g j).2.1 100 with
  | false=>rfl
  | true =>
   refine (aR rfl).trans ?_
   refine (aK (Us (show B6 from (s.1.g t).2.1.g j).2.2.1 (show B6 from (s.1.g t).2.1.g j).2.2.2.1 100)).trans ?_
   cases OD (show B6 from (s.1.g t).2.1.g j).2.2.1 (show B6 from (s.1.g t).2.1.g j).2.2.2.1 100 with
   | false=>rfl
   | true =>
    refine (aR rfl).trans ?_
    refine (aK (Us (show B6 from (s.1.g t).2.1.g j).2.2.2.2.1 (show B6 from (s.1.g t).2.1.g j).2.2.2.2.2.1 99999)).trans ?_
    cases OD (show B6 from (s.1.g t).2.1.g j).2.2.2.2.1 (show B6 from (s.1.g t).2.1.g j).2.2.2.2.2.1 99999 with
    | false=>rfl
    | true =>
     refine (aR rfl).trans ?_
     exact congrArg (fun q:Int=>(RQ.next (show (aa WD).den from (q,())):RQ WD anR)) (dR hj (by omega))
 ·unfold ay1 ay0
  have:¬ (((s.1.g t).2.1.n:Int) < ((s.1.g t).2.1.n:Int)):=by omega
  exact aR (decide_eq_false this)
theorem aLQ (hn:s.1.n<=1000) (hk:∀ t,t < s.1.n->(s.1.g t).2.1.n<=1000):M38 (no_index (s,()))=some (Io s,()):=by
 have key:aQc ((),(s,())) ((0:Int),())=bif (List.range s.1.n).all (lD s) then .exit 0 () else LQ.ret (wy:=ay3) (show (aa ay3.ret).den from (false,())):=by
  unfold aQc
  refine dX (ps:=ah3) (n:=s.1.n) (f:=fun j=>((j:Int),())) (c:=lD s) (by unfold cz; omega) (fun j hj hall=>?_) (fun _=>?_)
  ·have w1:W ((j:Int) + 1)=((j + 1:Nat):Int):=dR hj (by omega)
   have Ew:(RQ.next (show (aa ah3).den from (W ((j:Int) + 1),())):RQ ah3 ay3) = .next (((j + 1:Nat):Int),()):=by rw [w1]
   have tail:∀ (hp:¬ mT s j<=jI s j) (h2:¬ 200 < mT s j) (f:(aa (dB anR 2)).den->RQ ah3 ay3) (g:(aa anR.ret).den->RQ ah3 ay3),(∀ u,f u=RQ.next (show (aa ah3).den from (W ((j:Int) + 1),())))->(∀ u,g u = .out (.ret u)) ->
     (bif decide ((3:Int) < (((s.1.g j).2.1.n:Nat):Int)) then RQ.out (LQ.ret (wy:=ay3) (show (aa ay3.ret).den from (false,()))) else aF (ay2 ((),((j:Int),((),(s,(s.1.g j,()))))) ((0:Int),())) 2 f (bS (ay2 ((),((j:Int),((),(s,(s.1.g j,()))))) ((0:Int),())) g .bad)) =
      bif lD s j then .next (((j + 1:Nat):Int),()) else .out (LQ.ret (wy:=ay3) (show (aa ay3.ret).den from (false,()))):=by
    intro hp h2 f g hf hg
    unfold lD
    rw [decide_eq_false hp,decide_eq_false h2]
    by_cases c3:3 < (s.1.g j).2.1.n
    ·have c3':(3:Int) < (((s.1.g j).2.1.n:Nat):Int):=by omega
     rw [decide_eq_true c3,decide_eq_true c3']; rfl
    ·have c3':¬ (3:Int) < (((s.1.g j).2.1.n:Nat):Int):=by omega
     rw [decide_eq_false c3,decide_eq_false c3',cond_false,aWL (hk j hj)]
     cases Im (s.1.g j).2.1 with
     | true=>exact (hf ()).trans Ew
     | false=>exact hg _
   have acA:jI s j<=mT s j->(0 < j->0<=jI s j):=fun _ hj0=>by
    have h0:∀ i,i < j->0<=mT s i:=fun i=>by
     induction i with
     | zero =>
      intro hi
      have h:=hall 0 hi
      unfold lD at h
      simp only [Bool.and_eq_true,Bool.not_eq_true',decide_eq_false_iff_not] at h
      have:jI s 0 = -1:=rfl
      omega
     | succ i ih =>
      intro hi
      have h:=hall (i + 1) hi
      unfold lD at h
      simp only [Bool.and_eq_true,Bool.not_eq_true',decide_eq_false_iff_not] at h
      have:jI s (i + 1)=mT s i:=rfl
      have:=ih (by omega)
      omega
    obtain ⟨i,rfl⟩:∃ i,j=i + 1:=⟨j - 1,by omega⟩
    exact h0 i (by omega)
   unfold aJI aJH
   refine (aq (decide_eq_true (dW hj))).trans ?_
   refine (aq (decide_eq_true (aQ hj))).trans ?_
   refine (aK (aBC (mT s j) 0 200)).trans ?_
   unfold oV
   by_cases c2:200 < mT s j
   ·have d:¬ mT s j<=200:=by omega
    have hm:lD s j=false:=by
     unfold lD; rw [decide_eq_true c2]; simp
    rw [decide_eq_false d,Bool.and_false,hm]; rfl
   have d2:mT s j<=200:=by omega
   rw [decide_eq_true d2,Bool.and_true]
   cases j with
   | zero =>
    by_cases c1:0<=mT s 0
    ·rw [decide_eq_true c1]
     refine (aR rfl).trans ?_
     have hz:¬ (0:Int) < ((0:Nat):Int):=by omega
     refine (aR (decide_eq_false hz)).trans ?_
     exact tail (by show ¬ mT s 0 ≤ -1; omega) c2 _ _ (fun _=>rfl) (fun _=>rfl)
    ·have hm:lD s 0=false:=by
      unfold lD
      have:mT s 0<=jI s 0:=by show mT s 0 ≤ -1; omega
      rw [decide_eq_true this]; rfl
     rw [decide_eq_false c1,hm]; rfl
   | succ j =>
    have hpv:jI s (j + 1)=mT s j:=rfl
    by_cases c1:0<=mT s (j + 1)
    ·rw [decide_eq_true c1]
     refine (aR rfl).trans ?_
     have hz:(0:Int) < ((j + 1:Nat):Int):=by omega
     refine (aq (decide_eq_true hz)).trans ?_
     have wp:=wo (n:=s.1.n) hn hj
     have e4:∀ {α:Type} (x y:α),(bif decide ((0:Int)<=W (((j + 1:Nat):Int) - 1)/\W (((j + 1:Nat):Int) - 1) < (s.1.n:Int)) then x else y)=x:=fun x y=>by rw [wp]; exact aq (decide_eq_true (aQ (Nat.lt_of_succ_lt hj)))
     refine (e4 _ _).trans ?_
     have e5:∀ {α:Type} (x y:α),(bif decide (mT s (j + 1)<=mT s (Int.toNat (W (((j + 1:Nat):Int) - 1)))) then x else y)=(bif decide (mT s (j + 1)<=mT s j) then x else y):=fun x y=>by rw [wp]; rfl
     refine (e5 _ _).trans ?_
     by_cases c4:mT s (j + 1)<=mT s j
     ·have hm:lD s (j + 1)=false:=by
       unfold lD
       rw [hpv,decide_eq_true c4]; rfl
      rw [hm]
      exact aq (decide_eq_true c4)
     ·refine (aR (decide_eq_false c4)).trans ?_
      exact tail (by rw [hpv]; exact c4) c2 _ _ (fun _=>rfl) (fun _=>rfl)
    ·have hm:lD s (j + 1)=false:=by
      unfold lD
      have:mT s (j + 1)<=jI s (j + 1):=by
       by_cases q:jI s (j + 1)<=mT s (j + 1)
       ·have:=acA q (by omega); omega
       ·omega
      rw [decide_eq_true this]; rfl
     rw [decide_eq_false c1,hm]; rfl
  ·unfold aJI aJH
   have:¬ ((s.1.n:Int) < (s.1.n:Int)):=by omega
   exact aR (decide_eq_false this)
 unfold M38 Q38 Io
 revert key
 cases (List.range s.1.n).all (lD s) with
 | false=>intro key; refine (congrArg (fun o=>aF o 0 _ (bS o _ _)) key).trans ?_; rfl
 | true =>
  intro key
  refine (bp key).trans ?_
  unfold UW
  refine (aK (aBC _ _ _)).trans ?_
  cases oV (s.1.n:Int) 1 4 with
  | false=>rfl
  | true =>
   refine (aq rfl).trans ?_
   refine (aK (aBC (pN s) _ _)).trans ?_
   cases oV (pN s) 0 50 with
   | false=>rfl
   | true =>
    refine (aq rfl).trans ?_
    refine (aK (aBC (zn s) _ _)).trans ?_
    cases oV (zn s) 0 1000 with
    | false=>rfl
    | true =>
     refine (aq rfl).trans ?_
     refine (aK (aBC (OC s) _ _)).trans ?_
     cases oV (OC s) 0 12 with
     | false=>rfl
     | true =>
      refine (aq rfl).trans ?_
      refine (aK (aBC (Sa s) _ _)).trans ?_
      rfl
theorem aI2 (hs:(cB s).Ok):M60 (no_index (s,()))=some (!(links (cB s)).isEmpty,()):=by
 obtain ⟨z,h1,h2,_⟩:=aWq hs
 unfold M60 Q60
 refine (aK h1).trans ?_
 have hl:(links (cB s)).isEmpty=z.list.isEmpty:=by rw [<- h2]; simp
 rw [hl]
 show oQ (ahp ((),((false,()),())) z.list) _ (oR (ahp ((),((false,()),())) z.list) _ _)=_
 cases z.list with
 | nil=>rfl
 | cons a l=>rfl
end Go.Dm
namespace Go.Dm
set_option maxRecDepth 100000
open Go.Low
variable {s:tS.den}
def abe (s:tS.den) (m:Nat):tS.den:=(⟨m,s.1.g⟩,s.2)
theorem ae3 (hs:(cB s).Ok) {m:Nat} (h1:0 < m) (h2:m<=s.1.n):(cB (abe s m)).Ok:=
 ⟨h1,Nat.le_trans h2 hs.n4,fun t ht=>hs.k t (Nat.lt_of_lt_of_le ht h2),fun t ht=>hs.Xp t (Nat.lt_of_lt_of_le ht h2),fun t ht=>hs.tm t (Nat.lt_of_lt_of_le ht h2),fun t i ht=>hs.box t i (Nat.lt_of_lt_of_le ht h2),hs.sp,hs.dp,hs.bn,hs.gn⟩
def Yn (s:tS.den) (t:Nat):Bool:=(links (cB (abe s (t + 1)))).isEmpty
theorem baN {t:Nat} (ht:t < s.1.n) (hn:s.1.n<=1000):Xl (no_index (s,(W ((t:Int) + 1),())))=some (abe s (t + 1),()):=by
 rw [dR ht (by omega)]
 unfold Xl Q75
 have a:(0:Int)<=0/\((0:Int)<=((t + 1:Nat):Int)/\((t + 1:Nat):Int)<=(s.1.n:Int)):=by omega
 refine (aq (decide_eq_true a)).trans ?_
 rfl
theorem awX (hs:(cB s).Ok):M39 (no_index (s,()))=some ((match fB (Yn s) s.1.n with | some k=>(k:Int) | none=>-1),()):=by
 have WM:=eF hs
 have key:Uf ((),(s,())) ((0:Int),())=match fB (Yn s) s.1.n with | some k=>LQ.ret (wy:=avD) (show (aa avD.ret).den from ((k:Int),())) | none=>.exit 0 ():=by
  unfold Uf
  refine kG (ps:=at9) (n:=s.1.n) (f:=fun j=>((j:Int),())) (qr:=fun k=>LQ.ret (wy:=avD) (show (aa avD.ret).den from ((k:Int),()))) (by unfold cz; omega) (fun j hj _=>?_) (fun _=>?_)
  ·unfold Ue Ud
   obtain ⟨all,h1,h2⟩:=aNj (ae3 hs (m:=j + 1) (by omega) (by omega))
   refine (aq (decide_eq_true (dW hj))).trans ?_
   refine (aK (baN hj (by omega))).trans ?_
   refine (aK h1).trans ?_
   have e:Yn s j=decide (((all.n:Nat):Int)=0):=by
    unfold Yn
    rw [<- h2]
    by_cases c:((all.n:Nat):Int)=0
    ·rw [decide_eq_true c]
     have:(fU all).length=0:=by rw [jA]; omega
     rw [List.length_eq_zero_iff.1 this]; rfl
    ·rw [decide_eq_false c]
     cases h:fU all with
     | nil=>have:=congrArg List.length h; rw [jA] at this; simp at this; omega
     | cons a l=>rfl
   rw [e]
   cases decide (((all.n:Nat):Int)=0) with
   | true=>rfl
   | false=>exact congrArg (fun q:Int=>(RQ.next (show (aa at9).den from (q,())):RQ at9 avD)) (dR hj (by omega))
  ·unfold Ue Ud
   have:¬ ((s.1.n:Int) < (s.1.n:Int)):=by omega
   exact aR (decide_eq_false this)
 unfold M39 Q39
 revert key
 cases fB (Yn s) s.1.n with
 | some k=>intro key; exact (congrArg (fun o=>aF o 0 _ (bS o _ _)) key).trans rfl
 | none=>intro key; exact (congrArg (fun o=>aF o 0 _ (bS o _ _)) key).trans rfl
end Go.Dm
namespace Go.Dm
set_option maxRecDepth 100000
open Go.Low
variable {s:tS.den}
end Go.Dm
namespace Go.Dm
set_option maxRecDepth 100000
open Go.Low
variable {s:tS.den}
structure PC (s:tS.den) (rows:cT):Prop where
 n:rows.n=s.1.n
 k:∀ t,t < s.1.n->(rows.g t).1.n=(s.1.g t).2.1.n
theorem aoL (hs:(cB s).Ok) {t:Nat} (ht:t < s.1.n) {L:LL} (h:L∈links (cB s)):L.take (t + 1)∈links (cB (abe s (t + 1))):=by
 have h:=(tX hs).1 h
 have hlen:L.length=s.1.n:=h.len
 have hp:L.take (t + 1) <+: L:=List.take_prefix _ _
 have hl:(L.take (t + 1)).length=t + 1:=by rw [List.length_take]; omega
 have hb:(OC s)=(cB s).born:=rfl
 refine (tX (ae3 hs (by omega) (by omega))).2 ⟨hl,(getD_take (Nat.succ_pos t)).trans h.first,fun u hu=>?_,?_,?_,fun u hu i hi' p Yw=>?_⟩
 ·have Pt:u + 1 < t + 1:=hu
  rw [getD_take Pt]
  exact h.row u (show u + 1 < s.1.n by omega)
 ·have h1:=acG hp
  have h2:=h.born
  have:(cB (abe s (t + 1))).born=(cB s).born:=rfl
  omega
 ·have h1:=acH hp
  have h2:=h.gone
  have:(cB (abe s (t + 1))).gone=(cB s).gone:=rfl
  omega
 ·have Pt:u < t + 1:=hu
  have e:=AZ (L:=L.take (t + 1)) (M:=L.drop (t + 1)) (t:=u) (i:=i) (by omega)
  rw [List.take_append_drop] at e
  rw [<- e] at Yw
  exact h.ch u (show u < s.1.n by omega) i hi' p Yw
def Dg (s:tS.den):Bool:=!(links (cB s)).isEmpty
theorem Ki:Dg s=true↔∃ L,L∈links (cB s):=by
 unfold Dg
 cases links (cB s) with
 | nil=>simp
 | cons a l=>exact ⟨fun _=>⟨a,.head _⟩,fun _=>rfl⟩
theorem afh (hs:(cB s).Ok):(fB (Yn s) s.1.n).isNone=Dg s:=by
 have xU:0 < s.1.n:=hs.n1
 cases h:fB (Yn s) s.1.n with
 | none =>
  have h1:=jg h (s.1.n - 1) (by omega)
  unfold Yn at h1
  rw [Nat.sub_add_cancel xU] at h1
  show true = !(links (cB s)).isEmpty
  have e:(links (cB s)).isEmpty=false:=h1
  rw [e]; rfl
 | some k =>
  obtain ⟨h1,h2,_⟩:=kD h
  cases ha:Dg s with
  | false=>rfl
  | true =>
   obtain ⟨L,hL⟩:=Ki.1 ha
   have h3:=aoL hs h1 hL
   unfold Yn at h2
   rw [List.isEmpty_iff] at h2
   rw [h2] at h3
   cases h3
end Go.Dm
namespace Go.Dm
set_option maxRecDepth 100000
open Go.Low
variable {s:tS.den}
abbrev Fact:=Int×Int×Int×Int×Unit
def hit (N:Nat) (L:LL) (t i:Nat):List Fact:=
 (if t=0 then [] else if qR L t i < 0 then [((1:Int),(t:Int),(i:Int),(0:Int),())] else [((0:Int),(t:Int),(i:Int),qR L t i,())]) ++ (if t + 1 < N/\has (L.getD (t + 1) []) (i:Int)=false then [((2:Int),(t:Int),(i:Int),(0:Int),())] else [])
theorem Good.rows {it:fD.den} (h:Good s it):∃ rows:cT,it=vw s rows/\PC s rows/\toL it=aW rows:=⟨it.1.2.2.2.2.2.1,h.eq,⟨h.n,h.k⟩,rfl⟩
theorem abS (hs:(cB s).Ok):(links (cB s)).length<=262144:=by
 have xU:0 < s.1.n:=hs.n1
 have h4:=eF hs
 have h:=(Yo hs (s.1.n - 1) (by omega)).2
 have e:GS (cB s) (s.1.n - 1) [[first (cB s)]]=links (cB s):=by
  rw [Ym]; simp only [List.flatMap_cons,List.flatMap_nil,List.append_nil]; rfl
 rw [e] at h
 have:64 ^ (s.1.n - 1)<=64 ^ 3:=Nat.pow_le_pow_right (by omega) (by omega)
 omega
variable {L:LL} {N t i:Nat}
end Go.Dm
namespace Go.Dm
set_option maxRecDepth 100000
open Go.Low
variable {s:tS.den}
def Jc (s:tS.den) (b:Bool):Int:=bif Io s && b then (bif Dg s then 0 else 7) else 2
theorem auJ (hn:s.1.n<=1000) (hk:∀ t,t < s.1.n->(s.1.g t).2.1.n<=1000) (b:Bool):VO (no_index (s,(b,())))=some (Jc s b,()):=by
 unfold VO Q28 Jc
 refine (aK (aLO hn hk)).trans ?_
 cases ho:Io s with
 | false=>exact aq rfl
 | true =>
  refine (aR rfl).trans ?_
  cases b with
  | false=>exact aq rfl
  | true =>
   refine (aR rfl).trans ?_
   refine (aK (aI2 (qP ho))).trans ?_
   show (bif !Dg s then _ else _)=_
   cases Dg s <;> rfl
theorem aEP (hn:s.1.n<=1000) (hk:∀ t,t < s.1.n->(s.1.g t).2.1.n<=1000) (b:Bool):M9 (no_index (s,(b,())))=some (Jc s b,()):=by
 unfold M9 Q9 Jc
 refine (aK (aLQ hn hk)).trans ?_
 cases ho:Io s with
 | false=>exact aq rfl
 | true =>
  refine (aR rfl).trans ?_
  cases b with
  | false=>exact aq rfl
  | true =>
   refine (aR rfl).trans ?_
   have hok:=qP ho
   refine (aK (awX hok)).trans ?_
   have e:=afh hok
   revert e
   cases fB (Yn s) s.1.n with
   | none=>intro e; rw [<- e]; rfl
   | some k =>
    intro e
    have Ml:(0:Int)<=(k:Int):=by omega
    refine (aq (decide_eq_true Ml)).trans ?_
    rw [<- e]; rfl
def e1:Sl sR.den:=⟨0,fun i=>((0:Int),())⟩
def e2:cT:=⟨0,fun i=>((⟨0,fun i=>((0:Int),())⟩:Sl _),())⟩
end Go.Dm
namespace Go.Dm
set_option maxRecDepth 100000
open Go.Low
variable {s:tS.den} {all:zR}
theorem aia (hs:(cB s).Ok) {o:cT} (h:aW o∈links (cB s)):PC s o:=by
 have h:=(tX hs).1 h
 have hn:o.n=s.1.n:=by have:=h.len; rw [dI] at this; exact this
 refine ⟨hn,fun t ht=>?_⟩
 have e:=kH (o:=o) (t:=t) (by omega)
 have e2:=iN (o.g t).1
 rw [<- e] at e2
 rw [<- e2]
 cases t with
 | zero=>rw [h.first]; simp [first]; rfl
 | succ t=>exact (h.row t ht).1
end Go.Dm
namespace Go.Dm
set_option maxRecDepth 100000
open Go.Low
variable {s:tS.den}
end Go.Dm
namespace Go.Dm
set_option maxRecDepth 100000
open Go.Low
variable {s:tS.den}
theorem nb {a b:Int} (h:a=b):(!decide (a=b))=false:=by rw [decide_eq_true h]; rfl
end Go.Dm
namespace Go.Dm
set_option maxRecDepth 100000
open Go.Low
variable {s:tS.den} {o:cT}
variable {A X Y D:cT}
end Go.Dm
namespace Go.Dm
set_option maxRecDepth 100000
open Go.Low
variable {s:tS.den} {A X Y D:cT}
def hr (s:tS.den) (t:Nat):Int:=mT s (t + 1) - mT s t
end Go.Dm
namespace Go.Dm
set_option maxRecDepth 100000
open Go.Low
variable {s:tS.den} {A X Y D:cT}
end Go.Dm
namespace Go.Dm
set_option maxRecDepth 100000
open Go.Low
variable {s:tS.den} {A X Y D:cT}
end Go.Dm
namespace Go.Dm
set_option maxRecDepth 100000
open Go.Low
variable {s:tS.den} {A X Y D:cT}
end Go.Dm
namespace Go.Dm
set_option maxRecDepth 100000
open Go.Low
variable {s:tS.den} {A X Y D:cT}
end Go.Dm
namespace Go.Dm
set_option maxRecDepth 100000
open Go.Low
variable {s:tS.den}
theorem aE9 {p w:B6} (h:UY (inter p w)=true):aAO (no_index (p,((⟨1,fun i=>List.getD [w] i w⟩:Sl Py.den),())))=some (inter p w,()):=by
 obtain ⟨p1,p2,p3,p4,p5,p6,⟨⟩⟩:=p
 obtain ⟨w1,w2,w3,w4,w5,w6,⟨⟩⟩:=w
 have h:(decide (max p1 w1<=min p2 w2) && decide (max p3 w3<=min p4 w4) && decide (max p5 w5<=min p6 w6))=true:=h
 simp only [Bool.and_eq_true,decide_eq_true_eq] at h
 obtain ⟨⟨d1,d2⟩,d3⟩:=h
 have s0:∀ v:(aa wN).den,v.1=1->axD ((),((),((⟨1,fun i=>List.getD [((w1,(w2,(w3,(w4,(w5,(w6,())))))):B6)] i (w1,(w2,(w3,(w4,(w5,(w6,()))))))⟩:Sl Py.den),(((1:Nat):Int),(((0:Int),((0:Int),((0:Int),((0:Int),((0:Int),((0:Int),())))))),()))))) v = .out (.exit 0 (v.2.1,())):=fun v hv=>by
  unfold axD aDE
  rw [hv]
  rfl
 have s1:axD ((),((),((⟨1,fun i=>List.getD [((w1,(w2,(w3,(w4,(w5,(w6,())))))):B6)] i (w1,(w2,(w3,(w4,(w5,(w6,()))))))⟩:Sl Py.den),(((1:Nat):Int),(((0:Int),((0:Int),((0:Int),((0:Int),((0:Int),((0:Int),())))))),()))))) ((0:Int),((p1,(p2,(p3,(p4,(p5,(p6,())))))),())) =
   bif decide (mn p2 w2 < mx p1 w1) then .out (.cw 128 OA ((0:Int),()) ()) else bif decide (mn p4 w4 < mx p3 w3) then .out (.cw 128 OA ((1:Int),()) ()) else bif decide (mn p6 w6 < mx p5 w5) then .out (.cw 128 OA ((2:Int),()) ()) else .next ((1:Int),((mx p1 w1,(mn p2 w2,(mx p3 w3,(mn p4 w4,(mx p5 w5,(mn p6 w6,())))))),())):=rfl
 rw [GU,GU,GU,LI,LI,LI] at s1
 have c1:¬ (min p2 w2 < max p1 w1):=by omega
 have c2:¬ (min p4 w4 < max p3 w3):=by omega
 have c3:¬ (min p6 w6 < max p5 w5):=by omega
 rw [decide_eq_false c1,cond_false,decide_eq_false c2,cond_false,decide_eq_false c3,cond_false] at s1
 have key:az7 ((),((),((⟨1,fun i=>List.getD [((w1,(w2,(w3,(w4,(w5,(w6,())))))):B6)] i (w1,(w2,(w3,(w4,(w5,(w6,()))))))⟩:Sl Py.den),(((1:Nat):Int),(((0:Int),((0:Int),((0:Int),((0:Int),((0:Int),((0:Int),())))))),()))))) ((0:Int),((p1,(p2,(p3,(p4,(p5,(p6,())))))),())) = .exit 0 ((max p1 w1,(min p2 w2,(max p3 w3,(min p4 w4,(max p5 w5,(min p6 w6,())))))),()):=by
  unfold az7
  refine bQ (ps:=wN) 1 cz (fun j=>match j with | 0=>((0:Int),((p1,(p2,(p3,(p4,(p5,(p6,())))))),())) | _=>((1:Int),((max p1 w1,(min p2 w2,(max p3 w3,(min p4 w4,(max p5 w5,(min p6 w6,())))))),()))) (by unfold cz; omega) (fun j hj=>?_) ?_
  ·obtain rfl:j=0:=by omega
   exact s1
  ·exact s0 _ rfl
 unfold aAO aK2
 exact bp key
theorem aAH (hs:(cB s).Ok) {t i:Nat} (ht:t < s.1.n) (hi':i < (s.1.g t).2.1.n) {b:B6} (hne:ne b) (h1:∀ a,lo ((s.1.g t).2.1.g i) a<=lo b a) (h2:∀ a,hi b a<=hi ((s.1.g t).2.1.g i) a):vL b:=fun a ha=>by
 have q1:=lE hs ht hi' a ha
 have q2:=hne a ha
 have q3:=h1 a
 have q4:=h2 a
 omega
theorem aEh (hs:(cB s).Ok) {L:LL} (h:wD (cB s) L) {t i:Nat} (ht:t < s.1.n) (hi':i < (s.1.g t).2.1.n):vL (Low.can (cB s) L t i):=by
 refine aAH hs ht hi' (azm hs h ht hi') (fun a=>?_) fun a=>?_
 ·have:=(Mi (s:=cB s) L a _ t i).1 (Int.le_refl _) _ (aa4 L t i)
  rw [Int.sub_self,Int.mul_zero,Int.sub_zero] at this
  exact this
 ·have:=(Mj (s:=cB s) L a _ t i).1 (Int.le_refl _) _ (aa4 L t i)
  rw [Int.sub_self,Int.mul_zero,Int.add_zero] at this
  exact this
theorem aAI (L:LL) (m t i:Nat):(t,i)∈des (cB s) L m t i:=by cases m <;> simp [des]
theorem aGJ (hs:(cB s).Ok) {L:LL} (h:wD (cB s) L) {m t i:Nat} (ht:t + m < s.1.n) (hi':i < (s.1.g t).2.1.n):vL (fut (cB s) L m t i):=by
 refine aAH hs (t:=t) (by omega) hi' (azn hs h ht hi') (fun a=>?_) fun a=>?_
 ·have:=(atS (s:=cB s) L a m t i _).1 (Int.le_refl _) _ (aAI L m t i)
  rw [Int.sub_self,Int.mul_zero,Int.sub_zero] at this
  exact this
 ·have:=(atT (s:=cB s) L a m t i _).1 (Int.le_refl _) _ (aAI L m t i)
  rw [Int.sub_self,Int.mul_zero,Int.add_zero] at this
  exact this
theorem atU {c d:Nat->Bool}:∀ {n:Nat},(∀ j,j < n->c j=d j)->fB c n=fB d n
 | 0,_=>rfl
 | n + 1,h=>by
  have ih:=atU (n:=n) fun j hj=>h j (by omega)
  simp only [fB,ih,h n (by omega)]
theorem aRH (hs:(cB s).Ok) {rows:cT} (hL:aW rows∈links (cB s)):∀ (n t i:Nat),t < n->t < s.1.n->i < (s.1.g t).2.1.n ->
  F72 n (no_index ((vw s rows).1,((t:Int),((i:Int),()))))=some (Low.can (cB s) (aW rows) t i,())
 | 0,t,i,h,_,_=>by omega
 | n + 1,0,i,_,ht,hi'=>by
  show U72 (F72 n) _=_
  unfold U72 Q72
  refine (aK (aEH ht hi')).trans ?_
  exact aR rfl
 | n + 1,t + 1,i,hn,ht,hi'=>by
  have hr:=aia hs hL
  have hI:=(tX hs).1 hL
  have WM:=eF hs
  have hk:=dN hs (t:=t) (by omega)
  have hr0:=hr.n
  have tY:i < (rows.g (t + 1)).1.n:=by rw [hr.k _ ht]; exact hi'
  have RI:t + 1 < rows.n:=by rw [hr.n]; exact ht
  have hl:qR (aW rows) (t + 1) i=(show Int from ((rows.g (t + 1)).1.g i).1):=OO RI tY
  have a0:(0:Int) < ((t + 1:Nat):Int):=by omega
  have a1:(0:Int)<=((t + 1:Nat):Int)/\((t + 1:Nat):Int) < ((rows.n:Nat):Int):=by omega
  have a2:(0:Int)<=(i:Int)/\(i:Int) < ((((rows.g (t + 1)).1.n:Nat)):Int):=by omega
  show U72 (F72 n) _=_
  unfold U72 Q72
  refine (aK (aEH ht hi')).trans ?_
  refine (aq (decide_eq_true a0)).trans ?_
  refine (aq (decide_eq_true a1)).trans ?_
  refine (aq (decide_eq_true a2)).trans ?_
  simp only [Low.can]
  by_cases c:0<=qR (aW rows) (t + 1) i
  ·rw [if_pos c]
   have c':(0:Int)<=(show Int from ((rows.g (t + 1)).1.g i).1):=by rw [<- hl]; exact c
   rcases hI.afg ht hi' with h1 | h1
   ·omega
   have e:(show Int from ((rows.g (t + 1)).1.g i).1)=(((qR (aW rows) (t + 1) i).toNat:Nat):Int):=by rw [<- hl]; omega
   have ih:=aRH hs hL n t (qR (aW rows) (t + 1) i).toNat (by omega) (by omega) h1.2.1
   have ih':F72 n ((vw s rows).1,((W (((t + 1:Nat):Int) - 1)),((rows.g (t + 1)).1.g i)))=some (Low.can (cB s) (aW rows) t (qR (aW rows) (t + 1) i).toNat,()):=by
    rw [wo (n:=s.1.n) (by omega) ht]
    refine Eq.trans (congrArg (fun z:Int=>F72 n ((vw s rows).1,((t:Int),(z,())))) e) ih
   have hm0:0<=mT s t/\mT s t<=200:=hs.Xp t (Nat.lt_of_succ_lt ht)
   have hm1:0<=mT s (t + 1)/\mT s (t + 1)<=200:=hs.Xp (t + 1) ht
   have hm2:mT s t < mT s (t + 1):=hs.tm t ht
   have hcan:=azm hs hI (t:=t + 1) ht hi'
   simp only [Low.can] at hcan
   rw [if_pos c] at hcan
   refine (aq (decide_eq_true c')).trans ?_
   refine (aq (decide_eq_true a1)).trans ?_
   refine (aq (decide_eq_true a2)).trans ?_
   refine (aK ih').trans ?_
   refine (aK (aBX hs ht)).trans ?_
   refine (aK (aI3 hs (aEh hs hI (by omega) h1.2.1) (h:=mT s (t + 1) - mT s t) (by omega) (by omega))).trans ?_
   refine (aK (aE9 (Wc.2 hcan))).trans ?_
   rfl
  ·rw [if_neg c]
   have c':¬ ((0:Int)<=(show Int from ((rows.g (t + 1)).1.g i).1)):=by rw [<- hl]; exact c
   exact aR (decide_eq_false c')
theorem aRI {rows:cT} (hn:rows.n=s.1.n) (h4:s.1.n<=4) {t i:Nat} (ht:t + 1 < s.1.n) (hr:(rows.g (t + 1)).1.n<=1000) :
  M67 (no_index ((vw s rows).1,((t:Int),((i:Int),()))))=some ((match fB (fun j=>decide ((i:Int)=((rows.g (t + 1)).1.g j).1)) (rows.g (t + 1)).1.n with | some k=>(k:Int) | none=>-1),()):=by
 have h84:=aBW (rows.g (t + 1)).1 (by omega) (i:Int)
 have hW:W ((t:Int) + 1)=((t + 1:Nat):Int):=dR (n:=s.1.n) (by omega) (by omega)
 have key:∀ w:Int,w=((t + 1:Nat):Int)->(bif decide (w=((s.1.n:Nat):Int)) then some ((-1:Int),()) else bif decide ((0:Int)<=w/\w < ((rows.n:Nat):Int)) then cl (r84).dflt (M84 ((rows.g (Int.toNat w)).1,((i:Int),()))) (fun u0=>some u0) none else none)=some ((match fB (fun j=>decide ((i:Int)=((rows.g (t + 1)).1.g j).1)) (rows.g (t + 1)).1.n with | some k=>(k:Int) | none=>-1),()):=by
  intro w hw
  subst hw
  have c1:¬ (((t + 1:Nat):Int)=((s.1.n:Nat):Int)):=by omega
  refine (aR (decide_eq_false c1)).trans ?_
  refine (aq (decide_eq_true (aQ (by omega)))).trans ?_
  exact aK h84
 unfold M67 Q67
 exact key _ hW
theorem aHa {rows:cT} {t i:Nat} (ht:t + 1=s.1.n) (h4:s.1.n<=4):M67 (no_index ((vw s rows).1,((t:Int),((i:Int),()))))=some ((-1:Int),()):=by
 have hW:W ((t:Int) + 1)=((s.1.n:Nat):Int):=by rw [gQ ⟨by omega,by omega⟩]; omega
 unfold M67 Q67
 exact aq (decide_eq_true hW)
theorem aPH (hs:(cB s).Ok) {rows:cT} (hr:PC s rows) {t i:Nat} (ht:t + 1 < s.1.n):fB (fun j=>decide ((i:Int)=((rows.g (t + 1)).1.g j).1)) (rows.g (t + 1)).1.n=nx (cB s) (aW rows) t i:=by
 have hk:(rows.g (t + 1)).1.n=(cB s).k (t + 1):=hr.k _ ht
 unfold nx
 rw [hk]
 refine atU fun j hj=>?_
 have:=OO (o:=rows) (t:=t + 1) (i:=j) (by rw [hr.n]; exact ht) (by rw [hk]; exact hj)
 rw [this]
theorem aRJ (hs:(cB s).Ok) {rows:cT} (hL:aW rows∈links (cB s)):∀ (m n t i:Nat),m < n->t + m + 1=s.1.n->i < (s.1.g t).2.1.n ->
  F73 n (no_index ((vw s rows).1,((t:Int),((i:Int),()))))=some (fut (cB s) (aW rows) m t i,())
 | m,0,t,i,h,_,_=>by omega
 | 0,n + 1,t,i,_,ht,hi'=>by
  have WM:=eF hs
  show U73 (F73 n) _=_
  unfold U73 Q73
  refine (aK (aEH (by omega) hi')).trans ?_
  refine (aK (aHa (by omega) (by omega))).trans ?_
  exact aR rfl
 | m + 1,n + 1,t,i,hn,ht,hi'=>by
  have hr:=aia hs hL
  have hI:=(tX hs).1 hL
  have WM:=eF hs
  have ht1:t + 1 < s.1.n:=by omega
  have hk1:=dN hs ht1
  have h67:=aRI (i:=i) hr.n (by omega) ht1 (by rw [hr.k _ ht1]; omega)
  rw [aPH hs hr ht1] at h67
  show U73 (F73 n) _=_
  unfold U73 Q73
  refine (aK (aEH (by omega) hi')).trans ?_
  refine (aK h67).trans ?_
  simp only [fut]
  have aTX:=azn hs hI (m:=m + 1) (t:=t) (i:=i) (by show t + (m + 1) < s.1.n; omega) hi'
  simp only [fut] at aTX
  cases hn':nx (cB s) (aW rows) t i with
  | none=>exact aR rfl
  | some j =>
   rw [hn'] at aTX
   have h1:=aqc hn'
   have hj:j < (s.1.g (t + 1)).2.1.n:=h1.1
   have c':(0:Int)<=((j:Nat):Int):=by omega
   have hW:W ((t:Int) + 1)=((t + 1:Nat):Int):=dR (n:=s.1.n) (by omega) (by omega)
   have ih:=aRJ hs hL m n (t + 1) j (by omega) (by omega) hj
   have ih':F73 n ((vw s rows).1,((W ((t:Int) + 1)),((j:Int),())))=some (fut (cB s) (aW rows) m (t + 1) j,()):=by rw [hW]; exact ih
   have hm0:0<=mT s t/\mT s t<=200:=hs.Xp t (Nat.lt_of_succ_lt ht1)
   have hm1:0<=mT s (t + 1)/\mT s (t + 1)<=200:=hs.Xp (t + 1) ht1
   have hm2:mT s t < mT s (t + 1):=hs.tm t ht1
   have h86:M86 (dx s,((W ((t:Int) + 1)),()))=some (mT s (t + 1) - mT s t,()):=by rw [hW]; exact aBX hs ht1
   refine (aq (decide_eq_true c')).trans ?_
   refine (aK ih').trans ?_
   refine (aK h86).trans ?_
   refine (aK (aI3 hs (aGJ hs hI (by omega) hj) (h:=mT s (t + 1) - mT s t) (by omega) (by omega))).trans ?_
   refine (aK (aE9 (Wc.2 aTX))).trans ?_
   rfl
theorem aFI (b c:B6):apv b c=(mn b.1 c.1,(mx b.2.1 c.2.1,(mn b.2.2.1 c.2.2.1,(mx b.2.2.2.1 c.2.2.2.1,(mn b.2.2.2.2.1 c.2.2.2.2.1,(mx b.2.2.2.2.2.1 c.2.2.2.2.2.1,())))))):=by
 unfold apv; simp only [LI,GU]
theorem aGL (b:B6):apv b b=b:=B6.ext (fun a _=>by rw [aFJ,Int.min_self]) fun a _=>by rw [aFK,Int.max_self]
def aNm (t i:Int) (b out:B6) (met:Bool):RO aof:=.next ((),((),((),((),((),((t,()),((i,()),(b,(out,((met,()),()))))))))))
theorem aRK (hs:(cB s).Ok) {rows:cT} (hL:aW rows∈links (cB s)) {t i:Nat} (ht:t < s.1.n) (hi':i < (s.1.g t).2.1.n) (b out:B6) (met:Bool) :
  aGb ((),((),((),((),((),(((t:Int),()),(((i:Int),()),(b,(out,((met,()),())))))))))) (vw s rows)=aNm t i b (bif met then apv out (pos (cB s) (aW rows) t i) else pos (cB s) (aW rows) t i) true:=by
 have WM:=eF hs
 have hI:=(tX hs).1 hL
 have h6:=aRH hs hL 6 t i (by omega) ht hi'
 have h7:=aRJ hs hL (s.1.n - 1 - t) 6 t i (by omega) (by omega) hi'
 have hp:=Wc.2 (aTY hs hI (t:=t) (i:=i) ht hi')
 unfold aGb aK5
 refine (aK h6).trans ?_
 refine (aK h7).trans ?_
 refine (aK (aE9 hp)).trans ?_
 cases met with
 | false =>
  refine (aq rfl).trans ?_
  have e:=aGL (pos (cB s) (aW rows) t i)
  rw [aFI] at e
  exact congrArg (fun q:B6=>aNm t i b q true) e
 | true =>
  refine (aR rfl).trans ?_
  have e:=aFI out (pos (cB s) (aW rows) t i)
  exact congrArg (fun q:B6=>aNm t i b q true) e.symm
theorem aLv (hs:(cB s).Ok) {t i:Nat} (ht:t < s.1.n) (hi':i < (s.1.g t).2.1.n) (b:B6):∀ (l:List fD.den) (out:B6),(∀ it∈l,Good s it/\toL it∈links (cB s)) ->
  aEy ((),((),((),((),((),(((t:Int),()),(((i:Int),()),(b,(out,((true,()),())))))))))) l=aNm t i b (apg out (l.map fun it=>pos (cB s) (toL it) t i)) true
 | [],out,_=>rfl
 | it :: l,out,hg=>by
  obtain ⟨g1,g2⟩:=hg it (.head _)
  obtain ⟨rows,rfl,hr,hL⟩:=g1.rows
  rw [hL] at g2
  have st:=aRK hs g2 ht hi' b out true
  have ih:=aLv hs ht hi' b l (apv out (pos (cB s) (aW rows) t i)) fun x hx=>hg x (.tail _ hx)
  unfold aEy at ih ⊢
  simp only [eW,st]
  refine ih.trans ?_
  rw [List.map_cons,hL]
  rfl
theorem aBB (hs:(cB s).Ok) (ha:Dg s=true) {t i:Nat} (ht:t < s.1.n) (hi':i < (s.1.g t).2.1.n):M37 (no_index (s,((t:Int),((i:Int),()))))=some (ach (cB s) t i,()):=by
 obtain ⟨z,h1,h2,h3⟩:=aWq hs
 have hmem:∀ it∈z.list,Good s it/\toL it∈links (cB s):=fun it hit=>⟨h3 it hit,by rw [<- h2]; exact List.mem_map_of_mem hit⟩
 have hne:links (cB s)≠[]:=by
  obtain ⟨L,hL⟩:=Ki.1 ha
  exact List.ne_nil_of_mem hL
 have key:aEy ((),((),((),((),((),(((t:Int),()),(((i:Int),()),(((0:Int),((0:Int),((0:Int),((0:Int),((0:Int),((0:Int),())))))),(((0:Int),((0:Int),((0:Int),((0:Int),((0:Int),((0:Int),())))))),((false,()),())))))))))) z.list=aNm t i ((0:Int),((0:Int),((0:Int),((0:Int),((0:Int),((0:Int),())))))) (ach (cB s) t i) true:=by
  unfold ach
  rw [<- h2] at hne ⊢
  revert hne hmem
  cases z.list with
  | nil=>intro _ hne; exact absurd rfl hne
  | cons it l =>
   intro hmem _
   obtain ⟨g1,g2⟩:=hmem it (.head _)
   obtain ⟨rows,rfl,hr,hL⟩:=g1.rows
   rw [hL] at g2
   have st:=aRK hs g2 ht hi' ((0:Int),((0:Int),((0:Int),((0:Int),((0:Int),((0:Int),())))))) ((0:Int),((0:Int),((0:Int),((0:Int),((0:Int),((0:Int),())))))) false
   have ih:=aLv hs ht hi' ((0:Int),((0:Int),((0:Int),((0:Int),((0:Int),((0:Int),())))))) l (pos (cB s) (aW rows) t i) fun x hx=>hmem x (.tail _ hx)
   unfold aEy at ih ⊢
   simp only [eW,st]
   refine ih.trans ?_
   rw [List.map_cons,hL]
   have e:(l.map fun it=>pos (cB s) (toL it) t i)=(l.map toL).map fun L=>pos (cB s) L t i:=(List.map_map (f:=toL) (g:=fun L=>pos (cB s) L t i) (l:=l)).symm
   rw [e]
   rfl
 unfold M37 Q37
 refine (aK h1).trans ?_
 refine (congrArg (fun o=>oQ o _ (oR o _ _)) key).trans ?_
 rfl
def lowB (s:tS.den) (t i:Int):Bool:=oV t 0 (W (((s.1.n:Nat):Int) - 1)) && oV i 0 (W ((((s.1.g t.toNat).2.1.n:Nat):Int) - 1))
theorem auQ {n:Nat} (hn:n<=1000) {x:Int}:oV x 0 (W (((n:Nat):Int) - 1))=true↔0<=x/\x.toNat < n:=by
 rw [gQ ⟨by omega,by omega⟩]
 unfold oV
 rw [Bool.and_eq_true,decide_eq_true_eq,decide_eq_true_eq]
 omega
theorem aJh (hn:s.1.n<=1000) (t i:Int):M29 (no_index (s,(t,(i,()))))=some (lowB s t i,()):=by
 unfold M29 Q29 lowB
 refine (aK (aI0 _ _ _)).trans ?_
 cases h:oV t 0 (W (((s.1.n:Nat):Int) - 1)) with
 | false=>exact aR rfl
 | true =>
  have h1:=(auQ hn).1 h
  have a:(0:Int)<=t/\t < ((s.1.n:Nat):Int):=by omega
  refine (aq rfl).trans ?_
  refine (aq (decide_eq_true a)).trans ?_
  exact aK (aI0 _ _ _)
theorem lowB_nat (ho:Io s=true) {t i:Nat} (ht:t < s.1.n) (hi':i < (s.1.g t).2.1.n):lowB s t i=true:=by
 have hs:=qP ho
 have WM:=eF hs
 have hk:=dN hs ht
 unfold lowB
 rw [Bool.and_eq_true]
 exact ⟨(auQ (by omega)).2 ⟨by omega,by simpa using ht⟩,(auQ (by rw [Int.toNat_natCast]; omega)).2 ⟨by omega,by simpa using hi'⟩⟩
def b0:B6:=((0:Int),((0:Int),((0:Int),((0:Int),((0:Int),((0:Int),()))))))
theorem bgs (ho:Io s=true) (ha:Dg s=true) {t i:Nat} (ht:t < s.1.n) (hi':i < (s.1.g t).2.1.n):M8 (no_index (s,((t:Int),((i:Int),()))))=some (ach (cB s) t i,((0:Int),())):=by
 have hs:=qP ho
 have WM:=eF hs
 have h28:=auJ (s:=s) (by omega) (fun t ht=>by have:=dN hs ht; omega) true
 have e0:Jc s true=0:=by unfold Jc; rw [ho,ha]; rfl
 rw [e0] at h28
 have h29:=aJh (s:=s) (by omega) (t:Int) (i:Int)
 rw [lowB_nat ho ht hi'] at h29
 unfold M8 Q8
 refine (aK h29).trans ?_
 refine (aK h28).trans ?_
 refine (aR rfl).trans ?_
 refine (aK (aBB hs ha ht hi')).trans ?_
 rfl
theorem aWP (hn:s.1.n<=1000) (hk:∀ t,t < s.1.n->(s.1.g t).2.1.n<=1000) (t i:Int) (h:Jc s (lowB s t i)≠0):M8 (no_index (s,(t,(i,()))))=some (b0,(Jc s (lowB s t i),())):=by
 unfold M8 Q8
 refine (aK (aJh hn _ _)).trans ?_
 refine (aK (auJ hn hk _)).trans ?_
 have:(!decide (Jc s (lowB s t i)=0))=true:=by rw [decide_eq_false h]; rfl
 exact aq this
end Go.Dm
namespace Go.Dm
set_option maxRecDepth 100000
open Go.Low
variable {s:tS.den} {fr to:Int}
def ah9 (l h p:Int):Int:=l + (h - l) * p / 100
def aEc (fr to:Int) (b:B6):B6:=(ah9 b.1 b.2.1 fr,(ah9 b.1 b.2.1 to,(ah9 b.2.2.1 b.2.2.2.1 fr,(ah9 b.2.2.1 b.2.2.2.1 to,(ah9 b.2.2.2.2.1 b.2.2.2.2.2.1 fr,(ah9 b.2.2.2.2.1 b.2.2.2.2.2.1 to,()))))))
def e3:Sl Py.den:=⟨0,fun i=>((0:Int),((0:Int),((0:Int),((0:Int),((0:Int),((0:Int),()))))))⟩
def e4:Sl Tc.den:=⟨0,fun i=>((0:Int),((⟨0,fun i=>((0:Int),((0:Int),((0:Int),((0:Int),((0:Int),((0:Int),()))))))⟩:Sl _),()))⟩
def azf (fr to:Int) (r:Sl Py.den) (n:Nat):Sl Py.den:=tab e3 (fun i=>aEc fr to (r.g i)) n
def aTJ (fr to:Int) (s:tS.den) (n:Nat):Sl Tc.den:=tab e4 (fun t=>(mT s t,(azf fr to (s.1.g t).2.1 (s.1.g t).2.1.n,()))) n
def xS (fr to sp bn gn:Int) (s:tS.den) (n:Nat):tS.den:=(aTJ fr to s n,(sp,(zn s,(bn,(gn,())))))
structure XOk (s:tS.den) (fr to sp bn gn:Int):Prop where
 p0:0<=fr
 pq:fr<=to
 q1:to<=100
 s0:0<=sp
 s1:sp<=pN s
 b0:0<=bn
 b1:bn<=OC s
 g0:0<=gn
 g1:gn<=Sa s
end Go.Dm
namespace Go.Dm
set_option maxRecDepth 100000
open Go.Low
variable {s:tS.den} {fr to:Int}
theorem aHb (hn:s.1.n<=1000) (t i:Int):M10 (no_index (s,(t,(i,()))))=some (lowB s t i,()):=by
 unfold M10 Q10 lowB
 refine (aK (aBC _ _ _)).trans ?_
 cases h:oV t 0 (W (((s.1.n:Nat):Int) - 1)) with
 | false=>exact aR rfl
 | true =>
  have h1:=(auQ hn).1 h
  have a:(0:Int)<=t/\t < ((s.1.n:Nat):Int):=by omega
  refine (aq rfl).trans ?_
  refine (aq (decide_eq_true a)).trans ?_
  exact aK (aBC _ _ _)
theorem lowB_ex (hn:s.1.n<=1000) (hk:∀ t,t < s.1.n->(s.1.g t).2.1.n<=1000) {t i:Int} (h:lowB s t i=true):∃ t' i':Nat,t=(t':Int)/\i=(i':Int)/\t' < s.1.n/\i' < (s.1.g t').2.1.n:=by
 unfold lowB at h
 rw [Bool.and_eq_true] at h
 have h1:=(auQ hn).1 h.1
 have h2:=(auQ (hk _ h1.2)).1 h.2
 exact ⟨t.toNat,i.toNat,by omega,by omega,h1.2,h2.2⟩
section
variable {sp bn gn:Int} (hx:XOk s fr to sp bn gn) (ho:Io s=true) (ha:Dg (xS fr to sp bn gn s s.1.n)=true)
include hx ho
end
theorem tb {a b:Int} (h:a≠b):(!decide (a=b))=true:=by rw [decide_eq_false h]; rfl
end Go.Dm
namespace Go.Dm
set_option maxRecDepth 100000
open Go.Low
variable {s:tS.den} {A X Y D:cT}
end Go.Dm
namespace Go.Dm
set_option maxRecDepth 100000
open Go.Low
variable {s:tS.den}
end Go.Dm
namespace Go.Dm
set_option maxRecDepth 100000
open Go.Low
variable {s:tS.den} {A X Y D:cT}
end Go.Dm

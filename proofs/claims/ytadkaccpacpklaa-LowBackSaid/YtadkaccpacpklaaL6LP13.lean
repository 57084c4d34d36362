/- LowSpeeds. -/
import Derived.Test.YtadkaccpacpklaaL6LP12
set_option linter.unusedVariables false
set_option linter.unusedSimpArgs false
namespace Go.Dm
set_option maxRecDepth 100000
open Go.Low
variable {s:tS.den}
def spS (s:tS.den) (v:Int):tS.den:=(s.1,(v,s.2.2))
theorem ahT (hs:(cB s).Ok) {v:Int} (h:0<=v/\v<=50):(cB (spS s v)).Ok:=⟨hs.n1,hs.n4,hs.k,hs.Xp,hs.tm,hs.box,h,hs.dp,hs.bn,hs.gn⟩
def Jb (s:tS.den) (v:Nat):Bool:=!(links (cB (spS s v))).isEmpty
theorem auI (hn:s.1.n<=1000):∃ b:Bool,M27 (no_index (s,()))=some (b,()):=by
 let c:Nat->Bool:=fun j=>!(decide ((2:Int) < (((s.1.g j).2.1.n:Nat):Int)) && decide ((3:Int) < ((s.1.n:Nat):Int)))
 have key:Wz ((),(s,())) ((0:Int),())=bif (List.range s.1.n).all c then .exit 0 () else LQ.ret (wy:=Gn) (show (aa Gn.ret).den from (false,())):=by
  unfold Wz
  refine dX (ps:=sA) (n:=s.1.n) (f:=fun j=>((j:Int),())) (c:=c) (by unfold cz; omega) (fun j hj _=>?_) (fun _=>?_)
  ·unfold Wy Wx
   refine (aq (decide_eq_true (dW hj))).trans ?_
   refine (aq (decide_eq_true (aQ hj))).trans ?_
   have Ew:(RQ.next (show (aa sA).den from (W ((j:Int) + 1),())):RQ sA Gn) = .next (((j + 1:Nat):Int),()):=by rw [dR hj (by omega)]
   show _=bif !(decide ((2:Int) < (((s.1.g j).2.1.n:Nat):Int)) && decide ((3:Int) < ((s.1.n:Nat):Int))) then _ else _
   cases h1:decide ((2:Int) < (((s.1.g j).2.1.n:Nat):Int)) with
   | false=>exact (aR h1).trans Ew
   | true =>
    refine (aq h1).trans ?_
    cases h2:decide ((3:Int) < ((s.1.n:Nat):Int)) with
    | false=>exact (aR rfl).trans Ew
    | true=>exact aq rfl
  ·unfold Wy Wx
   have:¬ ((s.1.n:Int) < (s.1.n:Int)):=by omega
   exact aR (decide_eq_false this)
 unfold M27 Q27
 cases hc:(List.range s.1.n).all c with
 | false=>rw [hc] at key; exact ⟨false,(congrArg (fun o=>aF o 0 _ (bS o _ _)) key).trans rfl⟩
 | true=>rw [hc] at key; exact ⟨true,(bp key).trans rfl⟩
theorem apc (hs:(cB s).Ok) {v:Nat} (hv:v < 51):M76 (no_index ((v:Int),(s,())))=some (true,(Jb s v,())):=by
 unfold M76 Q76
 refine (aK (aiR (ahT hs (v:=(v:Int)) ⟨by omega,by omega⟩))).trans ?_
 rfl
theorem auJ (hs:Io s=true) (hn:s.1.n<=1000) (hk:∀ t,t < s.1.n->(s.1.g t).2.1.n<=1000):VO (no_index (s,()))=some (match fB (Jb s) 51 with | some k=>((k:Int),((0:Int),())) | none=>((0:Int),((5:Int),()))):=by
 have hok:=qP hs
 have hp:∀ j:Nat,j < 51->p76 ((j:Int),(s,()))=true:=fun j hj=>by show (M76 ((j:Int),(s,()))).isSome=true; rw [apc hok hj]; rfl
 have hv:∀ j:Nat,j < 51->v76 ((j:Int),(s,()))=(true,(Jb s j,())):=fun j hj=>by show (M76 ((j:Int),(s,()))).getD _=_; rw [apc hok hj]; rfl
 have key:FO ((50:Int),((fun y1=>(p76 (y1.1,(s,())),v76 (y1.1,(s,())))),())) ((0:Int),())=match fB (Jb s) 51 with | some k=>LQ.ret (wy:=jM) (show (aa jM.ret).den from (true,((k:Int),(true,())))) | none=>.exit 0 ():=by
  unfold FO
  refine kG (ps:=iR) (n:=51) (f:=fun j=>((j:Int),())) (qr:=fun k=>LQ.ret (wy:=jM) (show (aa jM.ret).den from (true,((k:Int),(true,()))))) (by unfold cz; omega) (fun j hj _=>?_) (fun _=>?_)
  ·unfold FN FM
   have h1:(j:Int)<=50:=by omega
   refine (aq (decide_eq_true h1)).trans ?_
   refine (aq (hp j hj)).trans ?_
   have vz:(v76 ((j:Int),(s,()))).2.1=Jb s j:=by rw [hv j hj]
   cases hb:Jb s j with
   | true =>
    rw [hb] at vz
    refine (aq vz).trans ?_
    show RQ.out (LQ.ret (show (aa jM.ret).den from ((v76 ((j:Int),(s,()))).1,((j:Int),(true,())))))=_
    rw [hv j hj]; rfl
   | false =>
    rw [hb] at vz
    refine (aR vz).trans ?_
    exact congrArg (fun q:Int=>(RQ.next (show (aa iR).den from (q,())):RQ iR jM)) (dR hj (by omega))
  ·unfold FN FM
   have:¬ (((51:Nat):Int)<=50):=by omega
   exact aR (decide_eq_false this)
 have hM:Xl ((0:Int),((50:Int),((fun y1=>(p76 (y1.1,(s,())),v76 (y1.1,(s,())))),())))=some (match fB (Jb s) 51 with | some k=>(true,((k:Int),(true,()))) | none=>(false,((0:Int),(false,())))):=by
  unfold Xl Q75
  revert key
  cases fB (Jb s) 51 with
  | some k=>intro key; exact (congrArg (fun o=>aF o 0 _ (bS o _ _)) key).trans rfl
  | none=>intro key; exact (congrArg (fun o=>aF o 0 _ (bS o _ _)) key).trans rfl
 have h74:=Us hn hk
 rw [hs] at h74
 have fin:∀ o:Option Nat,Xl ((0:Int),((50:Int),((fun y1=>(p76 (y1.1,(s,())),v76 (y1.1,(s,())))),())))=some (match o with | some k=>(true,((k:Int),(true,()))) | none=>(false,((0:Int),(false,()))))->VO (no_index (s,()))=some (match o with | some k=>((k:Int),((0:Int),())) | none=>((0:Int),((5:Int),()))):=fun o ho=>by
  unfold VO Q28
  simp only [h74,lK,ho,Bool.not_true,cond_false]
  cases o <;> rfl
 exact fin _ hM
end Go.Dm

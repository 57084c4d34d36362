/- LowClashes. -/
import Derived.Test.YtadkaccpacpklaaL10LP11
set_option linter.unusedVariables false
set_option linter.unusedSimpArgs false
namespace Go.Dm
set_option maxRecDepth 100000
open Go.Low
variable {s:tS.den}
def abe (s:tS.den) (m:Nat):tS.den:=(⟨m,s.1.g⟩,s.2)
theorem ae3 (hs:(cB s).Ok) {m:Nat} (h1:0 < m) (h2:m<=s.1.n):(cB (abe s m)).Ok:=
 ⟨h1,Nat.le_trans h2 hs.n4,fun t ht=>hs.k t (Nat.lt_of_lt_of_le ht h2),fun t ht=>hs.Xp t (Nat.lt_of_lt_of_le ht h2),fun t ht=>hs.tm t (Nat.lt_of_lt_of_le ht h2),fun t i ht=>hs.box t i (Nat.lt_of_lt_of_le ht h2),hs.sp,hs.dp,hs.bn,hs.gn⟩
def Yn (s:tS.den) (t:Nat):Bool:=(links (cB (abe s (t + 1)))).isEmpty
theorem ao7 (hs:(cB s).Ok) {t:Nat} (ht:t < s.1.n):M89 (no_index ((t:Int),(s,())))=some (true,(Yn s t,())):=by
 have WM:=eF hs
 unfold M89 Q89
 have w:=dR (n:=s.1.n) ht (by omega)
 have a:(0:Int)<=0/\((0:Int)<=W ((t:Int) + 1)/\W ((t:Int) + 1)<=(s.1.n:Int)):=by rw [w]; omega
 refine (aq (decide_eq_true a)).trans ?_
 have hM:=aiR (ae3 hs (m:=t + 1) (by omega) (by omega))
 have hM':Yx (((⟨Int.toNat (W ((t:Int) + 1) - 0),fun i=>s.1.g (i + 0)⟩:Sl Tc.den),s.2),())=some (!(links (cB (abe s (t + 1)))).isEmpty,()):=by rw [w]; exact hM
 refine (aK hM').trans ?_
 show some (true,(!(!(links (cB (abe s (t + 1)))).isEmpty),()))=_
 rw [Bool.not_not]; rfl
theorem auH (hs:Io s=true) (hn:s.1.n<=1000) (hk:∀ t,t < s.1.n->(s.1.g t).2.1.n<=1000):Yl (no_index (s,()))=some (match fB (Yn s) s.1.n with | some k=>((k:Int),((0:Int),())) | none=>((0:Int),((5:Int),()))):=by
 have hok:=qP hs
 have WM:=eF hok
 have xU:0 < s.1.n:=hok.n1
 have hp:∀ j,j < s.1.n->p89 ((j:Int),(s,()))=true:=fun j hj=>by show (M89 ((j:Int),(s,()))).isSome=true; rw [ao7 hok hj]; rfl
 have hv:∀ j,j < s.1.n->v89 ((j:Int),(s,()))=(true,(Yn s j,())):=fun j hj=>by show (M89 ((j:Int),(s,()))).getD _=_; rw [ao7 hok hj]; rfl
 have wN:W ((s.1.n:Int) - 1)=((s.1.n - 1:Nat):Int):=by rw [gQ ⟨by omega,by omega⟩]; omega
 have key:FO (W (((s.1.n:Nat):Int) - 1),((fun y1=>(p89 (y1.1,(s,())),v89 (y1.1,(s,())))),())) ((0:Int),())=match fB (Yn s) s.1.n with | some k=>LQ.ret (wy:=jM) (show (aa jM.ret).den from (true,((k:Int),(true,())))) | none=>.exit 0 ():=by
  rw [wN]
  unfold FO
  refine kG (ps:=iR) (n:=s.1.n) (f:=fun j=>((j:Int),())) (qr:=fun k=>LQ.ret (wy:=jM) (show (aa jM.ret).den from (true,((k:Int),(true,()))))) (by unfold cz; omega) (fun j hj _=>?_) (fun _=>?_)
  ·unfold FN FM
   have h1:(j:Int)<=((s.1.n - 1:Nat):Int):=by omega
   refine (aq (decide_eq_true h1)).trans ?_
   refine (aq (hp j hj)).trans ?_
   have vz:(v89 ((j:Int),(s,()))).2.1=Yn s j:=by rw [hv j hj]
   cases hb:Yn s j with
   | true =>
    rw [hb] at vz
    refine (aq vz).trans ?_
    show RQ.out (LQ.ret (show (aa jM.ret).den from ((v89 ((j:Int),(s,()))).1,((j:Int),(true,())))))=_
    rw [hv j hj]; rfl
   | false =>
    rw [hb] at vz
    refine (aR vz).trans ?_
    exact congrArg (fun q:Int=>(RQ.next (show (aa iR).den from (q,())):RQ iR jM)) (dR hj (by omega))
  ·unfold FN FM
   have:¬ ((s.1.n:Int)<=((s.1.n - 1:Nat):Int)):=by omega
   exact aR (decide_eq_false this)
 have hM:Xl ((0:Int),(W (((s.1.n:Nat):Int) - 1),((fun y1=>(p89 (y1.1,(s,())),v89 (y1.1,(s,())))),())))=some (match fB (Yn s) s.1.n with | some k=>(true,((k:Int),(true,()))) | none=>(false,((0:Int),(false,())))):=by
  unfold Xl Q75
  revert key
  cases fB (Yn s) s.1.n with
  | some k=>intro key; exact (congrArg (fun o=>aF o 0 _ (bS o _ _)) key).trans rfl
  | none=>intro key; exact (congrArg (fun o=>aF o 0 _ (bS o _ _)) key).trans rfl
 have h74:=Us hn hk
 rw [hs] at h74
 have fin:∀ o:Option Nat,Xl ((0:Int),(W (((s.1.n:Nat):Int) - 1),((fun y1=>(p89 (y1.1,(s,())),v89 (y1.1,(s,())))),())))=some (match o with | some k=>(true,((k:Int),(true,()))) | none=>(false,((0:Int),(false,()))))->Yl (no_index (s,()))=some (match o with | some k=>((k:Int),((0:Int),())) | none=>((0:Int),((5:Int),()))):=fun o ho=>by
  unfold Yl Q46
  simp only [h74,lK,ho,Bool.not_true,cond_false]
  cases o <;> rfl
 exact fin _ hM
end Go.Dm

/- LowClashes. -/
import Derived.Test.YtadkaccpacpklaaL5LP11
set_option linter.unusedVariables false
set_option linter.unusedSimpArgs false
namespace Go.Dm
set_option maxRecDepth 100000
open Go.Low
variable {s:tS.den}
def abe (s:tS.den) (m:Nat):tS.den:=(⟨m,s.1.g⟩,s.2)
theorem ae3 (hs:(cB s).Ok) {m:Nat} (h1:0 < m) (h2:m<=s.1.n):(cB (abe s m)).Ok:=
 ⟨h1,Nat.le_trans h2 hs.n4,fun t ht=>hs.k t (Nat.lt_of_lt_of_le ht h2),fun t ht=>hs.Xp t (Nat.lt_of_lt_of_le ht h2),fun t ht=>hs.tm t (Nat.lt_of_lt_of_le ht h2),fun t i ht=>hs.box t i (Nat.lt_of_lt_of_le ht h2),hs.sp,hs.dp,hs.bn,hs.gn⟩
def Yn (s:tS.den) (t:Nat):Bool:=(links (cB (abe s (t + 1)))).isEmpty
theorem aIu {t:Nat} (ht:t < s.1.n) (hn:s.1.n<=1000):M90 (no_index (s,(W ((t:Int) + 1),())))=some (abe s (t + 1),()):=by
 rw [dR ht (by omega)]
 unfold M90 Q90
 have a:(0:Int)<=0/\((0:Int)<=((t + 1:Nat):Int)/\((t + 1:Nat):Int)<=(s.1.n:Int)):=by omega
 refine (aq (decide_eq_true a)).trans ?_
 rfl
theorem aE5 (hs:(cB s).Ok):M47 (no_index (s,()))=some ((match fB (Yn s) s.1.n with | some k=>(k:Int) | none=>-1),()):=by
 have WM:=eF hs
 have key:ag5 ((),(s,())) ((0:Int),())=match fB (Yn s) s.1.n with | some k=>LQ.ret (wy:=LH) (show (aa LH.ret).den from ((k:Int),())) | none=>.exit 0 ():=by
  unfold ag5
  refine kG (ps:=CR) (n:=s.1.n) (f:=fun j=>((j:Int),())) (qr:=fun k=>LQ.ret (wy:=LH) (show (aa LH.ret).den from ((k:Int),()))) (by unfold cz; omega) (fun j hj _=>?_) (fun _=>?_)
  ·unfold ag4 ag3
   obtain ⟨all,h1,h2⟩:=asM (ae3 hs (m:=j + 1) (by omega) (by omega))
   refine (aq (decide_eq_true (dW hj))).trans ?_
   refine (aK (aIu hj (by omega))).trans ?_
   refine (aK h1).trans ?_
   have e:Yn s j=decide (((all.n:Nat):Int)=0):=by
    unfold Yn
    rw [<- h2]
    by_cases c:((all.n:Nat):Int)=0
    ·rw [decide_eq_true c]
     have:(fU all).length=0:=by rw [jA]; omega
     rw [List.length_eq_zero_iff.1 this]; rfl
    ·rw [decide_eq_false c]
     cases h:fU all with
     | nil=>have:=congrArg List.length h; rw [jA] at this; simp at this; omega
     | cons a l=>rfl
   rw [e]
   cases decide (((all.n:Nat):Int)=0) with
   | true=>rfl
   | false=>exact congrArg (fun q:Int=>(RQ.next (show (aa CR).den from (q,())):RQ CR LH)) (dR hj (by omega))
  ·unfold ag4 ag3
   have:¬ ((s.1.n:Int) < (s.1.n:Int)):=by omega
   exact aR (decide_eq_false this)
 unfold M47 Q47
 revert key
 cases fB (Yn s) s.1.n with
 | some k=>intro key; exact (congrArg (fun o=>aF o 0 _ (bS o _ _)) key).trans rfl
 | none=>intro key; exact (congrArg (fun o=>aF o 0 _ (bS o _ _)) key).trans rfl
end Go.Dm

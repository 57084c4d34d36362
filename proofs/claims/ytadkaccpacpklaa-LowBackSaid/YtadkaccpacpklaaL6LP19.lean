/- LowLogic. -/
import Derived.Test.YtadkaccpacpklaaL6LP18
import Derived.Test.YtadkaccpacpklaaL6LM4
set_option linter.unusedVariables false
set_option linter.unusedSimpArgs false
namespace Go.Dm
set_option maxRecDepth 100000
open Go.Low
variable {s:tS.den}
theorem azj (s:tS.den) (t:Nat):(Cl s t).n=(s.1.g (t + 1)).2.1.n:=aa3 _ _ _
theorem azk {t i:Nat} (hi:i < (s.1.g (t + 1)).2.1.n):(Cl s t).g i=(RH (s.1.g t).2.1.n (fun j=>wd (cS s (t + 1) i (j:Int)) (nL s)),()):=aoW hi
theorem an3 (s:tS.den):(Kt s).n=s.1.n - 1:=aa3 _ _ _
theorem aFF {t:Nat} (ht:t + 1 < s.1.n):(Kt s).g t=(RH (s.1.g (t + 1)).2.1.n (fun i=>wd (cS s (t + 1) i (-1)) (nL s)),()):=aoW (i:=t) (by omega)
theorem aKx (s:tS.den):(Xg s).n=s.1.n - 1:=aa3 _ _ _
theorem aKy {t:Nat} (ht:t + 1 < s.1.n):(Xg s).g t=(RH (s.1.g t).2.1.n (fun i=>wd (cE s t i) (nL s)),()):=aoW (i:=t) (by omega)
theorem aKv (hs:(cB s).Ok) {t:Nat} (ht:t + 1 < s.1.n):M31 (no_index (Cl s t,((((s.1.g (t + 1)).2.1.n:Nat):Int),((((s.1.g t).2.1.n:Nat):Int),()))))=some (true,()):=by
 have hk:=dN hs ht
 have hn:=azj s t
 have key:aAr (Cl s t,((((s.1.g (t + 1)).2.1.n:Nat):Int),((((s.1.g t).2.1.n:Nat):Int),()))) ((0:Int),()) = .exit 0 ():=by
  unfold aAr
  refine bQ (ps:=aaY) (Cl s t).n cz (fun j=>((j:Int),())) (by unfold cz; omega) (fun i hi=>?_) ?_
  ·have hg:((((Cl s t).g i).1.n:Nat):Int)=(((s.1.g t).2.1.n:Nat):Int):=by rw [azk (by omega)]; dsimp only; rw [PD]
   unfold aAq aAp
   refine (aq (decide_eq_true (dW hi))).trans ?_
   refine (aq (decide_eq_true (aQ hi))).trans ?_
   refine (aR (show (!decide (((((Cl s t).g i).1.n:Nat):Int)=(((s.1.g t).2.1.n:Nat):Int)))=false by rw [decide_eq_true hg]; rfl)).trans ?_
   exact congrArg (fun q:Int=>(RQ.next (show (aa aaY).den from (q,())):RQ aaY atu)) (dR hi (by omega))
  ·unfold aAq aAp
   have:¬ (((Cl s t).n:Int) < ((Cl s t).n:Int)):=by omega
   exact aR (decide_eq_false this)
 unfold M31 Q31
 refine (bp key).trans ?_
 show some (decide ((((Cl s t).n:Nat):Int)=(((s.1.g (t + 1)).2.1.n:Nat):Int)),())=_
 rw [hn,decide_eq_true rfl]
theorem nb {a b:Int} (h:a=b):(!decide (a=b))=false:=by rw [decide_eq_true h]; rfl
end Go.Dm

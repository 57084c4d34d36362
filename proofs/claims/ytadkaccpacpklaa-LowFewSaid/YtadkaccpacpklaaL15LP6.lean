/- The reference: choices of links. -/
import Derived.Test.YtadkaccpacpklaaL15LP5
set_option linter.unusedVariables false
set_option linter.unusedSimpArgs false
namespace Go.Dm
set_option maxRecDepth 100000
open Go.Low
theorem acB (r:Sl sR.den) (hr:r.n<=140737488355328) (x:Int):M73 (no_index (r,(x,())))=some (has (aV r) x,()):=by
 unfold M73 Q73
 have key:NR (r,(x,())) ((0:Int),())=match fB (fun j=>decide ((show Int from (r.g j).1)=x)) r.n with | some k=>LQ.ret (wy:=sg) (show (aa sg.ret).den from (true,())) | none=>.exit 0 ():=by
  unfold NR
  refine kG (ps:=mc) (n:=r.n) (f:=fun j=>((j:Int),())) (qr:=fun k=>LQ.ret (wy:=sg) (show (aa sg.ret).den from (true,()))) (Mk hr) (fun j hj _=>?_) (fun _=>?_)
  ·unfold NQ NP
   refine (aq (decide_eq_true (dW hj))).trans ?_
   refine (aq (decide_eq_true (aQ hj))).trans ?_
   cases hd:decide ((show Int from (r.g j).1)=x) with
   | true=>exact aq hd
   | false =>
    refine (aR hd).trans ?_
    exact congrArg (fun q:Int=>(RQ.next (show (aa mc).den from (q,())):RQ mc sg)) (dR hj hr)
  ·unfold NQ NP
   have:¬ ((r.n:Int) < (r.n:Int)):=by omega
   exact aR (decide_eq_false this)
 have hh:has (aV r) x=(fB (fun j=>decide ((show Int from (r.g j).1)=x)) r.n).isSome:=by
  rw [Bool.eq_iff_iff,zN]
  cases h:fB (fun j=>decide ((show Int from (r.g j).1)=x)) r.n with
  | some k =>
   obtain ⟨h1,h2,_⟩:=kD h
   have h2:=of_decide_eq_true h2
   exact ⟨fun _=>rfl,fun _=>⟨k,by rw [gR,if_pos h1]; exact congrArg some h2⟩⟩
  | none =>
   have hn:=jg h
   refine ⟨fun ⟨i,hi⟩=>?_,fun h=>by cases h⟩
   rw [gR] at hi
   split at hi
   ·rename_i hlt
    have:=hn i hlt
    rw [decide_eq_false_iff_not] at this
    exact absurd (Option.some.inj hi) this
   ·cases hi
 rw [hh]
 revert key
 cases fB (fun j=>decide ((show Int from (r.g j).1)=x)) r.n with
 | some k=>intro key; refine (congrArg (fun o=>aF o 0 _ (bS o _ _)) key).trans ?_; rfl
 | none=>intro key; refine (congrArg (fun o=>aF o 0 _ (bS o _ _)) key).trans ?_; rfl
theorem dI (o:cT):(aW o).length=o.n:=by simp [aW]
theorem tW {o:cT} {i:Nat} (h:i < o.n):(aW o)[i]? = some (aV (o.g i).1):=by
 unfold aW
 rw [List.getElem?_map,List.getElem?_range h]; rfl
end Go.Dm

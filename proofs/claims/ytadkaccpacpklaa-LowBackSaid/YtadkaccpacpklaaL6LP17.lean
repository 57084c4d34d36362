/- What is known: the reference's words. -/
import Derived.Test.YtadkaccpacpklaaL6LP16
set_option linter.unusedVariables false
set_option linter.unusedSimpArgs false
namespace Go.Dm
set_option maxRecDepth 100000
open Go.Low
variable {s:tS.den} {all:zR}
theorem aia (hs:(cB s).Ok) {o:cT} (h:aW o∈links (cB s)):PC s o:=by
 have h:=(tX hs).1 h
 have hn:o.n=s.1.n:=by have:=h.len; rw [dI] at this; exact this
 refine ⟨hn,fun t ht=>?_⟩
 have e:=kH (o:=o) (t:=t) (by omega)
 have e2:=iN (o.g t).1
 rw [<- e] at e2
 rw [<- e2]
 cases t with
 | zero=>rw [h.first]; simp [first]; rfl
 | succ t=>exact (h.row t ht).1
def auT (a b:Sl sR.den):Bool:=decide (((a.n:Nat):Int)=((b.n:Nat):Int)) && (List.range a.n).all fun j=>decide ((show Int from (a.g j).1)=(show Int from (b.g j).1))
def aFE (a b:cT):Bool:=decide (((a.n:Nat):Int)=((b.n:Nat):Int)) && (List.range a.n).all fun i=>auT (a.g i).1 (b.g i).1
theorem aTS {a b:cT} {i:Nat} (ha:i < a.n) (hb:i < b.n) (hn:(a.g i).1.n=(b.g i).1.n) (hk:(a.g i).1.n<=1000) :
  vK (a,(b,((i:Int),()))) ((0:Int),())=bif (List.range (a.g i).1.n).all (fun j=>decide ((show Int from ((a.g i).1.g j).1)=(show Int from ((b.g i).1.g j).1))) then .exit 2 () else LQ.ret (wy:=qF) (show (aa qF.ret).den from (false,())):=by
 unfold vK
 refine dX (ps:=fR) (n:=(a.g i).1.n) (f:=fun j=>((j:Int),())) (by unfold cz; omega) (fun j hj _=>?_) (fun _=>?_)
 ·unfold AV AU
  refine (aq (decide_eq_true (aQ ha))).trans ?_
  refine (aq (decide_eq_true (dW hj))).trans ?_
  refine (aq (decide_eq_true (aQ ha))).trans ?_
  refine (aq (decide_eq_true (aQ hj))).trans ?_
  refine (aq (decide_eq_true (aQ hb))).trans ?_
  refine (aq (decide_eq_true (aQ (n:=(b.g i).1.n) (by rw [<- hn]; exact hj)))).trans ?_
  cases hd:decide ((show Int from ((a.g i).1.g j).1)=(show Int from ((b.g i).1.g j).1)) with
  | true =>
   refine (aR (show (!decide ((show Int from ((a.g i).1.g j).1)=(show Int from ((b.g i).1.g j).1)))=false by rw [hd]; rfl)).trans ?_
   exact congrArg (fun q:Int=>(RQ.next (show (aa fR).den from (q,())):RQ fR qF)) (dR hj (by omega))
  | false=>exact aq (show (!decide ((show Int from ((a.g i).1.g j).1)=(show Int from ((b.g i).1.g j).1)))=true by rw [hd]; rfl)
 ·unfold AV AU
  refine (aq (decide_eq_true (aQ ha))).trans ?_
  have:¬ ((((a.g i).1.n:Nat):Int) < (((a.g i).1.n:Nat):Int)):=by omega
  exact aR (decide_eq_false this)
theorem aWt {a b:cT} (hn:a.n<=1000) (hk:∀ i,i < a.n->(a.g i).1.n<=1000):VN (no_index (a,(b,())))=some (aFE a b,()):=by
 unfold VN Q23 aFE
 by_cases hl:((a.n:Nat):Int)=((b.n:Nat):Int)
 ·refine (aR (show (!decide (((a.n:Nat):Int)=((b.n:Nat):Int)))=false by rw [decide_eq_true hl]; rfl)).trans ?_
  rw [decide_eq_true hl,Bool.true_and]
  have key:PR (a,(b,())) ((0:Int),())=bif (List.range a.n).all (fun i=>auT (a.g i).1 (b.g i).1) then .exit 0 () else LQ.ret (wy:=Az) (show (aa Az.ret).den from (false,())):=by
   unfold PR
   refine dX (ps:=lz) (n:=a.n) (f:=fun j=>((j:Int),())) (by unfold cz; omega) (fun j hj _=>?_) (fun _=>?_)
   ·have hj':j < b.n:=by omega
    have Ew:(RQ.next (show (aa lz).den from (W ((j:Int) + 1),())):RQ lz Az) = .next (((j + 1:Nat):Int),()):=by rw [dR hj (by omega)]
    unfold PO PN
    refine (aq (decide_eq_true (dW hj))).trans ?_
    refine (aq (decide_eq_true (aQ hj))).trans ?_
    refine (aq (decide_eq_true (aQ hj'))).trans ?_
    show _=bif auT (a.g j).1 (b.g j).1 then _ else _
    unfold auT
    by_cases hr:(((a.g j).1.n:Nat):Int)=(((b.g j).1.n:Nat):Int)
    ·refine (aR (show (!decide ((((a.g j).1.n:Nat):Int)=(((b.g j).1.n:Nat):Int)))=false by rw [decide_eq_true hr]; rfl)).trans ?_
     rw [decide_eq_true hr,Bool.true_and]
     have hin:=aTS hj hj' (by omega) (hk j hj)
     revert hin
     cases (List.range (a.g j).1.n).all (fun x=>decide ((show Int from ((a.g j).1.g x).1)=(show Int from ((b.g j).1.g x).1))) with
     | true=>intro hin; exact (bp hin).trans Ew
     | false=>intro hin; exact (congrArg (fun o=>aF o 2 _ (bS o _ _)) hin).trans rfl
    ·refine (aq (show (!decide ((((a.g j).1.n:Nat):Int)=(((b.g j).1.n:Nat):Int)))=true by rw [decide_eq_false hr]; rfl)).trans ?_
     rw [decide_eq_false hr,Bool.false_and]; rfl
   ·unfold PO PN
    have:¬ ((a.n:Int) < (a.n:Int)):=by omega
    exact aR (decide_eq_false this)
  revert key
  cases (List.range a.n).all (fun i=>auT (a.g i).1 (b.g i).1) with
  | true=>intro key; exact (bp key).trans rfl
  | false=>intro key; exact (congrArg (fun o=>aF o 0 _ (bS o _ _)) key).trans rfl
 ·refine (aq (show (!decide (((a.n:Nat):Int)=((b.n:Nat):Int)))=true by rw [decide_eq_false hl]; rfl)).trans ?_
  rw [decide_eq_false hl]; rfl
theorem aEb (a:cT):aFE a a=true:=by
 unfold aFE auT
 rw [decide_eq_true rfl,Bool.true_and]
 exact JL fun i _=>by rw [decide_eq_true rfl,Bool.true_and]; exact JL fun j _=>decide_eq_true rfl
end Go.Dm

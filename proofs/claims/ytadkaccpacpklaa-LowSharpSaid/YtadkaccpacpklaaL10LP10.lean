/- Suites that are valid; suites that are short. -/
import Derived.Test.YtadkaccpacpklaaL10LP9
set_option linter.unusedVariables false
set_option linter.unusedSimpArgs false
namespace Go.Dm
set_option maxRecDepth 100000
open Go.Low
variable {s:tS.den}
def OD (a b m:Int):Bool:=decide (0<=a) && (decide (a<=b) && decide (b<=m))
def Is (b:B6):Bool:=OD b.1 b.2.1 100 && (OD b.2.2.1 b.2.2.2.1 100 && OD b.2.2.2.2.1 b.2.2.2.2.2.1 99999)
theorem LJ (a b m:Int):Hl (no_index ((a,(b,())),(m,())))=some (OD a b m,()):=by
 show (bif decide (0<=a) then bif decide (a<=b) then some (decide (b<=m),()) else some (false,()) else some (false,()))=_
 unfold OD
 cases decide (0<=a) <;> cases decide (a<=b) <;> rfl
theorem Uq (a b m:Int):M69 (no_index ((a,(b,())),(m,())))=some (OD a b m,()):=by
 show (bif decide (0<=a) then bif decide (a<=b) then some (decide (b<=m),()) else some (false,()) else some (false,()))=_
 unfold OD
 cases decide (0<=a) <;> cases decide (a<=b) <;> rfl
def oV (x a b:Int):Bool:=decide (a<=x) && decide (x<=b)
theorem zk (x a b:Int):Kk (no_index (x,(a,(b,()))))=some (oV x a b,()):=by
 show (bif decide (a<=x) then some (decide (x<=b),()) else some (false,()))=_
 unfold oV
 cases decide (a<=x) <;> rfl
theorem uW (x a b:Int):MC (no_index (x,(a,(b,()))))=some (oV x a b,()):=by
 show (bif decide (a<=x) then some (decide (x<=b),()) else some (false,()))=_
 unfold oV
 cases decide (a<=x) <;> rfl
theorem Ur (b:B6):Hp (no_index (b,()))=some (!Is b,()):=by
 unfold Hp Xv Is
 refine (aK (LJ _ _ _)).trans ?_
 cases OD b.1 b.2.1 100 with
 | false=>rfl
 | true =>
  refine (aR rfl).trans ?_
  refine (aK (LJ _ _ _)).trans ?_
  cases OD b.2.2.1 b.2.2.2.1 100 with
  | false=>rfl
  | true =>
   refine (aR rfl).trans ?_
   refine (aK (LJ _ _ _)).trans ?_
   rfl
def Im (r:Sl Py.den):Bool:=(List.range r.n).all fun j=>Is (r.g j)
theorem ae0 (r:Sl Py.den) (hr:r.n<=140737488355328):Hi (no_index (r,((fun y=>(Dw y,AM y)),())))=some (!Im r,()):=by
 unfold Hi Xu
 have hp:∀ j,Dw (r.g j,())=true:=fun j=>by show (Hp (r.g j,())).isSome=true; rw [Ur]; rfl
 have hv:∀ j,AM (r.g j,())=(!Is (r.g j),()):=fun j=>by show (Hp (r.g j,())).getD _=_; rw [Ur]; rfl
 have key:yP (r,((fun y=>(Dw y,AM y)),(((r.n:Nat):Int),()))) ((0:Int),())=match fB (fun j=>!Is (r.g j)) r.n with | some k=>LQ.ret (wy:=jJ) (show (aa jJ.ret).den from ((k:Int),())) | none=>.exit 0 ():=by
  unfold yP
  refine kG (ps:=fJ) (n:=r.n) (f:=fun j=>((j:Int),())) (qr:=fun k=>LQ.ret (wy:=jJ) (show (aa jJ.ret).den from ((k:Int),()))) (Mk hr) (fun j hj _=>?_) (fun _=>?_)
  ·unfold yO yN
   refine (aq (decide_eq_true (dW hj))).trans ?_
   refine (aq (decide_eq_true (aQ hj))).trans ?_
   refine (aq (hp j)).trans ?_
   have vz:(AM (r.g j,())).1 = !Is (r.g j):=by rw [hv]
   cases hb:Is (r.g j) with
   | false=>rw [hb] at vz; exact aq vz
   | true =>
    rw [hb] at vz
    refine (aR vz).trans ?_
    exact congrArg (fun q:Int=>(RQ.next (show (aa fJ).den from (q,())):RQ fJ jJ)) (dR hj hr)
  ·unfold yO yN
   have:¬ ((r.n:Int) < (r.n:Int)):=by omega
   exact aR (decide_eq_false this)
 have hM:Lg (r,((fun y=>(Dw y,AM y)),()))=some ((match fB (fun j=>!Is (r.g j)) r.n with | some k=>(k:Int) | none=>-1),()):=by
  unfold Lg Xt
  revert key
  cases fB (fun j=>!Is (r.g j)) r.n with
  | some k=>intro key; refine (congrArg (fun o=>aF o 0 _ (bS o _ _)) key).trans ?_; rfl
  | none=>intro key; refine (congrArg (fun o=>aF o 0 _ (bS o _ _)) key).trans ?_; rfl
 refine (aK hM).trans ?_
 have:Im r=(fB (fun j=>!Is (r.g j)) r.n).isNone:=by
  cases h:fB (fun j=>!Is (r.g j)) r.n with
  | some k =>
   obtain ⟨h1,h2,_⟩:=kD h
   rw [Bool.eq_false_iff.2 (show Im r≠true from fun e=>by have:=mQ e h1; rw [this] at h2; cases h2)]; rfl
  | none =>
   have hn:=jg h
   exact JL fun j hj=>by have:=hn j hj; simpa using this
 rw [this]
 cases fB (fun j=>!Is (r.g j)) r.n with
 | none=>rfl
 | some k =>
  have:(0:Int)<=(k:Int):=by omega
  show some (decide ((0:Int)<=(k:Int)),())=_
  rw [decide_eq_true this]; rfl
def jI (s:tS.den):Nat->Int
 | 0=>-1
 | j + 1=>mT s j
def lD (s:tS.den) (j:Nat):Bool:=!decide (mT s j<=jI s j) && (!decide (200 < mT s j) && (!decide (3 < (s.1.g j).2.1.n) && Im (s.1.g j).2.1))
def UW (s:tS.den):Bool:=oV (s.1.n:Int) 1 4 && (oV (pN s) 0 50 && (oV (zn s) 0 1000 && (oV (OC s) 0 12 && oV (Sa s) 0 12)))
def Io (s:tS.den):Bool:=(List.range s.1.n).all (lD s) && UW s
theorem qP (h:Io s=true):(cB s).Ok:=by
 unfold Io UW oV at h
 simp only [Bool.and_eq_true,decide_eq_true_eq] at h
 obtain ⟨h1,⟨n1,n4⟩,sp,dp,bn,gn⟩:=h
 have hm:∀ t,t < s.1.n->jI s t < mT s t/\mT s t<=200/\(s.1.g t).2.1.n<=3/\∀ j,j < (s.1.g t).2.1.n->Is ((s.1.g t).2.1.g j)=true:=fun t ht=>by
  have:=mQ h1 ht
  unfold lD at this
  simp only [Bool.and_eq_true,Bool.not_eq_true',decide_eq_false_iff_not] at this
  obtain ⟨a,b,c,d⟩:=this
  exact ⟨by omega,by omega,by omega,fun j hj=>mQ d hj⟩
 have hp:∀ t,t < s.1.n->0<=mT s t:=fun t=>by
  induction t with
  | zero=>intro ht; have h2:=(hm 0 ht).1; have:jI s 0 = -1:=rfl; omega
  | succ t ih=>intro ht; have h2:=(hm (t + 1) ht).1; have:jI s (t + 1)=mT s t:=rfl; have:=ih (by omega); omega
 refine ⟨?_,?_,fun t ht=>(hm t ht).2.2.1,fun t ht=>⟨hp t ht,(hm t ht).2.1⟩,fun t ht=>(hm (t + 1) ht).1,fun t i ht hi' a ha=>?_,sp,dp,bn,gn⟩
 ·show 0 < s.1.n; omega
 ·show s.1.n<=4; omega
 ·have hb:=(hm t ht).2.2.2 i hi'
  unfold Is OD at hb
  simp only [Bool.and_eq_true,decide_eq_true_eq] at hb
  obtain ⟨⟨a1,a2,a3⟩,⟨b1,b2,b3⟩,c1,c2,c3⟩:=hb
  show 0<=lo ((s.1.g t).2.1.g i) a/\lo ((s.1.g t).2.1.g i) a<=hi ((s.1.g t).2.1.g i) a/\hi ((s.1.g t).2.1.g i) a<=99999
  match a,ha with
  | 0,_=>exact ⟨a1,a2,Int.le_trans a3 (by decide)⟩
  | 1,_=>exact ⟨b1,b2,Int.le_trans b3 (by decide)⟩
  | 2,_=>exact ⟨c1,c2,c3⟩
theorem Us (hn:s.1.n<=1000) (hk:∀ t,t < s.1.n->(s.1.g t).2.1.n<=1000):WW (no_index (s,()))=some (Io s,()):=by
 have key:Hs ((),(s.1,(((s.1.n:Nat):Int),(s,())))) ((-1:Int),((0:Int),()))=bif (List.range s.1.n).all (lD s) then .exit 0 () else LQ.ret (wy:=rY) (show (aa rY.ret).den from (false,())):=by
  unfold Hs
  refine dX (ps:=ji) (n:=s.1.n) (f:=fun j=>(jI s j,((j:Int),()))) (c:=lD s) (by unfold cz; omega) (fun j hj _=>?_) (fun _=>?_)
  ·unfold Hr Hq
   refine (aq (decide_eq_true (dW hj))).trans ?_
   refine (aq (decide_eq_true (aQ hj))).trans ?_
   unfold lD
   by_cases c1:mT s j<=jI s j
   ·rw [decide_eq_true c1]
    exact aq (decide_eq_true c1)
   refine (aR (decide_eq_false c1)).trans ?_
   rw [decide_eq_false c1]
   by_cases c2:200 < mT s j
   ·rw [decide_eq_true c2]
    exact aq (decide_eq_true c2)
   refine (aR (decide_eq_false c2)).trans ?_
   rw [decide_eq_false c2]
   by_cases c3:3 < (s.1.g j).2.1.n
   ·rw [decide_eq_true c3]
    have c3':(3:Int) < (((s.1.g j).2.1.n:Nat):Int):=by omega
    exact aq (decide_eq_true c3')
   have c3':¬ (3:Int) < (((s.1.g j).2.1.n:Nat):Int):=by omega
   refine (aR (decide_eq_false c3')).trans ?_
   rw [decide_eq_false c3]
   have hM:=ae0 (s.1.g j).2.1 (by have:=hk j hj; omega)
   refine (aK hM).trans ?_
   have hv:(adv ((s.1.g j).2.1,((fun y3=>(Dw y3,AM y3)),()))).1 = !Im (s.1.g j).2.1:=by
    show ((Hi ((s.1.g j).2.1,((fun y3=>(Dw y3,AM y3)),()))).getD _).1=_
    rw [hM]; rfl
   cases hr:Im (s.1.g j).2.1 with
   | false =>
    rw [hr] at hv
    exact aq hv
   | true =>
    rw [hr] at hv
    refine (aR hv).trans ?_
    exact congrArg (fun q:Int=>(RQ.next (show (aa ji).den from (mT s j,(q,()))):RQ ji rY)) (dR hj (by omega))
  ·unfold Hr Hq
   have:¬ ((s.1.n:Int) < (s.1.n:Int)):=by omega
   exact aR (decide_eq_false this)
 unfold WW Q74 Io
 revert key
 cases (List.range s.1.n).all (lD s) with
 | false=>intro key; refine (congrArg (fun o=>aF o 0 _ (bS o _ _)) key).trans ?_; rfl
 | true =>
  intro key
  refine (bp key).trans ?_
  unfold UW
  refine (aK (zk _ _ _)).trans ?_
  cases oV (s.1.n:Int) 1 4 with
  | false=>rfl
  | true =>
   refine (aq rfl).trans ?_
   refine (aK (zk (pN s) _ _)).trans ?_
   cases oV (pN s) 0 50 with
   | false=>rfl
   | true =>
    refine (aq rfl).trans ?_
    refine (aK (zk (zn s) _ _)).trans ?_
    cases oV (zn s) 0 1000 with
    | false=>rfl
    | true =>
     refine (aq rfl).trans ?_
     refine (aK (zk (OC s) _ _)).trans ?_
     cases oV (OC s) 0 12 with
     | false=>rfl
     | true =>
      refine (aq rfl).trans ?_
      refine (aK (zk (Sa s) _ _)).trans ?_
      rfl
theorem aau:∃ b:Bool,Yz (no_index (s,()))=some (b,())/\(b=true->s.1.n<=6/\∀ t,t < s.1.n->(s.1.g t).2.1.n<=5):=by
 let c:Nat->Bool:=fun j=>!decide ((5:Int) < (((s.1.g j).2.1.n:Nat):Int))
 have key:HP ((),(s,())) ((0:Int),())=bif (List.range (min s.1.n 7)).all c then .exit 0 () else LQ.ret (wy:=rZ) (show (aa rZ.ret).den from (false,())):=by
  unfold HP
  refine dX (ps:=jk) (n:=min s.1.n 7) (f:=fun j=>((j:Int),())) (c:=c) (by unfold cz; omega) (fun j hj _=>?_) (fun _=>?_)
  ·unfold HO HN
   have hj1:j < s.1.n:=by omega
   have hj7:(j:Int) < 7:=by omega
   refine (aq (decide_eq_true (dW hj1))).trans ?_
   refine (aq (decide_eq_true hj7)).trans ?_
   refine (aq (decide_eq_true (aQ hj1))).trans ?_
   show _=bif c j then _ else _
   by_cases c1:(5:Int) < (((s.1.g j).2.1.n:Nat):Int)
   ·have:c j=false:=by show (!decide _)=false; rw [decide_eq_true c1]; rfl
    rw [this]
    exact aq (decide_eq_true c1)
   ·have:c j=true:=by show (!decide _)=true; rw [decide_eq_false c1]; rfl
    rw [this]
    refine (aR (decide_eq_false c1)).trans ?_
    exact congrArg (fun q:Int=>(RQ.next (show (aa jk).den from (q,())):RQ jk rZ)) (dR (n:=7) (by omega) (by omega))
  ·unfold HO HN
   by_cases h:s.1.n<=7
   ·have:¬ (((min s.1.n 7:Nat):Int) < (s.1.n:Int)):=by omega
    exact aR (decide_eq_false this)
   ·have h1:((min s.1.n 7:Nat):Int) < (s.1.n:Int):=by omega
    have h2:¬ ((min s.1.n 7:Nat):Int) < 7:=by omega
    exact (aq (decide_eq_true h1)).trans (aR (decide_eq_false h2))
 unfold Yz Q16
 cases hc:(List.range (min s.1.n 7)).all c with
 | false =>
  rw [hc] at key
  exact ⟨false,(congrArg (fun o=>aF o 0 _ (bS o _ _)) key).trans rfl,fun h=>by cases h⟩
 | true =>
  rw [hc] at key
  refine ⟨decide ((s.1.n:Int)<=6),(bp key).trans rfl,fun h=>?_⟩
  have h:=of_decide_eq_true h
  refine ⟨by omega,fun t ht=>?_⟩
  have:=mQ hc (j:=t) (by omega)
  have:(!decide ((5:Int) < (((s.1.g t).2.1.n:Nat):Int)))=true:=this
  simp at this
  omega
end Go.Dm

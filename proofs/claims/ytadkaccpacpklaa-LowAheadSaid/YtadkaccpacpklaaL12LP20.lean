/- Truths: their shape. -/
import Derived.Test.YtadkaccpacpklaaL12LP14
set_option linter.unusedVariables false
set_option linter.unusedSimpArgs false
namespace Go.Dm
set_option maxRecDepth 100000
open Go.Low
variable {s:tS.den} {o:cT}
theorem anr:∃ b:Bool,M91 (no_index (o,()))=some (b,())/\(b=true->o.n<=6/\∀ t,t < o.n->(o.g t).1.n<=5):=by
 let c:Nat->Bool:=fun j=>!decide ((5:Int) < (((o.g j).1.n:Nat):Int))
 have key:ahg (o,()) ((0:Int),())=bif (List.range (min o.n 7)).all c then .exit 0 () else LQ.ret (wy:=Rk) (show (aa Rk.ret).den from (false,())):=by
  unfold ahg
  refine dX (ps:=CT) (n:=min o.n 7) (f:=fun j=>((j:Int),())) (c:=c) (by unfold cz; omega) (fun j hj _=>?_) (fun _=>?_)
  ·unfold ahf ahe
   have hj1:j < o.n:=by omega
   have hj7:(j:Int) < 7:=by omega
   refine (aq (decide_eq_true (dW hj1))).trans ?_
   refine (aq (decide_eq_true hj7)).trans ?_
   refine (aq (decide_eq_true (aQ hj1))).trans ?_
   show _=bif c j then _ else _
   by_cases c1:(5:Int) < (((o.g j).1.n:Nat):Int)
   ·have:c j=false:=by show (!decide _)=false; rw [decide_eq_true c1]; rfl
    rw [this]
    exact aq (decide_eq_true c1)
   ·have:c j=true:=by show (!decide _)=true; rw [decide_eq_false c1]; rfl
    rw [this]
    refine (aR (decide_eq_false c1)).trans ?_
    exact congrArg (fun q:Int=>(RQ.next (show (aa CT).den from (q,())):RQ CT Rk)) (dR (n:=7) (by omega) (by omega))
  ·unfold ahf ahe
   by_cases h:o.n<=7
   ·have:¬ (((min o.n 7:Nat):Int) < (o.n:Int)):=by omega
    exact aR (decide_eq_false this)
   ·have h1:((min o.n 7:Nat):Int) < (o.n:Int):=by omega
    have h2:¬ ((min o.n 7:Nat):Int) < 7:=by omega
    exact (aq (decide_eq_true h1)).trans (aR (decide_eq_false h2))
 unfold M91 Q91
 cases hc:(List.range (min o.n 7)).all c with
 | false =>
  rw [hc] at key
  exact ⟨false,(congrArg (fun o=>aF o 0 _ (bS o _ _)) key).trans rfl,fun h=>by cases h⟩
 | true =>
  rw [hc] at key
  refine ⟨decide ((o.n:Int)<=6),(bp key).trans rfl,fun h=>?_⟩
  have h:=of_decide_eq_true h
  refine ⟨by omega,fun t ht=>?_⟩
  have:=mQ hc (j:=t) (by omega)
  have:(!decide ((5:Int) < (((o.g t).1.n:Nat):Int)))=true:=this
  simp at this
  omega
structure vB (o:cT):Prop where
 n:o.n<=6
 k:∀ t,t < o.n->(o.g t).1.n<=5
variable {A X Y D:cT}
theorem aI0:∃ b:Bool,M50 (no_index ((A,(X,(Y,(D,())))),()))=some (b,())/\(b=true->vB A/\vB X/\vB Y/\vB D):=by
 unfold M50 Q50
 obtain ⟨b1,h1,g1⟩:=anr (o:=A)
 obtain ⟨b2,h2,g2⟩:=anr (o:=X)
 obtain ⟨b3,h3,g3⟩:=anr (o:=Y)
 obtain ⟨b4,h4,g4⟩:=anr (o:=D)
 cases b1 with
 | false=>exact ⟨false,(aK h1).trans rfl,fun h=>by cases h⟩
 | true =>
  cases b2 with
  | false=>exact ⟨false,(aK h1).trans ((aq rfl).trans ((aK h2).trans rfl)),fun h=>by cases h⟩
  | true =>
   cases b3 with
   | false=>exact ⟨false,(aK h1).trans ((aq rfl).trans ((aK h2).trans ((aq rfl).trans ((aK h3).trans rfl)))),fun h=>by cases h⟩
   | true =>
    refine ⟨b4,(aK h1).trans ((aq rfl).trans ((aK h2).trans ((aq rfl).trans ((aK h3).trans ((aq rfl).trans ((aK h4).trans rfl)))))),fun h=>?_⟩
    exact ⟨⟨(g1 rfl).1,(g1 rfl).2⟩,⟨(g2 rfl).1,(g2 rfl).2⟩,⟨(g3 rfl).1,(g3 rfl).2⟩,⟨(g4 h).1,(g4 h).2⟩⟩
def gM (s:tS.den) (o:cT):Bool:=decide (((o.n:Nat):Int)=((s.1.n:Nat):Int)) && (List.range o.n).all fun j=>decide ((((o.g j).1.n:Nat):Int)=(((s.1.g j).2.1.n:Nat):Int))
theorem Kg (h:gM s o=true):PC s o:=by
 unfold gM at h
 rw [Bool.and_eq_true] at h
 have h1:=of_decide_eq_true h.1
 exact ⟨by omega,fun t ht=>by have:=of_decide_eq_true (mQ h.2 (j:=t) (by omega)); omega⟩
theorem ans (hb:vB o):M92 (no_index (s,(o,())))=some (gM s o,()):=by
 unfold M92 Q92 gM
 have hn:=hb.n
 by_cases hl:((o.n:Nat):Int)=((s.1.n:Nat):Int)
 ·refine (aR (show (!decide (((o.n:Nat):Int)=((s.1.n:Nat):Int)))=false by rw [decide_eq_true hl]; rfl)).trans ?_
  rw [decide_eq_true hl,Bool.true_and]
  have key:ahk (o,((),(s,()))) ((0:Int),())=bif (List.range o.n).all (fun j=>decide ((((o.g j).1.n:Nat):Int)=(((s.1.g j).2.1.n:Nat):Int))) then .exit 0 () else LQ.ret (wy:=Rl) (show (aa Rl.ret).den from (false,())):=by
   unfold ahk
   refine dX (ps:=CU) (n:=o.n) (f:=fun j=>((j:Int),())) (by unfold cz; omega) (fun j hj _=>?_) (fun _=>?_)
   ·unfold ahj ahi
    refine (aq (decide_eq_true (dW hj))).trans ?_
    refine (aq (decide_eq_true (aQ hj))).trans ?_
    refine (aq (decide_eq_true (aQ (n:=s.1.n) (by omega)))).trans ?_
    have Ew:(RQ.next (show (aa CU).den from (W ((j:Int) + 1),())):RQ CU Rl) = .next (((j + 1:Nat):Int),()):=by rw [dR hj (by omega)]
    by_cases c:(((o.g j).1.n:Nat):Int)=(((s.1.g j).2.1.n:Nat):Int)
    ·refine (aR (show (!decide ((((o.g j).1.n:Nat):Int)=(((s.1.g j).2.1.n:Nat):Int)))=false by rw [decide_eq_true c]; rfl)).trans ?_
     rw [decide_eq_true c]; exact Ew
    ·refine (aq (show (!decide ((((o.g j).1.n:Nat):Int)=(((s.1.g j).2.1.n:Nat):Int)))=true by rw [decide_eq_false c]; rfl)).trans ?_
     rw [decide_eq_false c]; rfl
   ·unfold ahj ahi
    have:¬ ((o.n:Int) < (o.n:Int)):=by omega
    exact aR (decide_eq_false this)
  revert key
  cases (List.range o.n).all (fun j=>decide ((((o.g j).1.n:Nat):Int)=(((s.1.g j).2.1.n:Nat):Int))) with
  | true=>intro key; exact (bp key).trans rfl
  | false=>intro key; exact (congrArg (fun o=>aF o 0 _ (bS o _ _)) key).trans rfl
 ·refine (aq (show (!decide (((o.n:Nat):Int)=((s.1.n:Nat):Int)))=true by rw [decide_eq_false hl]; rfl)).trans ?_
  rw [decide_eq_false hl]; rfl
theorem aI1 (hb:vB o):M93 (no_index (s,(o,())))=some (gM s o,()):=by
 have hn:=hb.n
 have aDv:akw (o,(s.1,((fun y1=>((ayI y1),(ayJ y1))),())))=some (gM s o,()):=by
  unfold akw ayG gM
  by_cases hl:((o.n:Nat):Int)=((s.1.n:Nat):Int)
  ·refine (aR (show (!decide (((o.n:Nat):Int)=((s.1.n:Nat):Int)))=false by rw [decide_eq_true hl]; rfl)).trans ?_
   rw [decide_eq_true hl,Bool.true_and]
   have key:aaG (s.1,((fun y1=>((ayI y1),(ayJ y1))),(o,(((o.n:Nat):Int),())))) ((0:Int),())=bif (List.range o.n).all (fun j=>decide ((((o.g j).1.n:Nat):Int)=(((s.1.g j).2.1.n:Nat):Int))) then .exit 0 () else LQ.ret (wy:=LN) (show (aa LN.ret).den from (false,())):=by
    unfold aaG
    refine dX (ps:=wC) (n:=o.n) (f:=fun j=>((j:Int),())) (by unfold cz; omega) (fun j hj _=>?_) (fun _=>?_)
    ·unfold aaF aaE
     refine (aq (decide_eq_true (dW hj))).trans ?_
     refine (aq (decide_eq_true (aQ hj))).trans ?_
     refine (aq (decide_eq_true (aQ (n:=s.1.n) (by omega)))).trans ?_
     refine (aq rfl).trans ?_
     have Ew:(RQ.next (show (aa wC).den from (W ((j:Int) + 1),())):RQ wC LN) = .next (((j + 1:Nat):Int),()):=by rw [dR hj (by omega)]
     by_cases c:(((o.g j).1.n:Nat):Int)=(((s.1.g j).2.1.n:Nat):Int)
     ·refine (aR (show (!decide ((((o.g j).1.n:Nat):Int)=(((s.1.g j).2.1.n:Nat):Int)))=false by rw [decide_eq_true c]; rfl)).trans ?_
      rw [decide_eq_true c]; exact Ew
     ·refine (aq (show (!decide ((((o.g j).1.n:Nat):Int)=(((s.1.g j).2.1.n:Nat):Int)))=true by rw [decide_eq_false c]; rfl)).trans ?_
      rw [decide_eq_false c]; rfl
    ·unfold aaF aaE
     have:¬ ((o.n:Int) < (o.n:Int)):=by omega
     exact aR (decide_eq_false this)
   revert key
   cases (List.range o.n).all (fun j=>decide ((((o.g j).1.n:Nat):Int)=(((s.1.g j).2.1.n:Nat):Int))) with
   | true=>intro key; exact (bp key).trans rfl
   | false=>intro key; exact (congrArg (fun o=>aF o 0 _ (bS o _ _)) key).trans rfl
  ·refine (aq (show (!decide (((o.n:Nat):Int)=((s.1.n:Nat):Int)))=true by rw [decide_eq_false hl]; rfl)).trans ?_
   rw [decide_eq_false hl]; rfl
 unfold M93 Q93
 exact (aK aDv).trans rfl
def bef (s:tS.den):Nat->Nat
 | 0=>0
 | t + 1=>(s.1.g t).2.1.n
def VX (s:tS.den) (o:cT) (t i:Nat):Bool:=oV (show Int from ((o.g t).1.g i).1) (-1) (((bef s t:Nat):Int) - 1)
def Xe (s:tS.den) (o:cT):Bool:=(List.range o.n).all fun t=>(List.range (o.g t).1.n).all (VX s o t)
theorem wB {s:tS.den} {o:cT} {t:Nat} (h:(s.1.g t).2.1.n<=1000):W ((((s.1.g t).2.1.n:Nat):Int) - 1)=(((s.1.g t).2.1.n:Nat):Int) - 1:=gQ ⟨by omega,by omega⟩
theorem aDK (hb:vB o) (hn:o.n=s.1.n) (hk:∀ t,t < s.1.n->(s.1.g t).2.1.n<=1000) {t:Nat} (ht:t < o.n) :
  OP (o,((),((t:Int),(s,())))) ((0:Int),())=bif (List.range (o.g t).1.n).all (VX s o t) then .exit 2 () else LQ.ret (wy:=pL) (show (aa pL.ret).den from (false,())):=by
 have hbk:=hb.k t ht
 have hbn:=hb.n
 unfold OP
 refine dX (ps:=mg) (n:=(o.g t).1.n) (f:=fun j=>((j:Int),())) (by unfold cz; omega) (fun j hj _=>?_) (fun _=>?_)
 ·unfold Uv Uu
  refine (aq (decide_eq_true (aQ ht))).trans ?_
  refine (aq (decide_eq_true (dW hj))).trans ?_
  have Ew:(RQ.next (show (aa mg).den from (W ((j:Int) + 1),())):RQ mg pL) = .next (((j + 1:Nat):Int),()):=by rw [dR hj (by omega)]
  have fin:∀ b:Bool,(bif !b then (RQ.out (LQ.ret (show (aa pL.ret).den from (false,()))):RQ mg pL) else RQ.next (show (aa mg).den from (W ((j:Int) + 1),())))=bif b then .next (((j + 1:Nat):Int),()) else .out (LQ.ret (show (aa pL.ret).den from (false,()))):=fun b=>by
   cases b with
   | false=>rfl
   | true=>exact Ew
  cases t with
  | zero =>
   refine (aR (decide_eq_false (by omega:¬ ((0:Int) < ((0:Nat):Int))))).trans ?_
   refine (aq (decide_eq_true (aQ ht))).trans ?_
   refine (aq (decide_eq_true (aQ hj))).trans ?_
   refine (aK (uW _ _ _)).trans ?_
   exact fin (VX s o 0 j)
  | succ u =>
   have wp:=wo (n:=s.1.n) (by omega) (show u + 1 < s.1.n by omega)
   refine (aq (decide_eq_true (by omega:(0:Int) < ((u + 1:Nat):Int)))).trans ?_
   have key:∀ w:Int,w=(u:Int)->∀ (a b c d:RQ mg pL),(bif decide ((0:Int)<=w/\w < ((s.1.n:Nat):Int)) then bif decide ((0:Int)<=((u + 1:Nat):Int)/\((u + 1:Nat):Int) < ((o.n:Nat):Int)) then bif decide ((0:Int)<=(j:Int)/\(j:Int) < (((o.g (u + 1)).1.n:Nat):Int)) then
     cl (Kj).dflt (MC (((o.g (u + 1)).1.g j).1,((-1:Int),((W ((((s.1.g (Int.toNat w)).2.1.n:Nat):Int) - 1)),())))) (fun u0=>bif (!u0.1) then (RQ.out (LQ.ret (show (aa pL.ret).den from (false,()))):RQ mg pL) else RQ.next (show (aa mg).den from (W ((j:Int) + 1),()))) a else b else c else d)=bif VX s o (u + 1) j then .next (((j + 1:Nat):Int),()) else .out (LQ.ret (show (aa pL.ret).den from (false,()))):=fun w hw a b c d=>by
    subst hw
    refine (aq (decide_eq_true (aQ (by omega)))).trans ?_
    refine (aq (decide_eq_true (aQ ht))).trans ?_
    refine (aq (decide_eq_true (aQ hj))).trans ?_
    refine (aK (uW _ _ _)).trans ?_
    have e:W ((((s.1.g u).2.1.n:Nat):Int) - 1)=(((s.1.g u).2.1.n:Nat):Int) - 1:=wB (o:=o) (hk u (by omega))
    show (bif !(oV (show Int from ((o.g (u + 1)).1.g j).1) (-1) (W ((((s.1.g u).2.1.n:Nat):Int) - 1))) then _ else _)=_
    rw [e]
    exact fin (VX s o (u + 1) j)
   exact key _ wp _ _ _ _
 ·unfold Uv Uu
  refine (aq (decide_eq_true (aQ ht))).trans ?_
  have:¬ ((((o.g t).1.n:Nat):Int) < (((o.g t).1.n:Nat):Int)):=by omega
  exact aR (decide_eq_false this)
def Rs (s:tS.den) (o:cT):Bool:=gM s o && Xe s o
theorem aI2 (hb:vB o) (hk:∀ t,t < s.1.n->(s.1.g t).2.1.n<=1000):M60 (no_index (s,(o,())))=some (Rs s o,()):=by
 unfold M60 Q60 Rs
 refine (aK (ans hb)).trans ?_
 cases hr:gM s o with
 | false=>exact aq rfl
 | true =>
  refine (aR rfl).trans ?_
  have hn:=(Kg hr).n
  have hbn:=hb.n
  have key:ahp (o,((),(s,()))) ((0:Int),())=bif Xe s o then .exit 0 () else LQ.ret (wy:=Rm) (show (aa Rm.ret).den from (false,())):=by
   unfold ahp Xe
   refine dX (ps:=CV) (n:=o.n) (f:=fun j=>((j:Int),())) (by unfold cz; omega) (fun j hj _=>?_) (fun _=>?_)
   ·unfold aho ahn
    refine (aq (decide_eq_true (dW hj))).trans ?_
    have Ew:(RQ.next (show (aa CV).den from (W ((j:Int) + 1),())):RQ CV Rm) = .next (((j + 1:Nat):Int),()):=by rw [dR hj (by omega)]
    have hin:=aDK hb hn hk hj
    revert hin
    cases (List.range (o.g j).1.n).all (VX s o j) with
    | true=>intro hin; exact (bp hin).trans Ew
    | false=>intro hin; exact (congrArg (fun o=>aF o 2 _ (bS o _ _)) hin).trans rfl
   ·unfold aho ahn
    have:¬ ((o.n:Int) < (o.n:Int)):=by omega
    exact aR (decide_eq_false this)
  revert key
  cases Xe s o with
  | true=>intro key; exact (bp key).trans rfl
  | false=>intro key; exact (congrArg (fun o=>aF o 0 _ (bS o _ _)) key).trans rfl
def LS (s:tS.den) (A X Y D:cT):Bool:=Rs s A && (gM s X && (gM s Y && gM s D))
theorem aI3 (hA:vB A) (hX:vB X) (hY:vB Y) (hD:vB D) (hk:∀ t,t < s.1.n->(s.1.g t).2.1.n<=1000):M51 (no_index (s,((A,(X,(Y,(D,())))),())))=some (LS s A X Y D,()):=by
 unfold M51 Q51 LS
 refine (aK (aI2 hA hk)).trans ?_
 cases Rs s A with
 | false=>exact aR rfl
 | true =>
  refine (aq rfl).trans ?_
  refine (aK (ans hX)).trans ?_
  cases gM s X with
  | false=>exact aR rfl
  | true =>
   refine (aq rfl).trans ?_
   refine (aK (ans hY)).trans ?_
   cases gM s Y with
   | false=>exact aR rfl
   | true =>
    refine (aq rfl).trans ?_
    exact (aK (ans hD)).trans rfl
end Go.Dm

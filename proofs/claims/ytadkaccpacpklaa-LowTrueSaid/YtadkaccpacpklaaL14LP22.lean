/-
 Of the plain law.
-/
import Derived.Test.YtadkaccpacpklaaL14LP18
set_option linter.unusedVariables false
set_option linter.unusedSimpArgs false
namespace Go.Dm
set_option maxRecDepth 100000
open Go.Low
variable {s:tS.den}
theorem wd3 {c a:Nat} (h:0 < a):decide (wd c a=3)=decide (c=a):=by
 unfold wd
 by_cases h1:c=0
 ·subst h1
  rw [decide_eq_false (by omega:¬ (0=a))]; rfl
 ·rw [decide_eq_false (by omega:¬ (((c:Nat):Int)=0)),cond_false]
  by_cases h2:c=a
  ·rw [decide_eq_true (by omega:((c:Nat):Int)=((a:Nat):Int)),decide_eq_true h2]; rfl
  ·rw [decide_eq_false (by omega:¬ (((c:Nat):Int)=((a:Nat):Int))),decide_eq_false h2]; rfl
theorem wd1 (c a:Nat):(!decide (wd c a=1))=decide (¬ c=0):=by
 unfold wd
 by_cases h1:c=0
 ·subst h1; rfl
 ·rw [decide_eq_false (by omega:¬ (((c:Nat):Int)=0)),cond_false,decide_eq_true h1]
  cases decide (((c:Nat):Int)=((a:Nat):Int)) <;> rfl
theorem azj (s:tS.den) (t:Nat):(Cl s t).n=(s.1.g (t + 1)).2.1.n:=aa3 _ _ _
theorem azk {t i:Nat} (hi:i < (s.1.g (t + 1)).2.1.n):(Cl s t).g i=(RH (s.1.g t).2.1.n (fun j=>wd (cS s (t + 1) i (j:Int)) (nL s)),()):=aoW hi
theorem an3 (s:tS.den):(Kt s).n=s.1.n - 1:=aa3 _ _ _
theorem aFF {t:Nat} (ht:t + 1 < s.1.n):(Kt s).g t=(RH (s.1.g (t + 1)).2.1.n (fun i=>wd (cS s (t + 1) i (-1)) (nL s)),()):=aoW (i:=t) (by omega)
theorem aKx (s:tS.den):(Xg s).n=s.1.n - 1:=aa3 _ _ _
theorem aKy {t:Nat} (ht:t + 1 < s.1.n):(Xg s).g t=(RH (s.1.g t).2.1.n (fun i=>wd (cE s t i) (nL s)),()):=aoW (i:=t) (by omega)
theorem aKv (hs:(cB s).Ok) {t:Nat} (ht:t + 1 < s.1.n):M31 (no_index (Cl s t,((((s.1.g (t + 1)).2.1.n:Nat):Int),((((s.1.g t).2.1.n:Nat):Int),()))))=some (true,()):=by
 have hk:=dN hs ht
 have hn:=azj s t
 have key:aAr (Cl s t,((((s.1.g (t + 1)).2.1.n:Nat):Int),((((s.1.g t).2.1.n:Nat):Int),()))) ((0:Int),()) = .exit 0 ():=by
  unfold aAr
  refine bQ (ps:=aaY) (Cl s t).n cz (fun j=>((j:Int),())) (by unfold cz; omega) (fun i hi=>?_) ?_
  ·have hg:((((Cl s t).g i).1.n:Nat):Int)=(((s.1.g t).2.1.n:Nat):Int):=by rw [azk (by omega)]; dsimp only; rw [PD]
   unfold aAq aAp
   refine (aq (decide_eq_true (dW hi))).trans ?_
   refine (aq (decide_eq_true (aQ hi))).trans ?_
   refine (aR (show (!decide (((((Cl s t).g i).1.n:Nat):Int)=(((s.1.g t).2.1.n:Nat):Int)))=false by rw [decide_eq_true hg]; rfl)).trans ?_
   exact congrArg (fun q:Int=>(RQ.next (show (aa aaY).den from (q,())):RQ aaY atu)) (dR hi (by omega))
  ·unfold aAq aAp
   have:¬ (((Cl s t).n:Int) < ((Cl s t).n:Int)):=by omega
   exact aR (decide_eq_false this)
 unfold M31 Q31
 refine (bp key).trans ?_
 show some (decide ((((Cl s t).n:Nat):Int)=(((s.1.g (t + 1)).2.1.n:Nat):Int)),())=_
 rw [hn,decide_eq_true rfl]
theorem nb {a b:Int} (h:a=b):(!decide (a=b))=false:=by rw [decide_eq_true h]; rfl
end Go.Dm
namespace Go.Dm
set_option maxRecDepth 100000
open Go.Low
variable {s:tS.den} {o:cT}
theorem anr:∃ b:Bool,M91 (no_index (o,()))=some (b,())/\(b=true->o.n<=6/\∀ t,t < o.n->(o.g t).1.n<=5):=by
 let c:Nat->Bool:=fun j=>!decide ((5:Int) < (((o.g j).1.n:Nat):Int))
 have key:ahg (o,()) ((0:Int),())=bif (List.range (min o.n 7)).all c then .exit 0 () else LQ.ret (wy:=Rk) (show (aa Rk.ret).den from (false,())):=by
  unfold ahg
  refine dX (ps:=CT) (n:=min o.n 7) (f:=fun j=>((j:Int),())) (c:=c) (by unfold cz; omega) (fun j hj _=>?_) (fun _=>?_)
  ·unfold ahf ahe
   have hj1:j < o.n:=by omega
   have hj7:(j:Int) < 7:=by omega
   refine (aq (decide_eq_true (dW hj1))).trans ?_
   refine (aq (decide_eq_true hj7)).trans ?_
   refine (aq (decide_eq_true (aQ hj1))).trans ?_
   show _=bif c j then _ else _
   by_cases c1:(5:Int) < (((o.g j).1.n:Nat):Int)
   ·have:c j=false:=by show (!decide _)=false; rw [decide_eq_true c1]; rfl
    rw [this]
    exact aq (decide_eq_true c1)
   ·have:c j=true:=by show (!decide _)=true; rw [decide_eq_false c1]; rfl
    rw [this]
    refine (aR (decide_eq_false c1)).trans ?_
    exact congrArg (fun q:Int=>(RQ.next (show (aa CT).den from (q,())):RQ CT Rk)) (dR (n:=7) (by omega) (by omega))
  ·unfold ahf ahe
   by_cases h:o.n<=7
   ·have:¬ (((min o.n 7:Nat):Int) < (o.n:Int)):=by omega
    exact aR (decide_eq_false this)
   ·have h1:((min o.n 7:Nat):Int) < (o.n:Int):=by omega
    have h2:¬ ((min o.n 7:Nat):Int) < 7:=by omega
    exact (aq (decide_eq_true h1)).trans (aR (decide_eq_false h2))
 unfold M91 Q91
 cases hc:(List.range (min o.n 7)).all c with
 | false =>
  rw [hc] at key
  exact ⟨false,(congrArg (fun o=>aF o 0 _ (bS o _ _)) key).trans rfl,fun h=>by cases h⟩
 | true =>
  rw [hc] at key
  refine ⟨decide ((o.n:Int)<=6),(bp key).trans rfl,fun h=>?_⟩
  have h:=of_decide_eq_true h
  refine ⟨by omega,fun t ht=>?_⟩
  have:=mQ hc (j:=t) (by omega)
  have:(!decide ((5:Int) < (((o.g t).1.n:Nat):Int)))=true:=this
  simp at this
  omega
structure vB (o:cT):Prop where
 n:o.n<=6
 k:∀ t,t < o.n->(o.g t).1.n<=5
variable {A X Y D:cT}
theorem aI0:∃ b:Bool,M50 (no_index ((A,(X,(Y,(D,())))),()))=some (b,())/\(b=true->vB A/\vB X/\vB Y/\vB D):=by
 unfold M50 Q50
 obtain ⟨b1,h1,g1⟩:=anr (o:=A)
 obtain ⟨b2,h2,g2⟩:=anr (o:=X)
 obtain ⟨b3,h3,g3⟩:=anr (o:=Y)
 obtain ⟨b4,h4,g4⟩:=anr (o:=D)
 cases b1 with
 | false=>exact ⟨false,(aK h1).trans rfl,fun h=>by cases h⟩
 | true =>
  cases b2 with
  | false=>exact ⟨false,(aK h1).trans ((aq rfl).trans ((aK h2).trans rfl)),fun h=>by cases h⟩
  | true =>
   cases b3 with
   | false=>exact ⟨false,(aK h1).trans ((aq rfl).trans ((aK h2).trans ((aq rfl).trans ((aK h3).trans rfl)))),fun h=>by cases h⟩
   | true =>
    refine ⟨b4,(aK h1).trans ((aq rfl).trans ((aK h2).trans ((aq rfl).trans ((aK h3).trans ((aq rfl).trans ((aK h4).trans rfl)))))),fun h=>?_⟩
    exact ⟨⟨(g1 rfl).1,(g1 rfl).2⟩,⟨(g2 rfl).1,(g2 rfl).2⟩,⟨(g3 rfl).1,(g3 rfl).2⟩,⟨(g4 h).1,(g4 h).2⟩⟩
def gM (s:tS.den) (o:cT):Bool:=decide (((o.n:Nat):Int)=((s.1.n:Nat):Int)) && (List.range o.n).all fun j=>decide ((((o.g j).1.n:Nat):Int)=(((s.1.g j).2.1.n:Nat):Int))
theorem Kg (h:gM s o=true):PC s o:=by
 unfold gM at h
 rw [Bool.and_eq_true] at h
 have h1:=of_decide_eq_true h.1
 exact ⟨by omega,fun t ht=>by have:=of_decide_eq_true (mQ h.2 (j:=t) (by omega)); omega⟩
theorem ans (hb:vB o):M92 (no_index (s,(o,())))=some (gM s o,()):=by
 unfold M92 Q92 gM
 have hn:=hb.n
 by_cases hl:((o.n:Nat):Int)=((s.1.n:Nat):Int)
 ·refine (aR (show (!decide (((o.n:Nat):Int)=((s.1.n:Nat):Int)))=false by rw [decide_eq_true hl]; rfl)).trans ?_
  rw [decide_eq_true hl,Bool.true_and]
  have key:ahk (o,((),(s,()))) ((0:Int),())=bif (List.range o.n).all (fun j=>decide ((((o.g j).1.n:Nat):Int)=(((s.1.g j).2.1.n:Nat):Int))) then .exit 0 () else LQ.ret (wy:=Rl) (show (aa Rl.ret).den from (false,())):=by
   unfold ahk
   refine dX (ps:=CU) (n:=o.n) (f:=fun j=>((j:Int),())) (by unfold cz; omega) (fun j hj _=>?_) (fun _=>?_)
   ·unfold ahj ahi
    refine (aq (decide_eq_true (dW hj))).trans ?_
    refine (aq (decide_eq_true (aQ hj))).trans ?_
    refine (aq (decide_eq_true (aQ (n:=s.1.n) (by omega)))).trans ?_
    have Ew:(RQ.next (show (aa CU).den from (W ((j:Int) + 1),())):RQ CU Rl) = .next (((j + 1:Nat):Int),()):=by rw [dR hj (by omega)]
    by_cases c:(((o.g j).1.n:Nat):Int)=(((s.1.g j).2.1.n:Nat):Int)
    ·refine (aR (show (!decide ((((o.g j).1.n:Nat):Int)=(((s.1.g j).2.1.n:Nat):Int)))=false by rw [decide_eq_true c]; rfl)).trans ?_
     rw [decide_eq_true c]; exact Ew
    ·refine (aq (show (!decide ((((o.g j).1.n:Nat):Int)=(((s.1.g j).2.1.n:Nat):Int)))=true by rw [decide_eq_false c]; rfl)).trans ?_
     rw [decide_eq_false c]; rfl
   ·unfold ahj ahi
    have:¬ ((o.n:Int) < (o.n:Int)):=by omega
    exact aR (decide_eq_false this)
  revert key
  cases (List.range o.n).all (fun j=>decide ((((o.g j).1.n:Nat):Int)=(((s.1.g j).2.1.n:Nat):Int))) with
  | true=>intro key; exact (bp key).trans rfl
  | false=>intro key; exact (congrArg (fun o=>aF o 0 _ (bS o _ _)) key).trans rfl
 ·refine (aq (show (!decide (((o.n:Nat):Int)=((s.1.n:Nat):Int)))=true by rw [decide_eq_false hl]; rfl)).trans ?_
  rw [decide_eq_false hl]; rfl
theorem aI1 (hb:vB o):M93 (no_index (s,(o,())))=some (gM s o,()):=by
 have hn:=hb.n
 have aDv:akw (o,(s.1,((fun y1=>((ayI y1),(ayJ y1))),())))=some (gM s o,()):=by
  unfold akw ayG gM
  by_cases hl:((o.n:Nat):Int)=((s.1.n:Nat):Int)
  ·refine (aR (show (!decide (((o.n:Nat):Int)=((s.1.n:Nat):Int)))=false by rw [decide_eq_true hl]; rfl)).trans ?_
   rw [decide_eq_true hl,Bool.true_and]
   have key:aaG (s.1,((fun y1=>((ayI y1),(ayJ y1))),(o,(((o.n:Nat):Int),())))) ((0:Int),())=bif (List.range o.n).all (fun j=>decide ((((o.g j).1.n:Nat):Int)=(((s.1.g j).2.1.n:Nat):Int))) then .exit 0 () else LQ.ret (wy:=LN) (show (aa LN.ret).den from (false,())):=by
    unfold aaG
    refine dX (ps:=wC) (n:=o.n) (f:=fun j=>((j:Int),())) (by unfold cz; omega) (fun j hj _=>?_) (fun _=>?_)
    ·unfold aaF aaE
     refine (aq (decide_eq_true (dW hj))).trans ?_
     refine (aq (decide_eq_true (aQ hj))).trans ?_
     refine (aq (decide_eq_true (aQ (n:=s.1.n) (by omega)))).trans ?_
     refine (aq rfl).trans ?_
     have Ew:(RQ.next (show (aa wC).den from (W ((j:Int) + 1),())):RQ wC LN) = .next (((j + 1:Nat):Int),()):=by rw [dR hj (by omega)]
     by_cases c:(((o.g j).1.n:Nat):Int)=(((s.1.g j).2.1.n:Nat):Int)
     ·refine (aR (show (!decide ((((o.g j).1.n:Nat):Int)=(((s.1.g j).2.1.n:Nat):Int)))=false by rw [decide_eq_true c]; rfl)).trans ?_
      rw [decide_eq_true c]; exact Ew
     ·refine (aq (show (!decide ((((o.g j).1.n:Nat):Int)=(((s.1.g j).2.1.n:Nat):Int)))=true by rw [decide_eq_false c]; rfl)).trans ?_
      rw [decide_eq_false c]; rfl
    ·unfold aaF aaE
     have:¬ ((o.n:Int) < (o.n:Int)):=by omega
     exact aR (decide_eq_false this)
   revert key
   cases (List.range o.n).all (fun j=>decide ((((o.g j).1.n:Nat):Int)=(((s.1.g j).2.1.n:Nat):Int))) with
   | true=>intro key; exact (bp key).trans rfl
   | false=>intro key; exact (congrArg (fun o=>aF o 0 _ (bS o _ _)) key).trans rfl
  ·refine (aq (show (!decide (((o.n:Nat):Int)=((s.1.n:Nat):Int)))=true by rw [decide_eq_false hl]; rfl)).trans ?_
   rw [decide_eq_false hl]; rfl
 unfold M93 Q93
 exact (aK aDv).trans rfl
def bef (s:tS.den):Nat->Nat
 | 0=>0
 | t + 1=>(s.1.g t).2.1.n
def VX (s:tS.den) (o:cT) (t i:Nat):Bool:=oV (show Int from ((o.g t).1.g i).1) (-1) (((bef s t:Nat):Int) - 1)
def Xe (s:tS.den) (o:cT):Bool:=(List.range o.n).all fun t=>(List.range (o.g t).1.n).all (VX s o t)
theorem wB {s:tS.den} {o:cT} {t:Nat} (h:(s.1.g t).2.1.n<=1000):W ((((s.1.g t).2.1.n:Nat):Int) - 1)=(((s.1.g t).2.1.n:Nat):Int) - 1:=gQ ⟨by omega,by omega⟩
theorem aDK (hb:vB o) (hn:o.n=s.1.n) (hk:∀ t,t < s.1.n->(s.1.g t).2.1.n<=1000) {t:Nat} (ht:t < o.n) :
  OP (o,((),((t:Int),(s,())))) ((0:Int),())=bif (List.range (o.g t).1.n).all (VX s o t) then .exit 2 () else LQ.ret (wy:=pL) (show (aa pL.ret).den from (false,())):=by
 have hbk:=hb.k t ht
 have hbn:=hb.n
 unfold OP
 refine dX (ps:=mg) (n:=(o.g t).1.n) (f:=fun j=>((j:Int),())) (by unfold cz; omega) (fun j hj _=>?_) (fun _=>?_)
 ·unfold Uv Uu
  refine (aq (decide_eq_true (aQ ht))).trans ?_
  refine (aq (decide_eq_true (dW hj))).trans ?_
  have Ew:(RQ.next (show (aa mg).den from (W ((j:Int) + 1),())):RQ mg pL) = .next (((j + 1:Nat):Int),()):=by rw [dR hj (by omega)]
  have fin:∀ b:Bool,(bif !b then (RQ.out (LQ.ret (show (aa pL.ret).den from (false,()))):RQ mg pL) else RQ.next (show (aa mg).den from (W ((j:Int) + 1),())))=bif b then .next (((j + 1:Nat):Int),()) else .out (LQ.ret (show (aa pL.ret).den from (false,()))):=fun b=>by
   cases b with
   | false=>rfl
   | true=>exact Ew
  cases t with
  | zero =>
   refine (aR (decide_eq_false (by omega:¬ ((0:Int) < ((0:Nat):Int))))).trans ?_
   refine (aq (decide_eq_true (aQ ht))).trans ?_
   refine (aq (decide_eq_true (aQ hj))).trans ?_
   refine (aK (uW _ _ _)).trans ?_
   exact fin (VX s o 0 j)
  | succ u =>
   have wp:=wo (n:=s.1.n) (by omega) (show u + 1 < s.1.n by omega)
   refine (aq (decide_eq_true (by omega:(0:Int) < ((u + 1:Nat):Int)))).trans ?_
   have key:∀ w:Int,w=(u:Int)->∀ (a b c d:RQ mg pL),(bif decide ((0:Int)<=w/\w < ((s.1.n:Nat):Int)) then bif decide ((0:Int)<=((u + 1:Nat):Int)/\((u + 1:Nat):Int) < ((o.n:Nat):Int)) then bif decide ((0:Int)<=(j:Int)/\(j:Int) < (((o.g (u + 1)).1.n:Nat):Int)) then
     cl (Kj).dflt (MC (((o.g (u + 1)).1.g j).1,((-1:Int),((W ((((s.1.g (Int.toNat w)).2.1.n:Nat):Int) - 1)),())))) (fun u0=>bif (!u0.1) then (RQ.out (LQ.ret (show (aa pL.ret).den from (false,()))):RQ mg pL) else RQ.next (show (aa mg).den from (W ((j:Int) + 1),()))) a else b else c else d)=bif VX s o (u + 1) j then .next (((j + 1:Nat):Int),()) else .out (LQ.ret (show (aa pL.ret).den from (false,()))):=fun w hw a b c d=>by
    subst hw
    refine (aq (decide_eq_true (aQ (by omega)))).trans ?_
    refine (aq (decide_eq_true (aQ ht))).trans ?_
    refine (aq (decide_eq_true (aQ hj))).trans ?_
    refine (aK (uW _ _ _)).trans ?_
    have e:W ((((s.1.g u).2.1.n:Nat):Int) - 1)=(((s.1.g u).2.1.n:Nat):Int) - 1:=wB (o:=o) (hk u (by omega))
    show (bif !(oV (show Int from ((o.g (u + 1)).1.g j).1) (-1) (W ((((s.1.g u).2.1.n:Nat):Int) - 1))) then _ else _)=_
    rw [e]
    exact fin (VX s o (u + 1) j)
   exact key _ wp _ _ _ _
 ·unfold Uv Uu
  refine (aq (decide_eq_true (aQ ht))).trans ?_
  have:¬ ((((o.g t).1.n:Nat):Int) < (((o.g t).1.n:Nat):Int)):=by omega
  exact aR (decide_eq_false this)
def Rs (s:tS.den) (o:cT):Bool:=gM s o && Xe s o
theorem aI2 (hb:vB o) (hk:∀ t,t < s.1.n->(s.1.g t).2.1.n<=1000):M60 (no_index (s,(o,())))=some (Rs s o,()):=by
 unfold M60 Q60 Rs
 refine (aK (ans hb)).trans ?_
 cases hr:gM s o with
 | false=>exact aq rfl
 | true =>
  refine (aR rfl).trans ?_
  have hn:=(Kg hr).n
  have hbn:=hb.n
  have key:ahp (o,((),(s,()))) ((0:Int),())=bif Xe s o then .exit 0 () else LQ.ret (wy:=Rm) (show (aa Rm.ret).den from (false,())):=by
   unfold ahp Xe
   refine dX (ps:=CV) (n:=o.n) (f:=fun j=>((j:Int),())) (by unfold cz; omega) (fun j hj _=>?_) (fun _=>?_)
   ·unfold aho ahn
    refine (aq (decide_eq_true (dW hj))).trans ?_
    have Ew:(RQ.next (show (aa CV).den from (W ((j:Int) + 1),())):RQ CV Rm) = .next (((j + 1:Nat):Int),()):=by rw [dR hj (by omega)]
    have hin:=aDK hb hn hk hj
    revert hin
    cases (List.range (o.g j).1.n).all (VX s o j) with
    | true=>intro hin; exact (bp hin).trans Ew
    | false=>intro hin; exact (congrArg (fun o=>aF o 2 _ (bS o _ _)) hin).trans rfl
   ·unfold aho ahn
    have:¬ ((o.n:Int) < (o.n:Int)):=by omega
    exact aR (decide_eq_false this)
  revert key
  cases Xe s o with
  | true=>intro key; exact (bp key).trans rfl
  | false=>intro key; exact (congrArg (fun o=>aF o 0 _ (bS o _ _)) key).trans rfl
def LS (s:tS.den) (A X Y D:cT):Bool:=Rs s A && (gM s X && (gM s Y && gM s D))
theorem aI3 (hA:vB A) (hX:vB X) (hY:vB Y) (hD:vB D) (hk:∀ t,t < s.1.n->(s.1.g t).2.1.n<=1000):M51 (no_index (s,((A,(X,(Y,(D,())))),())))=some (LS s A X Y D,()):=by
 unfold M51 Q51 LS
 refine (aK (aI2 hA hk)).trans ?_
 cases Rs s A with
 | false=>exact aR rfl
 | true =>
  refine (aq rfl).trans ?_
  refine (aK (ans hX)).trans ?_
  cases gM s X with
  | false=>exact aR rfl
  | true =>
   refine (aq rfl).trans ?_
   refine (aK (ans hY)).trans ?_
   cases gM s Y with
   | false=>exact aR rfl
   | true =>
    refine (aq rfl).trans ?_
    exact (aK (ans hD)).trans rfl
end Go.Dm
namespace Go.Dm
set_option maxRecDepth 100000
open Go.Low
variable {s:tS.den} {A X Y D:cT}
def ap (r:cT) (t i:Nat):Int:=((r.g t).1.g i).1
abbrev V3:=Int×Int×Int×Unit
def tv (X Y D:cT) (t i:Nat):V3:=(ap X t i,(ap Y t i,(ap D t i,())))
def bx3 (v:V3) (b:B6):Bool:=(List.range 3).all fun j=>oV (List.getD [v.1,v.2.1,v.2.2.1] (0 + j * 1) v.1) (List.getD [b.1,b.2.1,b.2.2.1,b.2.2.2.1,b.2.2.2.2.1,b.2.2.2.2.2.1] (j * 2) b.1) (List.getD [b.2.1,b.2.2.1,b.2.2.2.1,b.2.2.2.2.1,b.2.2.2.2.2.1] (j * 2) b.1)
theorem Yu {v:V3} {b:B6}:bx3 v b=true↔(b.1<=v.1/\v.1<=b.2.1)/\(b.2.2.1<=v.2.1/\v.2.1<=b.2.2.2.1)/\(b.2.2.2.2.1<=v.2.2.1/\v.2.2.1<=b.2.2.2.2.2.1):=by
 show (oV v.1 b.1 b.2.1 && (oV v.2.1 b.2.2.1 b.2.2.2.1 && (oV v.2.2.1 b.2.2.2.2.1 b.2.2.2.2.2.1 && true)))=true↔_
 simp only [oV,Bool.and_true,Bool.and_eq_true,decide_eq_true_eq]
theorem aI4 (c:(aa oL).den):xG c ((0:Int),())=bif bx3 c.2.2.2.2.2.2.2.2.2.2.2.2.2.2.2.2.2.2.1 c.2.2.2.2.2.2.2.2.2.2.2.2.2.2.1 then .exit 10 () else LQ.ret (wy:=su) (show (aa su.ret).den from (false,((0:Int),()))):=by
 unfold xG bx3
 refine dX (ps:=mG) (n:=3) (f:=fun j=>((j:Int),())) (by unfold cz; omega) (fun j hj _=>?_) (fun _=>?_)
 ·have Ew:(RQ.next (show (aa mG).den from (W ((j:Int) + 1),())):RQ mG su) = .next (((j + 1:Nat):Int),()):=by rw [dR hj (by omega)]
  unfold JY JX
  refine (aq (decide_eq_true (by omega:(j:Int) < 3))).trans ?_
  refine (aq (decide_eq_true (by omega:(j:Int) < 3/\(0:Int)<=(j:Int)))).trans ?_
  refine (aq (decide_eq_true (by omega:j * 2 + 2<=6))).trans ?_
  refine (aq (decide_eq_true (by omega:(0:Int)<=(j:Int)/\(j:Int) < 3))).trans ?_
  refine (aq (decide_eq_true (by omega:0 + j * 1 < 3))).trans ?_
  refine (aK (zk _ _ _)).trans ?_
  generalize hb:oV _ _ _=b
  have hb':oV (List.getD [c.2.2.2.2.2.2.2.2.2.2.2.2.2.2.2.2.2.2.1.1,c.2.2.2.2.2.2.2.2.2.2.2.2.2.2.2.2.2.2.1.2.1,c.2.2.2.2.2.2.2.2.2.2.2.2.2.2.2.2.2.2.1.2.2.1] (0 + j * 1) c.2.2.2.2.2.2.2.2.2.2.2.2.2.2.2.2.2.2.1.1) (List.getD [c.2.2.2.2.2.2.2.2.2.2.2.2.2.2.1.1,c.2.2.2.2.2.2.2.2.2.2.2.2.2.2.1.2.1,c.2.2.2.2.2.2.2.2.2.2.2.2.2.2.1.2.2.1,c.2.2.2.2.2.2.2.2.2.2.2.2.2.2.1.2.2.2.1,c.2.2.2.2.2.2.2.2.2.2.2.2.2.2.1.2.2.2.2.1,c.2.2.2.2.2.2.2.2.2.2.2.2.2.2.1.2.2.2.2.2.1] (j * 2) c.2.2.2.2.2.2.2.2.2.2.2.2.2.2.1.1) (List.getD [c.2.2.2.2.2.2.2.2.2.2.2.2.2.2.1.2.1,c.2.2.2.2.2.2.2.2.2.2.2.2.2.2.1.2.2.1,c.2.2.2.2.2.2.2.2.2.2.2.2.2.2.1.2.2.2.1,c.2.2.2.2.2.2.2.2.2.2.2.2.2.2.1.2.2.2.2.1,c.2.2.2.2.2.2.2.2.2.2.2.2.2.2.1.2.2.2.2.2.1] (j * 2) c.2.2.2.2.2.2.2.2.2.2.2.2.2.2.1.1)=b:=hb
  rw [hb']
  cases b with
  | false=>rfl
  | true=>exact Ew
 ·unfold JY JX
  exact aR (decide_eq_false (by omega:¬ (((3:Nat):Int) < 3)))
def df3 (v u w:V3):Bool:=(List.range 3).all fun j=>oV (W ((List.getD [v.1,v.2.1,v.2.2.1] (0 + j * 1) v.1) - (List.getD [u.1,u.2.1,u.2.2.1] (0 + j * 1) u.1))) (W ((0:Int) - (List.getD [w.1,w.2.1,w.2.2.1] (j * 1) w.1))) (List.getD [w.1,w.2.1,w.2.2.1] (j * 1) w.1)
theorem aSH (c:(aa pU).den):AJ c ((0:Int),())=bif df3 c.2.2.2.2.2.2.2.2.2.2.2.2.2.2.2.2.2.2.2.1 c.2.2.2.2.2.2.2.2.2.2.2.2.2.2.2.2.2.2.2.2.1 c.2.2.2.2.2.2.2.2.2.2.2.2.2.2.2.1 then .exit 12 () else LQ.ret (wy:=sw) (show (aa sw.ret).den from (false,((0:Int),()))):=by
 unfold AJ df3
 refine dX (ps:=mH) (n:=3) (f:=fun j=>((j:Int),())) (by unfold cz; omega) (fun j hj _=>?_) (fun _=>?_)
 ·have Ew:(RQ.next (show (aa mH).den from (W ((j:Int) + 1),())):RQ mH sw) = .next (((j + 1:Nat):Int),()):=by rw [dR hj (by omega)]
  unfold Ka JZ
  refine (aq (decide_eq_true (by omega:(j:Int) < 3))).trans ?_
  refine (aq (decide_eq_true (by omega:(j:Int) < 3/\(0:Int)<=(j:Int)))).trans ?_
  refine (aq (decide_eq_true (by omega:j * 1 < 3))).trans ?_
  refine (aq (decide_eq_true (by omega:(0:Int)<=(j:Int)/\(j:Int) < 3))).trans ?_
  refine (aq (decide_eq_true (by omega:0 + j * 1 < 3))).trans ?_
  refine (aq (decide_eq_true (by omega:(0:Int)<=(j:Int)/\(j:Int) < 3))).trans ?_
  refine (aq (decide_eq_true (by omega:0 + j * 1 < 3))).trans ?_
  refine (aK (zk _ _ _)).trans ?_
  generalize hb:oV _ _ _=b
  have hb':oV (W ((List.getD [c.2.2.2.2.2.2.2.2.2.2.2.2.2.2.2.2.2.2.2.1.1,c.2.2.2.2.2.2.2.2.2.2.2.2.2.2.2.2.2.2.2.1.2.1,c.2.2.2.2.2.2.2.2.2.2.2.2.2.2.2.2.2.2.2.1.2.2.1] (0 + j * 1) c.2.2.2.2.2.2.2.2.2.2.2.2.2.2.2.2.2.2.2.1.1) - (List.getD [c.2.2.2.2.2.2.2.2.2.2.2.2.2.2.2.2.2.2.2.2.1.1,c.2.2.2.2.2.2.2.2.2.2.2.2.2.2.2.2.2.2.2.2.1.2.1,c.2.2.2.2.2.2.2.2.2.2.2.2.2.2.2.2.2.2.2.2.1.2.2.1] (0 + j * 1) c.2.2.2.2.2.2.2.2.2.2.2.2.2.2.2.2.2.2.2.2.1.1))) (W ((0:Int) - (List.getD [c.2.2.2.2.2.2.2.2.2.2.2.2.2.2.2.1.1,c.2.2.2.2.2.2.2.2.2.2.2.2.2.2.2.1.2.1,c.2.2.2.2.2.2.2.2.2.2.2.2.2.2.2.1.2.2.1] (j * 1) c.2.2.2.2.2.2.2.2.2.2.2.2.2.2.2.1.1))) (List.getD [c.2.2.2.2.2.2.2.2.2.2.2.2.2.2.2.1.1,c.2.2.2.2.2.2.2.2.2.2.2.2.2.2.2.1.2.1,c.2.2.2.2.2.2.2.2.2.2.2.2.2.2.2.1.2.2.1] (j * 1) c.2.2.2.2.2.2.2.2.2.2.2.2.2.2.2.1.1)=b:=hb
  rw [hb']
  cases b with
  | false=>rfl
  | true=>exact Ew
 ·unfold Ka JZ
  exact aR (decide_eq_false (by omega:¬ (((3:Nat):Int) < 3)))
def Kh (a b w:Int):Bool:=decide (a - b<=w) && decide (b - a<=w)
def hr (s:tS.den) (t:Nat):Int:=mT s (t + 1) - mT s t
def Wv (s:tS.den) (v u:V3) (h:Int):Bool:=Kh v.1 u.1 (pN s * h) && (Kh v.2.1 u.2.1 (pN s * h) && Kh v.2.2.1 u.2.2.1 (zn s * h))
theorem atf (hs:(cB s).Ok) {v u:V3} {b c:B6} (hb:vL b) (hc:vL c) (hv:bx3 v b=true) (hu:bx3 u c=true) {h:Int} (h0:0<=h) (h1:h<=200):df3 v u (pN s * h,(pN s * h,(zn s * h,())))=Wv s v u h:=by
 have q1:0<=pN s/\pN s<=50:=hs.sp
 have q2:0<=zn s/\zn s<=1000:=hs.dp
 have m1:=MG ⟨q1.1,by omega⟩ ⟨h0,h1⟩
 have m2:=MG q2 ⟨h0,h1⟩
 have f:∀ {x y w l m l' m':Int},0<=l->m<=99999->0<=l'->m'<=99999->l<=x/\x<=m->l'<=y/\y<=m'->0<=w/\w<=200000->oV (W (x - y)) (W (0 - w)) w=Kh x y w:=by
  intro x y w l m l' m' a1 a2 a3 a4 a5 a6 a7
  rw [gQ (n:=x - y) ⟨by omega,by omega⟩,gQ (n:=0 - w) ⟨by omega,by omega⟩]
  unfold oV Kh
  rw [Bool.eq_iff_iff]
  simp only [Bool.and_eq_true,decide_eq_true_eq]
  omega
 obtain ⟨v1,v2,v4⟩:=Yu.1 hv
 obtain ⟨u1,u2,u4⟩:=Yu.1 hu
 have b0:=hb 0 (by omega)
 have b1:=hb 1 (by omega)
 have b2:=hb 2 (by omega)
 have c0:=hc 0 (by omega)
 have c1:=hc 1 (by omega)
 have c2:=hc 2 (by omega)
 show (oV (W (v.1 - u.1)) (W (0 - pN s * h)) (pN s * h) && (oV (W (v.2.1 - u.2.1)) (W (0 - pN s * h)) (pN s * h) && (oV (W (v.2.2.1 - u.2.2.1)) (W (0 - zn s * h)) (zn s * h) && true)))=_
 rw [f b0.1 b0.2.2.2 c0.1 c0.2.2.2 v1 u1 m1.2,f b1.1 b1.2.2.2 c1.1 c1.2.2.2 v2 u2 m1.2,f b2.1 b2.2.2.2 c2.1 c2.2.2.2 v4 u4 m2.2,Bool.and_true]
 rfl
def okI (s:tS.den) (A X Y D:cT) (t i:Nat):Bool:=bx3 (tv X Y D t i) ((s.1.g t).2.1.g i) && match t with
 | 0=>true
 | u + 1=>decide (ap A (u + 1) i < 0) || (Wv s (tv X Y D (u + 1) i) (tv X Y D u (ap A (u + 1) i).toNat) (hr s u) && !has ((aV (A.g (u + 1)).1).take i) (ap A (u + 1) i))
def bcI (A:cT) (t j:Nat):Nat:=match t with
 | 0=>0
 | u + 1=>eO ((aV (A.g (u + 1)).1).take j)
theorem aaH {r:Sl sR.den} {j:Nat} (h:j<=r.n):aV (⟨j,fun i=>r.g (i + 0)⟩:Sl sR.den)=(aV r).take j:=by
 unfold aV
 rw [<- List.map_take,List.take_range,Nat.min_eq_left h]
 rfl
structure Ov (s:tS.den) (A X Y D:cT):Prop where
 a:PC s A
 x:PC s X
 y:PC s Y
 d:PC s D
 rng:∀ t i,t < s.1.n->i < (s.1.g t).2.1.n->VX s A t i=true
theorem Ov.link (h:Ov s A X Y D) {u i:Nat} (hu:u + 1 < s.1.n) (hi:i < (s.1.g (u + 1)).2.1.n):ap A (u + 1) i = -1\/(0<=ap A (u + 1) i/\(ap A (u + 1) i).toNat < (s.1.g u).2.1.n):=by
 have:=h.rng (u + 1) i hu hi
 unfold VX oV at this
 rw [Bool.and_eq_true,decide_eq_true_eq,decide_eq_true_eq] at this
 have h2:(-1:Int)<=ap A (u + 1) i/\ap A (u + 1) i<=(((s.1.g u).2.1.n:Nat):Int) - 1:=this
 omega
end Go.Dm
namespace Go.Dm
set_option maxRecDepth 100000
open Go.Low
variable {s:tS.den} {A X Y D:cT}
abbrev tTr:Ty:=.cons ec (.cons ec (.cons ec (.cons ec .nil)))
def trT (A X Y D:cT):tTr.den:=(A,(X,(Y,(D,()))))
def aI5 (b j:Int):RQ sO uV:=.next (b,(j,()))
def aSI:RQ sO uV:=.out (LQ.ret (show (aa uV.ret).den from (false,((0:Int),()))))
theorem atg (A:cT) (t j:Nat):bcI A t j<=j:=by
 unfold bcI
 split
 ·omega
 ·unfold eO
  exact Nat.le_trans List.count_le_length (by rw [List.length_take]; omega)
theorem ath {u i:Nat} (h:i < (A.g (u + 1)).1.n):bcI A (u + 1) (i + 1)=bcI A (u + 1) i + (bif decide (ap A (u + 1) i = -1) then 1 else 0):=by
 show eO ((aV (A.g (u + 1)).1).take (i + 1))=eO ((aV (A.g (u + 1)).1).take i) + _
 rw [Eu h,LM]; rfl
theorem aSJ (hs:(cB s).Ok) (h:Ov s A X Y D) {t:Nat} (ht:t < s.1.n) (acA:∀ u,t=u + 1->∀ j,j < (s.1.g u).2.1.n->bx3 (tv X Y D u j) ((s.1.g u).2.1.g j)=true) {g0 N:Int} {b0:Nat} (hb0:b0<=100) :
  UB ((),((),((),(g0,((t:Int),(N,((t:Int),((A.g t).1,((((A.g t).1.n:Nat):Int),(s,(trT A X Y D,((s.1,(s.2.1,(s.2.2.1,(s.2.2.2.1,(s.2.2.2.2.1,(A,())))))),())))))))))))) ((b0:Int),((0:Int),())) =
   bif (List.range (s.1.g t).2.1.n).all (okI s A X Y D t) then .exit 8 (((b0 + bcI A t (s.1.g t).2.1.n:Nat):Int),()) else LQ.ret (wy:=uV) (show (aa uV.ret).den from (false,((0:Int),()))):=by
 have h4:=eF hs
 have hk:=dN hs ht
 have hA:=h.a.k t ht
 have hX:=h.x.k t ht
 have hY:=h.y.k t ht
 have hD:=h.d.k t ht
 have nA:=h.a.n
 have nX:=h.x.n
 have nY:=h.y.n
 have nD:=h.d.n
 have e0:bcI A t 0=0:=Nat.le_zero.1 (atg A t 0)
 have key:aH (OU ((),((),((),(g0,((t:Int),(N,((t:Int),((A.g t).1,((((A.g t).1.n:Nat):Int),(s,(trT A X Y D,((s.1,(s.2.1,(s.2.2.1,(s.2.2.2.1,(s.2.2.2.2.1,(A,())))))),()))))))))))))) cz (((b0 + bcI A t 0:Nat):Int),(((0:Nat):Int),())) =
   bif (List.range (s.1.g t).2.1.n).all (okI s A X Y D t) then .exit 8 (((b0 + bcI A t (s.1.g t).2.1.n:Nat):Int),()) else LQ.ret (wy:=uV) (show (aa uV.ret).den from (false,((0:Int),()))):=by
  refine dX (ps:=sO) (n:=(s.1.g t).2.1.n) (f:=fun j=>(((b0 + bcI A t j:Nat):Int),((j:Int),()))) (by unfold cz; omega) (fun i hi _=>?_) (fun _=>?_)
  ·have hle:=atg A t i
   have w1:W ((i:Int) + 1)=((i + 1:Nat):Int):=dR hi (by omega)
   show _=bif okI s A X Y D t i then aI5 ((b0 + bcI A t (i + 1):Nat):Int) ((i + 1:Nat):Int) else aSI
   rw [<- w1]
   have iA:i < (A.g t).1.n:=by omega
   have iX:i < (X.g t).1.n:=by omega
   have iY:i < (Y.g t).1.n:=by omega
   have iD:i < (D.g t).1.n:=by omega
   unfold OU UA
   refine (aq (decide_eq_true (dW iA))).trans ?_
   refine (aq (decide_eq_true (aQ iA))).trans ?_
   refine (aq (decide_eq_true (aQ (n:=X.n) (by omega)))).trans ?_
   refine (aq (decide_eq_true (aQ iX))).trans ?_
   refine (aq (decide_eq_true (aQ (n:=Y.n) (by omega)))).trans ?_
   refine (aq (decide_eq_true (aQ iY))).trans ?_
   refine (aq (decide_eq_true (aQ (n:=D.n) (by omega)))).trans ?_
   refine (aq (decide_eq_true (aQ iD))).trans ?_
   refine (aK (Po ht hi)).trans ?_
   cases hbx:bx3 (tv X Y D t i) ((s.1.g t).2.1.g i) with
   | false =>
    have ho:okI s A X Y D t i=false:=by unfold okI; rw [hbx,Bool.false_and]
    rw [ho]
    have hL:∀ c:(aa oL).den,c.2.2.2.2.2.2.2.2.2.2.2.2.2.2.2.2.2.2.1=tv X Y D t i->c.2.2.2.2.2.2.2.2.2.2.2.2.2.2.1=(s.1.g t).2.1.g i->xG c ((0:Int),())=LQ.ret (wy:=su) (show (aa su.ret).den from (false,((0:Int),()))):=fun c e1 e2=>by
     rw [aI4 c,e1,e2,hbx]; rfl
    refine (congrArg (fun o=>aF o 10 _ (bS o _ _)) (hL _ ?_ ?_)).trans ?_
    ·rfl
    ·rfl
    ·rfl
   | true =>
    have hL:∀ c:(aa oL).den,c.2.2.2.2.2.2.2.2.2.2.2.2.2.2.2.2.2.2.1=tv X Y D t i->c.2.2.2.2.2.2.2.2.2.2.2.2.2.2.1=(s.1.g t).2.1.g i->xG c ((0:Int),()) = .exit 10 ():=fun c e1 e2=>by
     rw [aI4 c,e1,e2,hbx]; rfl
    refine (bp (hL _ ?_ ?_)).trans ?_
    ·rfl
    ·rfl
    clear hL
    cases t with
    | zero =>
     have ho:okI s A X Y D 0 i=true:=by unfold okI; rw [hbx]; rfl
     rw [ho]
     refine (aq (decide_eq_true (rfl:((0:Nat):Int)=0))).trans ?_
     rfl
    | succ u =>
     have hlk:=h.link ht hi
     have d0:¬ (((u + 1:Nat):Int)=0):=by omega
     have hsu:=ath (A:=A) (u:=u) (i:=i) iA
     refine (aR (decide_eq_false d0)).trans ?_
     by_cases l0:ap A (u + 1) i < 0
     ·have ho:okI s A X Y D (u + 1) i=true:=by unfold okI; rw [hbx]; simp only []; rw [decide_eq_true l0]; rfl
      rw [ho]
      have l1:ap A (u + 1) i = -1:=by omega
      rw [decide_eq_true l1,cond_true] at hsu
      refine (aq (decide_eq_true l0)).trans ?_
      have w2:W (((b0 + bcI A (u + 1) i:Nat):Int) + 1)=((b0 + bcI A (u + 1) (i + 1):Nat):Int):=by rw [hsu,gQ ⟨by omega,by omega⟩]; omega
      exact congrArg (fun q:Int=>aI5 q (W ((i:Int) + 1))) w2
     ·have l1:¬ ap A (u + 1) i = -1:=by omega
      have l2:0<=ap A (u + 1) i/\(ap A (u + 1) i).toNat < (s.1.g u).2.1.n:=by omega
      rw [decide_eq_false l1,cond_false,Nat.add_zero] at hsu
      have hbk:=l2.2
      have bX:(ap A (u + 1) i).toNat < (X.g u).1.n:=by rw [h.x.k u (by omega)]; exact hbk
      have bY:(ap A (u + 1) i).toNat < (Y.g u).1.n:=by rw [h.y.k u (by omega)]; exact hbk
      have bD:(ap A (u + 1) i).toNat < (D.g u).1.n:=by rw [h.d.k u (by omega)]; exact hbk
      have wp:=wo (n:=s.1.n) (by omega) ht
      have hu:u < s.1.n:=by omega
      have hm1:0<=mT s (u + 1)/\mT s (u + 1)<=200:=hs.Xp (u + 1) ht
      have hm2:0<=mT s u/\mT s u<=200:=hs.Xp u hu
      have hm3:mT s u < mT s (u + 1):=hs.tm u ht
      have hdf:=atf hs (lE hs ht hi) (lE hs hu hbk) hbx (acA u rfl _ hbk) (h:=mT s (u + 1) - mT s u) (by omega) (by omega)
      have hpre:=aaH (r:=(A.g (u + 1)).1) (j:=i) (by omega)
      have h97:=Wt (⟨i,fun q=>(A.g (u + 1)).1.g (q + 0)⟩:Sl sR.den) (show i<=140737488355328 by omega) (ap A (u + 1) i)
      rw [hpre] at h97
      have ho:okI s A X Y D (u + 1) i=(Wv s (tv X Y D (u + 1) i) (tv X Y D u (ap A (u + 1) i).toNat) (mT s (u + 1) - mT s u) && !has ((aV (A.g (u + 1)).1).take i) (ap A (u + 1) i)):=by
       unfold okI; rw [hbx]; simp only []; rw [decide_eq_false l0]; rfl
      have a2:(0:Int)<=0/\((0:Int)<=(i:Int)/\(i:Int)<=(((A.g (u + 1)).1.n:Nat):Int)):=by omega
      have iu:∀ {o:cT},o.n=s.1.n->(0:Int)<=(u:Int)/\(u:Int) < ((o.n:Nat):Int):=fun e=>by omega
      have ia:∀ {m:Nat},(ap A (u + 1) i).toNat < m->(0:Int)<=ap A (u + 1) i/\ap A (u + 1) i < (m:Int):=fun e=>by omega
      have hL:∀ c:(aa pU).den,c.2.2.2.2.2.2.2.2.2.2.2.2.2.2.2.2.2.2.2.1=tv X Y D (u + 1) i->c.2.2.2.2.2.2.2.2.2.2.2.2.2.2.2.2.2.2.2.2.1=tv X Y D u (ap A (u + 1) i).toNat->c.2.2.2.2.2.2.2.2.2.2.2.2.2.2.2.1=(pN s * (mT s (u + 1) - mT s u),(pN s * (mT s (u + 1) - mT s u),(zn s * (mT s (u + 1) - mT s u),()))) ->
        AJ c ((0:Int),())=bif Wv s (tv X Y D (u + 1) i) (tv X Y D u (ap A (u + 1) i).toNat) (mT s (u + 1) - mT s u) then .exit 12 () else LQ.ret (wy:=sw) (show (aa sw.ret).den from (false,((0:Int),()))):=fun c e1 e2 e3=>by
       rw [aSH c,e1,e2,e3,hdf]
      refine (aR (decide_eq_false l0)).trans ?_
      dsimp only
      rw [wp]
      refine (aq (decide_eq_true (iu nX))).trans ?_
      refine (aq (decide_eq_true (ia bX))).trans ?_
      refine (aq (decide_eq_true (iu nY))).trans ?_
      refine (aq (decide_eq_true (ia bY))).trans ?_
      refine (aq (decide_eq_true (iu nD))).trans ?_
      refine (aq (decide_eq_true (ia bD))).trans ?_
      refine (aK (afH hs ht)).trans ?_
      refine (aK (aiQ hs (h:=mT s (u + 1) - mT s u) (by omega) (by omega))).trans ?_
      rw [ho,hsu]
      revert hL
      cases Wv s (tv X Y D (u + 1) i) (tv X Y D u (ap A (u + 1) i).toNat) (mT s (u + 1) - mT s u) with
      | false =>
       intro hL
       refine (congrArg (fun o=>aF o 12 _ (bS o _ _)) (hL _ ?_ ?_ ?_)).trans ?_
       ·rfl
       ·rfl
       ·rfl
       ·rfl
      | true =>
       intro hL
       refine (bp (hL _ ?_ ?_ ?_)).trans ?_
       ·rfl
       ·rfl
       ·rfl
       refine (aq (decide_eq_true (aQ (n:=A.n) (by omega)))).trans ?_
       refine (aq (decide_eq_true a2)).trans ?_
       refine (aK h97).trans ?_
       cases has ((aV (A.g (u + 1)).1).take i) (ap A (u + 1) i) <;> rfl
  ·unfold OU UA
   have:¬ ((((s.1.g t).2.1.n:Nat):Int) < (((A.g t).1.n:Nat):Int)):=by omega
   exact aR (decide_eq_false this)
 rw [e0,Nat.add_zero] at key
 exact key
end Go.Dm

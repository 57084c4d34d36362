/- LowLogic. -/
import Derived.Test.YtadkaccpacpklaaL5LP18
import Derived.Test.YtadkaccpacpklaaL5LM4
set_option linter.unusedVariables false
set_option linter.unusedSimpArgs false
namespace Go.Dm
set_option maxRecDepth 100000
open Go.Low
variable {s:tS.den}
theorem wd3 {c a:Nat} (h:0 < a):decide (wd c a=3)=decide (c=a):=by
 unfold wd
 by_cases h1:c=0
 ·subst h1
  rw [decide_eq_false (by omega:¬ (0=a))]; rfl
 ·rw [decide_eq_false (by omega:¬ (((c:Nat):Int)=0)),cond_false]
  by_cases h2:c=a
  ·rw [decide_eq_true (by omega:((c:Nat):Int)=((a:Nat):Int)),decide_eq_true h2]; rfl
  ·rw [decide_eq_false (by omega:¬ (((c:Nat):Int)=((a:Nat):Int))),decide_eq_false h2]; rfl
theorem wd1 (c a:Nat):(!decide (wd c a=1))=decide (¬ c=0):=by
 unfold wd
 by_cases h1:c=0
 ·subst h1; rfl
 ·rw [decide_eq_false (by omega:¬ (((c:Nat):Int)=0)),cond_false,decide_eq_true h1]
  cases decide (((c:Nat):Int)=((a:Nat):Int)) <;> rfl
theorem aAF (C:Nat) (w:Nat->Int):aV (RH C w)=(List.range C).map w:=by
 unfold aV
 rw [PD]
 exact List.map_congr_left fun j hj=>by rw [aoV (List.mem_range.1 hj)]
theorem atP (s0:Sl sR.den) (y:Nat->Int):∀ m,aV (tab s0 (fun i=>(y i,())) m)=aV s0 ++ (List.range m).map y
 | 0=>by simp [tab]
 | m + 1=>by rw [tab,Et,atP s0 y m,List.range_succ,List.map_append,List.append_assoc]; rfl
theorem aAG {r:Sl sR.den} {p:Int->Bool} {j:Nat} (h:j < r.n):((aV r).take (j + 1)).countP p=((aV r).take j).countP p + (bif p (show Int from (r.g j).1) then 1 else 0):=by
 rw [Eu h,List.countP_append]
 cases hp:p (show Int from (r.g j).1) <;> simp [hp]
theorem apf {r:Sl sR.den} {p:Int->Bool} {j:Nat}:((aV r).take j).countP p<=j:=Nat.le_trans List.countP_le_length (by rw [List.length_take]; omega)
theorem aWx {r:Sl sR.den} (hr:r.n<=1000):M32 (no_index (r,()))=some ((((aV r).countP fun x=>decide (x=3):Nat):Int),()):=by
 have key:aFm (r,()) ((0:Int),((0:Int),())) = .exit 0 (((((aV r).take r.n).countP fun x=>decide (x=3):Nat):Int),()):=by
  unfold aFm
  refine bQ (ps:=RF) r.n cz (fun j=>(((((aV r).take j).countP fun x=>decide (x=3):Nat):Int),((j:Int),()))) (by unfold cz; omega) (fun j hj=>?_) ?_
  ·have hs:=aAG (p:=fun x=>decide (x=3)) hj
   have hle:=apf (r:=r) (p:=fun x=>decide (x=3)) (j:=j)
   have w1:W ((j:Int) + 1)=((j + 1:Nat):Int):=dR hj (by omega)
   unfold aAt aAs
   refine (aq (decide_eq_true (dW hj))).trans ?_
   refine (aq (decide_eq_true (aQ hj))).trans ?_
   cases hd:decide ((show Int from (r.g j).1)=3) with
   | true =>
    rw [hd,cond_true] at hs
    refine (aq hd).trans ?_
    have w2:W (((((aV r).take j).countP fun x=>decide (x=3):Nat):Int) + 1)=((((aV r).take (j + 1)).countP fun x=>decide (x=3):Nat):Int):=by rw [hs,gQ ⟨by omega,by omega⟩]; rfl
    exact (congrArg (fun q:Int=>(RQ.next (show (aa RF).den from (q,(W ((j:Int) + 1),()))):RQ RF ak4)) w2).trans (congrArg (fun q:Int=>(RQ.next (show (aa RF).den from (((((aV r).take (j + 1)).countP fun x=>decide (x=3):Nat):Int),(q,()))):RQ RF ak4)) w1)
   | false =>
    rw [hd,cond_false,Nat.add_zero] at hs
    refine (aR hd).trans ?_
    rw [hs]
    exact congrArg (fun q:Int=>(RQ.next (show (aa RF).den from (((((aV r).take j).countP fun x=>decide (x=3):Nat):Int),(q,()))):RQ RF ak4)) w1
  ·unfold aAt aAs
   have:¬ ((r.n:Int) < (r.n:Int)):=by omega
   exact aR (decide_eq_false this)
 rw [List.take_of_length_le (by rw [iN]; exact Nat.le_refl _)] at key
 unfold M32 Q32
 exact bp key
theorem aWy {r:Sl sR.den} (hr:r.n<=1000):M33 (no_index (r,()))=some ((((aV r).countP fun x=>!decide (x=1):Nat):Int),()):=by
 have key:aFo (r,()) ((0:Int),((0:Int),())) = .exit 0 (((((aV r).take r.n).countP fun x=>!decide (x=1):Nat):Int),()):=by
  unfold aFo
  refine bQ (ps:=RG) r.n cz (fun j=>(((((aV r).take j).countP fun x=>!decide (x=1):Nat):Int),((j:Int),()))) (by unfold cz; omega) (fun j hj=>?_) ?_
  ·have hs:=aAG (p:=fun x=>!decide (x=1)) hj
   have hle:=apf (r:=r) (p:=fun x=>!decide (x=1)) (j:=j)
   have w1:W ((j:Int) + 1)=((j + 1:Nat):Int):=dR hj (by omega)
   unfold aAv aAu
   refine (aq (decide_eq_true (dW hj))).trans ?_
   refine (aq (decide_eq_true (aQ hj))).trans ?_
   cases hd:(!decide ((show Int from (r.g j).1)=1)) with
   | true =>
    rw [hd,cond_true] at hs
    refine (aq hd).trans ?_
    have w2:W (((((aV r).take j).countP fun x=>!decide (x=1):Nat):Int) + 1)=((((aV r).take (j + 1)).countP fun x=>!decide (x=1):Nat):Int):=by rw [hs,gQ ⟨by omega,by omega⟩]; rfl
    exact (congrArg (fun q:Int=>(RQ.next (show (aa RG).den from (q,(W ((j:Int) + 1),()))):RQ RG ak6)) w2).trans (congrArg (fun q:Int=>(RQ.next (show (aa RG).den from (((((aV r).take (j + 1)).countP fun x=>!decide (x=1):Nat):Int),(q,()))):RQ RG ak6)) w1)
   | false =>
    rw [hd,cond_false,Nat.add_zero] at hs
    refine (aR hd).trans ?_
    rw [hs]
    exact congrArg (fun q:Int=>(RQ.next (show (aa RG).den from (((((aV r).take j).countP fun x=>!decide (x=1):Nat):Int),(q,()))):RQ RG ak6)) w1
  ·unfold aAv aAu
   have:¬ ((r.n:Int) < (r.n:Int)):=by omega
   exact aR (decide_eq_false this)
 rw [List.take_of_length_le (by rw [iN]; exact Nat.le_refl _)] at key
 unfold M33 Q33
 exact bp key
theorem auU {r:Sl sR.den} (hr:r.n<=1000) {qs:List (LL->Bool)} (h0:0 < nL s) (he:aV r=qs.map fun q=>wd ((links (cB s)).countP q) (nL s)) (hq:∀ L∈links (cB s),qs.countP (fun q=>q L)=1) :
  ∃ S P:Nat,M32 (r,())=some ((S:Int),())/\M33 (r,())=some ((P:Int),())/\S<=1/\P≠0/\(S=1↔P=1):=by
 have hw:=aKw h0 (atQ hq)
 refine ⟨_,_,aWx hr,aWy hr,?_⟩
 have e1:(aV r).countP (fun x=>decide (x=3))=(qs.map fun q=>(links (cB s)).countP q).countP (fun c=>decide (c=nL s)):=by
  rw [he,List.countP_map,List.countP_map]
  exact List.countP_congr fun q _=>by
   show (decide (wd ((links (cB s)).countP q) (nL s)=3)=true)↔_
   rw [wd3 h0]; exact Iff.rfl
 have e2:(aV r).countP (fun x=>!decide (x=1))=(qs.map fun q=>(links (cB s)).countP q).countP (fun c=>decide (¬ c=0)):=by
  rw [he,List.countP_map,List.countP_map]
  exact List.countP_congr fun q _=>by
   show ((!decide (wd ((links (cB s)).countP q) (nL s)=1))=true)↔_
   rw [wd1]; exact Iff.rfl
 rw [e1,e2]
 exact hw
theorem azj (s:tS.den) (t:Nat):(Cl s t).n=(s.1.g (t + 1)).2.1.n:=aa3 _ _ _
theorem azk {t i:Nat} (hi:i < (s.1.g (t + 1)).2.1.n):(Cl s t).g i=(RH (s.1.g t).2.1.n (fun j=>wd (cS s (t + 1) i (j:Int)) (nL s)),()):=aoW hi
theorem an3 (s:tS.den):(Kt s).n=s.1.n - 1:=aa3 _ _ _
theorem aFF {t:Nat} (ht:t + 1 < s.1.n):(Kt s).g t=(RH (s.1.g (t + 1)).2.1.n (fun i=>wd (cS s (t + 1) i (-1)) (nL s)),()):=aoW (i:=t) (by omega)
theorem aKx (s:tS.den):(Xg s).n=s.1.n - 1:=aa3 _ _ _
theorem aKy {t:Nat} (ht:t + 1 < s.1.n):(Xg s).g t=(RH (s.1.g t).2.1.n (fun i=>wd (cE s t i) (nL s)),()):=aoW (i:=t) (by omega)
theorem aTT (hs:(cB s).Ok) (h0:0 < nL s) {t:Nat} (ht:t + 1 < s.1.n) {c4:cT} {c6:Int} :
  aD4 (((t + 1:Nat):Int),(Cl s t,(Kt s,(c4,((((s.1.g (t + 1)).2.1.n:Nat):Int),(c6,())))))) ((0:Int),()) = .exit 0 ():=by
 have h4:=eF hs
 have hk:=dN hs ht
 have Ml:=dN hs (t:=t) (by omega)
 have wp:=wo (n:=s.1.n) (by omega) ht
 unfold aD4
 refine bQ (ps:=afJ) (s.1.g (t + 1)).2.1.n cz (fun j=>((j:Int),())) (by unfold cz; omega) (fun i hi=>?_) ?_
 ·have hsn:=azj s t
  have hsg:=azk hi
  have hbn:=an3 s
  have hbg:=aFF ht
  have hr:=PD (s.1.g t).2.1.n (fun j=>wd (cS s (t + 1) i (j:Int)) (nL s))
  have a1:((Cl s t).g i).1.n * 8<=140737488355328:=by rw [hsg]; dsimp only; omega
  have a2:(((Cl s t).g i).1.n + 1) * 8<=140737488355328:=by rw [hsg]; dsimp only; omega
  have a3:i < ((Kt s).g t).1.n:=by rw [hbg]; dsimp only; rw [PD]; exact hi
  have hx:((Kt s).g t).1.g i=(wd (cS s (t + 1) i (-1)) (nL s),()):=by rw [hbg]; exact aoV hi
  obtain ⟨S,P,m1,m2,q1,q2,q3⟩:=auU (s:=s) (r:=snoc ((Cl s t).g i).1 (((Kt s).g t).1.g i)) (qs:=aPE t i (s.1.g t).2.1.n) (by rw [IP,hsg]; dsimp only; omega) h0 (by
   rw [hx,Et,hsg]
   dsimp only
   rw [aAF]
   unfold aPE
   rw [List.map_append,List.map_map]; rfl) fun L hL=>aKz ((tX hs).1 hL) ht hi
  have key:∀ w:Int,w=(t:Int)->∀ (a b c d e f z y:RQ afJ auN),(bif decide ((0:Int)<=w/\w < (((Kt s).n:Nat):Int)) then bif decide ((0:Int)<=(i:Int)/\(i:Int) < ((((Kt s).g (Int.toNat w)).1.n:Nat):Int)) then bif decide ((((Cl s t).g i).1.n + 1) * 8<=140737488355328) then
    cl (r32).dflt (M32 (snoc ((Cl s t).g i).1 (((Kt s).g (Int.toNat w)).1.g i),())) (fun u0=>bif (decide ((1:Int) < u0.1)) then z else cl (r33).dflt (M33 (snoc ((Cl s t).g i).1 (((Kt s).g (Int.toNat w)).1.g i),())) (fun u1=>bif (decide (u1.1=(0:Int))) then z else cl (r33).dflt (M33 (snoc ((Cl s t).g i).1 (((Kt s).g (Int.toNat w)).1.g i),())) (fun _=>bif (!((decide (u0.1=(1:Int))) == (decide (u1.1=(1:Int))))) then z else y) a) b) c else d else e else f)=y:=fun w hw a b c d e f z y=>by
   subst hw
   refine (aq (decide_eq_true (aQ (by omega)))).trans ?_
   refine (aq (decide_eq_true (aQ a3))).trans ?_
   refine (aq (decide_eq_true a2)).trans ?_
   refine (aK m1).trans ?_
   refine (aR (decide_eq_false (by show ¬ ((1:Int) < (S:Int)); omega))).trans ?_
   refine (aK m2).trans ?_
   refine (aR (decide_eq_false (by show ¬ ((P:Int)=0); omega))).trans ?_
   refine (aK m2).trans ?_
   refine (aR ?_)
   show (!(decide ((S:Int)=1) == decide ((P:Int)=1)))=false
   by_cases c:S=1
   ·rw [decide_eq_true (by omega:(S:Int)=1),decide_eq_true (by have:=q3.1 c; omega:(P:Int)=1)]; rfl
   ·have c':¬ P=1:=fun e=>c (q3.2 e)
    rw [decide_eq_false (by omega:¬ (S:Int)=1),decide_eq_false (by omega:¬ (P:Int)=1)]; rfl
  unfold aJQ aJP
  refine (aq (decide_eq_true (dW hi))).trans ?_
  refine (aq (decide_eq_true (aQ (n:=(Cl s t).n) (by omega)))).trans ?_
  refine (aq (decide_eq_true a1)).trans ?_
  refine (key _ wp _ _ _ _ _ _ _ _).trans ?_
  exact congrArg (fun q:Int=>(RQ.next (show (aa afJ).den from (q,())):RQ afJ auN)) (dR hi (by omega))
 ·unfold aJQ aJP
  have:¬ ((((s.1.g (t + 1)).2.1.n:Nat):Int) < (((s.1.g (t + 1)).2.1.n:Nat):Int)):=by omega
  exact aR (decide_eq_false this)
theorem aPF (hs:(cB s).Ok) {t k:Nat} (ht:t + 1 < s.1.n) (hk':k < (s.1.g t).2.1.n) {c1 c5:Int} {c3:cT} (x:sR.den) :
  aoO (c1,(Cl s t,(c3,((((s.1.g (t + 1)).2.1.n:Nat):Int),(c5,((k:Int),())))))) ((⟨1,fun i=>List.getD [x] i x⟩:Sl sR.den),((0:Int),())) =
   .exit 4 (tab (⟨1,fun i=>List.getD [x] i x⟩:Sl sR.den) (fun i=>(wd (cS s (t + 1) i (k:Int)) (nL s),())) (s.1.g (t + 1)).2.1.n,()):=by
 have hk:=dN hs ht
 unfold aoO
 refine bQ (ps:=OX) (s.1.g (t + 1)).2.1.n cz (fun j=>(tab (⟨1,fun i=>List.getD [x] i x⟩:Sl sR.den) (fun i=>(wd (cS s (t + 1) i (k:Int)) (nL s),())) j,((j:Int),()))) (by unfold cz; omega) (fun j hj=>?_) ?_
 ·have hn:(tab (⟨1,fun i=>List.getD [x] i x⟩:Sl sR.den) (fun i=>(wd (cS s (t + 1) i (k:Int)) (nL s),())) j).n=1 + j:=auV _ _ _
  have h8:((tab (⟨1,fun i=>List.getD [x] i x⟩:Sl sR.den) (fun i=>(wd (cS s (t + 1) i (k:Int)) (nL s),())) j).n + 1) * 8<=140737488355328:=by omega
  have hsn:=azj s t
  have hsg:=azk hj
  have a3:k < ((Cl s t).g j).1.n:=by rw [hsg]; dsimp only; rw [PD]; exact hk'
  have hx:((Cl s t).g j).1.g k=(wd (cS s (t + 1) j (k:Int)) (nL s),()):=by rw [hsg]; exact aoV hk'
  unfold atx atw
  refine (aq (decide_eq_true (dW hj))).trans ?_
  refine (aq (decide_eq_true (aQ (n:=(Cl s t).n) (by omega)))).trans ?_
  refine (aq (decide_eq_true (aQ a3))).trans ?_
  refine (aq (decide_eq_true h8)).trans ?_
  show (RQ.next (show (aa OX).den from (snoc (tab (⟨1,fun i=>List.getD [x] i x⟩:Sl sR.den) (fun i=>(wd (cS s (t + 1) i (k:Int)) (nL s),())) j) (((Cl s t).g j).1.g k),(W ((j:Int) + 1),()))):RQ OX ait)=_
  rw [hx]
  exact congrArg (fun q:Int=>(RQ.next (show (aa OX).den from (tab (⟨1,fun i=>List.getD [x] i x⟩:Sl sR.den) (fun i=>(wd (cS s (t + 1) i (k:Int)) (nL s),())) (j + 1),(q,()))):RQ OX ait)) (dR hj (by omega))
 ·unfold atx atw
  have:¬ ((((s.1.g (t + 1)).2.1.n:Nat):Int) < (((s.1.g (t + 1)).2.1.n:Nat):Int)):=by omega
  exact aR (decide_eq_false this)
theorem aTV (hs:(cB s).Ok) (h0:0 < nL s) {t:Nat} (ht:t + 1 < s.1.n) :
  aD5 (((t + 1:Nat):Int),(Cl s t,(Xg s,((((s.1.g (t + 1)).2.1.n:Nat):Int),((((s.1.g t).2.1.n:Nat):Int),()))))) ((0:Int),()) = .exit 2 ():=by
 have h4:=eF hs
 have hk:=dN hs ht
 have Ml:=dN hs (t:=t) (by omega)
 have wp:=wo (n:=s.1.n) (by omega) ht
 unfold aD5
 refine bQ (ps:=afK) (s.1.g t).2.1.n cz (fun j=>((j:Int),())) (by unfold cz; omega) (fun k hk'=>?_) ?_
 ·have hen:=aKx s
  have heg:=aKy ht
  have a3:k < ((Xg s).g t).1.n:=by rw [heg]; dsimp only; rw [PD]; exact hk'
  have hx:((Xg s).g t).1.g k=(wd (cE s t k) (nL s),()):=by rw [heg]; exact aoV hk'
  have hL:=aPF hs ht hk' (c1:=((t + 1:Nat):Int)) (c5:=(((s.1.g t).2.1.n:Nat):Int)) (c3:=Xg s) (((Xg s).g t).1.g k)
  have hn:(tab (⟨1,fun i=>List.getD [(((Xg s).g t).1.g k)] i (((Xg s).g t).1.g k)⟩:Sl sR.den) (fun i=>(wd (cS s (t + 1) i (k:Int)) (nL s),())) (s.1.g (t + 1)).2.1.n).n=1 + (s.1.g (t + 1)).2.1.n:=auV _ _ _
  obtain ⟨S,P,m1,m2,q1,q2,q3⟩:=auU (s:=s) (r:=tab (⟨1,fun i=>List.getD [(((Xg s).g t).1.g k)] i (((Xg s).g t).1.g k)⟩:Sl sR.den) (fun i=>(wd (cS s (t + 1) i (k:Int)) (nL s),())) (s.1.g (t + 1)).2.1.n) (qs:=aPG t k (s.1.g (t + 1)).2.1.n) (by rw [hn]; omega) h0 (by
   rw [atP,hx]
   unfold aPG
   rw [List.map_cons,List.map_map]; rfl) fun L hL=>aKA ((tX hs).1 hL) ht
  have key:∀ w:Int,w=(t:Int)->∀ (a b c d e f z y:RQ afK auO),(bif decide ((0:Int)<=w/\w < (((Xg s).n:Nat):Int)) then bif decide ((0:Int)<=(k:Int)/\(k:Int) < ((((Xg s).g (Int.toNat w)).1.n:Nat):Int)) then
    aF (aoO (((t + 1:Nat):Int),(Cl s t,(Xg s,((((s.1.g (t + 1)).2.1.n:Nat):Int),((((s.1.g t).2.1.n:Nat):Int),((k:Int),())))))) ((⟨1,fun i=>List.getD [(((Xg s).g (Int.toNat w)).1.g k)] i (((Xg s).g (Int.toNat w)).1.g k)⟩:Sl sR.den),((0:Int),()))) 4 (fun u3 =>
    cl (r32).dflt (M32 u3) (fun u0=>bif (decide ((1:Int) < u0.1)) then z else cl (r33).dflt (M33 u3) (fun u1=>bif (decide (u1.1=(0:Int))) then z else cl (r33).dflt (M33 u3) (fun _=>bif (!((decide (u0.1=(1:Int))) == (decide (u1.1=(1:Int))))) then z else y) a) b) c) d else e else f)=y:=fun w hw a b c d e f z y=>by
   subst hw
   refine (aq (decide_eq_true (aQ (by omega)))).trans ?_
   refine (aq (decide_eq_true (aQ a3))).trans ?_
   refine (bp hL).trans ?_
   refine (aK m1).trans ?_
   refine (aR (decide_eq_false (by show ¬ ((1:Int) < (S:Int)); omega))).trans ?_
   refine (aK m2).trans ?_
   refine (aR (decide_eq_false (by show ¬ ((P:Int)=0); omega))).trans ?_
   refine (aK m2).trans ?_
   refine (aR ?_)
   show (!(decide ((S:Int)=1) == decide ((P:Int)=1)))=false
   by_cases c:S=1
   ·rw [decide_eq_true (by omega:(S:Int)=1),decide_eq_true (by have:=q3.1 c; omega:(P:Int)=1)]; rfl
   ·have c':¬ P=1:=fun e=>c (q3.2 e)
    rw [decide_eq_false (by omega:¬ (S:Int)=1),decide_eq_false (by omega:¬ (P:Int)=1)]; rfl
  unfold aJV aJU
  refine (aq (decide_eq_true (dW hk'))).trans ?_
  refine (key _ wp _ _ _ _ _ _ _ _).trans ?_
  exact congrArg (fun q:Int=>(RQ.next (show (aa afK).den from (q,())):RQ afK auO)) (dR hk' (by omega))
 ·unfold aJV aJU
  have:¬ ((((s.1.g t).2.1.n:Nat):Int) < (((s.1.g t).2.1.n:Nat):Int)):=by omega
  exact aR (decide_eq_false this)
theorem aKv (hs:(cB s).Ok) {t:Nat} (ht:t + 1 < s.1.n):M31 (no_index (Cl s t,((((s.1.g (t + 1)).2.1.n:Nat):Int),((((s.1.g t).2.1.n:Nat):Int),()))))=some (true,()):=by
 have hk:=dN hs ht
 have hn:=azj s t
 have key:aAr (Cl s t,((((s.1.g (t + 1)).2.1.n:Nat):Int),((((s.1.g t).2.1.n:Nat):Int),()))) ((0:Int),()) = .exit 0 ():=by
  unfold aAr
  refine bQ (ps:=aaY) (Cl s t).n cz (fun j=>((j:Int),())) (by unfold cz; omega) (fun i hi=>?_) ?_
  ·have hg:((((Cl s t).g i).1.n:Nat):Int)=(((s.1.g t).2.1.n:Nat):Int):=by rw [azk (by omega)]; dsimp only; rw [PD]
   unfold aAq aAp
   refine (aq (decide_eq_true (dW hi))).trans ?_
   refine (aq (decide_eq_true (aQ hi))).trans ?_
   refine (aR (show (!decide (((((Cl s t).g i).1.n:Nat):Int)=(((s.1.g t).2.1.n:Nat):Int)))=false by rw [decide_eq_true hg]; rfl)).trans ?_
   exact congrArg (fun q:Int=>(RQ.next (show (aa aaY).den from (q,())):RQ aaY atu)) (dR hi (by omega))
  ·unfold aAq aAp
   have:¬ (((Cl s t).n:Int) < ((Cl s t).n:Int)):=by omega
   exact aR (decide_eq_false this)
 unfold M31 Q31
 refine (bp key).trans ?_
 show some (decide ((((Cl s t).n:Nat):Int)=(((s.1.g (t + 1)).2.1.n:Nat):Int)),())=_
 rw [hn,decide_eq_true rfl]
theorem nb {a b:Int} (h:a=b):(!decide (a=b))=false:=by rw [decide_eq_true h]; rfl
theorem aGI (s:tS.den) (at':Int):M5 (s,(at',()))=some (true,()):=by
 unfold M5 Q5
 obtain ⟨b,h1,h2⟩:=aau (s:=s)
 refine (aK h1).trans ?_
 cases b with
 | false=>exact (aq rfl).trans (aK eZ)
 | true =>
  refine (aR rfl).trans ?_
  obtain ⟨hn,hk⟩:=h2 rfl
  have hn':s.1.n<=1000:=by omega
  have hk':∀ t,t < s.1.n->(s.1.g t).2.1.n<=1000:=fun t ht=>by have:=hk t ht; omega
  have h30:=aWq (s:=s) hn' hk'
  have bad:∀ b,Jc s b≠0->(!decide (Jc s b=(0:Int)))=true:=fun b h=>by rw [decide_eq_false h]; rfl
  have ef:Jc s false=2:=by unfold Jc; rw [Bool.and_false]; rfl
  by_cases c1:(1:Int)<=at'
  ·refine (aq (decide_eq_true c1)).trans ?_
   refine (aK (h30 _)).trans ?_
   by_cases ha:Jc s (decide (at' < ((s.1.n:Nat):Int)))=0
   ·refine (aR (nb ha)).trans ?_
    have c2:at' < ((s.1.n:Nat):Int):=by
     by_cases c:at' < ((s.1.n:Nat):Int)
     ·exact c
     ·rw [decide_eq_false c,ef] at ha; cases ha
    rw [decide_eq_true c2] at ha
    have ho:Io s=true:=by
     cases h:Io s with
     | true=>rfl
     | false=>unfold Jc at ha; rw [h] at ha; cases ha
    have hal:Dg s=true:=by
     cases h:Dg s with
     | true=>rfl
     | false=>unfold Jc at ha; rw [ho,h] at ha; cases ha
    have hs:=qP ho
    have h4:=eF hs
    obtain ⟨t,rfl⟩:∃ t:Nat,at'=((t + 1:Nat):Int):=⟨(at' - 1).toNat,by omega⟩
    have ht:t + 1 < s.1.n:=by omega
    have wp:=wo (n:=s.1.n) (by omega) ht
    have h0:0 < nL s:=by
     obtain ⟨L,hL⟩:=Ki.1 hal
     exact List.length_pos_of_mem hL
    refine (aK (aFx ho hn' hk' hal ht)).trans ?_
    refine (aK (aAB ho hn' hk' hal)).trans ?_
    refine (aK (aQy ho hn' hk' hal)).trans ?_
    refine (aq (decide_eq_true (aQ ht))).trans ?_
    have hbn:=an3 s
    have hen:=aKx s
    have q1:((((Kt s).g t).1.n:Nat):Int)=(((s.1.g (t + 1)).2.1.n:Nat):Int):=by rw [aFF ht]; dsimp only; rw [PD]
    have q2:((((Xg s).g t).1.n:Nat):Int)=(((s.1.g t).2.1.n:Nat):Int):=by rw [aKy ht]; dsimp only; rw [PD]
    have q3:(((Kt s).n:Nat):Int)=W (((s.1.n:Nat):Int) - 1):=by rw [hbn,wn1 hs]
    have q4:(((Xg s).n:Nat):Int)=(((Kt s).n:Nat):Int):=by rw [hbn,hen]
    dsimp only
    rw [wp]
    refine (aq (decide_eq_true (aQ (n:=s.1.n) (by omega)))).trans ?_
    refine (aR rfl).trans ((aR rfl).trans ((aR rfl).trans ?_))
    refine (aK (aKv hs ht)).trans ?_
    refine (aR rfl).trans ?_
    refine (aR (nb q3)).trans ?_
    refine (aR (nb q4)).trans ?_
    refine (aq (decide_eq_true (aQ (n:=(Kt s).n) (by omega)))).trans ?_
    refine (aR (nb q1)).trans ?_
    refine (aq (decide_eq_true (aQ (n:=(Xg s).n) (by omega)))).trans ?_
    refine (aR (nb q2)).trans ?_
    refine (bp (aTT hs h0 ht)).trans ?_
    refine (bp (aTV hs h0 ht)).trans ?_
    exact aK eZ
   ·exact (aq (bad _ ha)).trans (aK eZ)
  ·refine (aR (decide_eq_false c1)).trans ?_
   refine (aK (h30 _)).trans ?_
   exact (aq (bad _ (by rw [ef]; decide))).trans (aK eZ)
theorem bcU (x:(a5).den):M5 x=some (true,()):=by
 obtain ⟨s,at',⟨⟩⟩:=x
 exact aGI s at'
end Go.Dm

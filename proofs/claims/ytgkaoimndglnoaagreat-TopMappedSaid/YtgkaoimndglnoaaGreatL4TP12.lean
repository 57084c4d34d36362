/- The bounds of a map. -/
import Derived.Test.YtgkaoimndglnoaaGreatL4TP11
set_option linter.unusedVariables false
set_option linter.unusedSimpArgs false
namespace Go.Dm
set_option maxRecDepth 100000
def adt (m:adh):Nat:=m.1.toNat
def mr (m:adh):Nat:=m.2.1.toNat
def adr (m:adh):Nat:=adt m * mr m
def adf (m:adh) (j:Nat):Nat:=((sta m).g j).1.toNat
def slo (m:adh):Int:=m.2.2.1
def cst (m:adh) (a b:Nat):Int:=slo m * ((adi (adt m) a b:Nat):Int)
def plo (m:adh) (j:Nat):Int:=((sta m).g j).2.1
def phi (m:adh) (j:Nat):Int:=((sta m).g j).2.2.1
theorem aqq.adU {m:adh} (h:aqq m):m.1=(adt m:Int)/\1<=adt m/\adt m<=6:=by have:=h.wide; unfold adt; omega
theorem aqq.ac7 {m:adh} (h:aqq m):m.2.1=(mr m:Int)/\1<=mr m/\mr m<=5:=by have:=h.rows; unfold mr; omega
theorem aqq.eN {m:adh} (h:aqq m):m.1 * m.2.1=((adr m:Nat):Int)/\1<=adr m/\adr m<=30:=by
 have h1:=h.adU
 have h2:=h.ac7
 have a:=aWn h.wide h.rows
 have:m.1 * m.2.1=((adr m:Nat):Int):=by unfold adr; rw [Int.natCast_mul,<- h1.1,<- h2.1]
 omega
theorem aqq.ac8 {m:adh} (h:aqq m) {j:Nat} (hj:j < (sta m).n):((sta m).g j).1=(adf m j:Int)/\adf m j < adr m:=by
 have h1:=h.pt j hj
 have h2:=h.eN
 unfold adf
 omega
theorem avr {m:adh} (h:aqq m) (a b:Nat):0<=cst m a b:=Int.mul_nonneg h.aD7.1 (by omega)
theorem aix {m:adh} (h:aqq m) {a b:Nat} (ha:a < 30) (hb:b < 30):0<=cst m a b/\cst m a b<=600000:=by
 have h1:=aES h.adU.2 ha hb
 have h2:slo m * ((adi (adt m) a b:Nat):Int)<=5000 * 120:=Int.mul_le_mul h.aD7.2 (by omega) (by omega) (by omega)
 exact ⟨avr h a b,by unfold cst; omega⟩
theorem aLz {m:adh} (h:aqq m) (a b c:Nat):cst m a b<=cst m c a + cst m c b:=by
 unfold cst
 rw [<- Int.mul_add]
 refine Int.mul_le_mul_of_nonneg_left ?_ h.aD7.1
 have:=avl (adt m) a b c
 omega
theorem aET (m:adh) (a:Nat):cst m a a=0:=by unfold cst; rw [aov]; simp
theorem adR {m:adh} (h:aqq m) {a b:Nat} (ha:a < 30) (hb:b < 30):Dw (no_index ((m.1,(m.2.1,())),((a:Int),((b:Int),()))))=some (((adi (adt m) a b:Nat):Int),()):=by
 rw [h.adU.1,h.ac7.1]
 exact avk h.adU.2 ha hb
theorem ajz {m:adh} (h:aqq m) {a b:Nat} (ha:a < 30) (hb:b < 30):W (m.2.2.1 * ((adi (adt m) a b:Nat):Int))=cst m a b:=by
 have:=aix h ha hb
 exact eU ⟨by unfold cst slo at this; omega,by unfold cst slo at this; omega⟩
theorem avs (a b:Int) (d:Int×Unit):TN (no_index ((⟨2,fun i=>List.getD [(a,()),(b,())] i d⟩:Sl (Int×Unit)),()))=some (max a b,()):=by
 unfold TN anl
 simp [Pa]
theorem avt (a b:Int) (d:Int×Unit):XA (no_index ((⟨2,fun i=>List.getD [(a,()),(b,())] i d⟩:Sl (Int×Unit)),()))=some (min a b,()):=by
 unfold XA anp
 simp [as9]
def loC (m:adh) (p:Nat):Nat->Int
 | 0=>0
 | j + 1=>max (loC m p j) (plo m j - cst m p (adf m j))
def hiC (m:adh) (p:Nat):Nat->Int
 | 0=>99999
 | j + 1=>min (hiC m p j) (phi m j + cst m p (adf m j))
def loA (m:adh) (p:Nat):Int:=loC m p (sta m).n
def hiA (m:adh) (p:Nat):Int:=hiC m p (sta m).n
theorem avu {m:adh} (h:aqq m) {p:Nat} (hp:p < 30):ae6 (no_index (aY9 m,((p:Int),())))=some (loA m p,()):=by
 have hn:=h.n
 have hN:=h.eN
 have e:XY (no_index ((p:Int),((),(sta m,((((sta m).n:Nat):Int),(aY9 m,())))))) (no_index ((0:Int),((0:Int),()))) = .exit 0 (loA m p,()):=by
  unfold XY
  refine cX (ps:=mu) (sta m).n dw (fun j=>(loC m p j,((j:Int),()))) (by unfold dw; omega) (fun j hj=>?_) ?_
  ·unfold MG MF
   have hpj:=h.ac8 hj
   have hpr:=h.pr j hj
   have hc:=aix h hp (show adf m j < 30 by omega)
   refine (cn (decide_eq_true (dW hj))).trans ?_
   refine (cn (decide_eq_true (bO hj))).trans ?_
   refine (cI (x:=(((adi (adt m) p (adf m j):Nat):Int),())) ?_).trans ?_
   ·show Dw ((m.1,(m.2.1,())),((p:Int),(((sta m).g j).1,())))=_
    rw [hpj.1]
    exact adR h hp (by omega)
   have eW:W (((sta m).g j).2.1 - W (m.2.2.1 * ((adi (adt m) p (adf m j):Nat):Int)))=plo m j - cst m p (adf m j):=by
    rw [ajz h hp (by omega)]
    exact eU ⟨by omega,by omega⟩
   refine (cI (x:=(loC m p (j + 1),())) ?_).trans ?_
   ·refine (avs (loC m p j) (W (((sta m).g j).2.1 - W (m.2.2.1 * ((adi (adt m) p (adf m j):Nat):Int)))) _).trans ?_
    rw [eW]; rfl
   ·rw [<- ec hj (by omega)]
  ·unfold MG MF
   exact cR (decide_eq_false (by show ¬ ((((sta m).n:Nat):Int) < (((sta m).n:Nat):Int)); omega))
 unfold ae6 an7
 exact gV e
theorem avv {m:adh} (h:aqq m) {p:Nat} (hp:p < 30):afc (no_index (aY9 m,((p:Int),())))=some (hiA m p,()):=by
 have hn:=h.n
 have hN:=h.eN
 have e:Yc (no_index ((p:Int),((),(sta m,((((sta m).n:Nat):Int),(aY9 m,())))))) (no_index ((99999:Int),((0:Int),()))) = .exit 0 (hiA m p,()):=by
  unfold Yc
  refine cX (ps:=mw) (sta m).n dw (fun j=>(hiC m p j,((j:Int),()))) (by unfold dw; omega) (fun j hj=>?_) ?_
  ·unfold MI MH
   have hpj:=h.ac8 hj
   have hpr:=h.pr j hj
   have hc:=aix h hp (show adf m j < 30 by omega)
   refine (cn (decide_eq_true (dW hj))).trans ?_
   refine (cn (decide_eq_true (bO hj))).trans ?_
   refine (cI (x:=(((adi (adt m) p (adf m j):Nat):Int),())) ?_).trans ?_
   ·show Dw ((m.1,(m.2.1,())),((p:Int),(((sta m).g j).1,())))=_
    rw [hpj.1]
    exact adR h hp (by omega)
   have eW:W (((sta m).g j).2.2.1 + W (m.2.2.1 * ((adi (adt m) p (adf m j):Nat):Int)))=phi m j + cst m p (adf m j):=by
    rw [ajz h hp (by omega)]
    exact eU ⟨by omega,by omega⟩
   refine (cI (x:=(hiC m p (j + 1),())) ?_).trans ?_
   ·refine (avt (hiC m p j) (W (((sta m).g j).2.2.1 + W (m.2.2.1 * ((adi (adt m) p (adf m j):Nat):Int)))) _).trans ?_
    rw [eW]; rfl
   ·rw [<- ec hj (by omega)]
  ·unfold MI MH
   exact cR (decide_eq_false (by show ¬ ((((sta m).n:Nat):Int) < (((sta m).n:Nat):Int)); omega))
 unfold afc aob
 exact gV e
def i0:Sl (Int×Unit):=⟨0,fun _=>((0:Int),())⟩
def aiJ (m:adh) (n:Nat):Sl (Int×Unit):=qA i0 (fun p=>(loA m p,())) n
def aii (m:adh) (n:Nat):Sl (Int×Unit):=qA i0 (fun p=>(hiA m p,())) n
abbrev fnT:Type:=Int×Unit->Bool×(Int×Unit)
theorem avw {m:adh} (h:aqq m) {F:fnT} {fs:fnT×fnT×Unit} {x:Int} {s0:Sl (Int×Unit)×Sl (Int×Unit)×Unit} (hF:∀ p:Nat,p < adr m->F ((p:Int),())=(true,(loA m p,()))) :
  Ef (no_index ((),((),((),((),(F,(fs,(x,(W (m.1 * m.2.1),(aY9 m,(s0,()))))))))))) (no_index ((0:Int),((i0,(i0,())),()))) = .exit 2 ((aiJ m (adr m),(i0,())),()):=by
 have hN:=h.eN
 have eN:W (m.1 * m.2.1)=((adr m:Nat):Int):=by rw [(aiv h.wide h.rows).1,hN.1]
 rw [eN]
 unfold Ef
 refine cX (ps:=fE) (adr m) dw (fun p=>((p:Int),((aiJ m p,(i0,())),()))) (by unfold dw; omega) (fun p hp=>?_) ?_
 ·unfold xV xU
  have hf:=hF p hp
  refine (cn (decide_eq_true (dW hp))).trans ?_
  refine (cn (by show (F ((p:Int),())).1=true; rw [hf])).trans ?_
  refine (cn (decide_eq_true (by show ((aiJ m p).n + 1) * 8<=140737488355328; unfold aiJ; rw [ji rfl]; omega))).trans ?_
  rw [<- ec hp (by omega)]
  have:(F ((p:Int),())).2=(loA m p,()):=by rw [hf]
  exact congrArg (fun (y:Int×Unit)=>(RQ.next (W ((p:Int) + 1),((cj (aiJ m p) ⟨1,fun i=>List.getD [y] i y⟩,(i0,())),())):RQ fE jc)) this
 ·unfold xV xU
  exact cR (decide_eq_false (by show ¬ (((adr m:Nat):Int) < ((adr m:Nat):Int)); omega))
theorem avA {m:adh} (h:aqq m) {F:fnT} {fs:fnT×fnT×Unit} {x:Int} {s0:Sl (Int×Unit)×Sl (Int×Unit)×Unit} {l:Sl (Int×Unit)} (hF:∀ p:Nat,p < adr m->F ((p:Int),())=(true,(hiA m p,()))) :
  Eg (no_index ((),((),((),((),(F,(fs,(x,(W (m.1 * m.2.1),(aY9 m,(s0,()))))))))))) (no_index ((0:Int),((l,(i0,())),()))) = .exit 2 ((l,(aii m (adr m),())),()):=by
 have hN:=h.eN
 have eN:W (m.1 * m.2.1)=((adr m:Nat):Int):=by rw [(aiv h.wide h.rows).1,hN.1]
 rw [eN]
 unfold Eg
 refine cX (ps:=fF) (adr m) dw (fun p=>((p:Int),((l,(aii m p,())),()))) (by unfold dw; omega) (fun p hp=>?_) ?_
 ·unfold xX xW
  have hf:=hF p hp
  refine (cn (decide_eq_true (dW hp))).trans ?_
  refine (cn (by show (F ((p:Int),())).1=true; rw [hf])).trans ?_
  refine (cn (decide_eq_true (by show ((aii m p).n + 1) * 8<=140737488355328; unfold aii; rw [ji rfl]; omega))).trans ?_
  rw [<- ec hp (by omega)]
  have:(F ((p:Int),())).2=(hiA m p,()):=by rw [hf]
  exact congrArg (fun (y:Int×Unit)=>(RQ.next (W ((p:Int) + 1),((l,(cj (aii m p) ⟨1,fun i=>List.getD [y] i y⟩,())),())):RQ fF jf)) this
 ·unfold xX xW
  exact cR (decide_eq_false (by show ¬ (((adr m:Nat):Int) < ((adr m:Nat):Int)); omega))
theorem aZ6 {m:adh} (h:aqq m):M88 (no_index (aY9 m,()))=some ((aiJ m (adr m),(aii m (adr m),())),()):=by
 have hN:=h.eN
 unfold M88 Q88
 refine (gV (avw h (F:=fun y1=>(ae7 (aY9 m,y1),ae8 (aY9 m,y1))) fun p hp=>?_)).trans ?_
 ·have e:=avu h (show p < 30 by omega)
  show (ae7 (aY9 m,((p:Int),())),ae8 (aY9 m,((p:Int),())))=_
  rw [show ae7 (aY9 m,((p:Int),()))=true from aiu e,show ae8 (aY9 m,((p:Int),()))=(loA m p,()) from ahw e]
 refine (gV (avA h (F:=fun y1=>(afd (aY9 m,y1),afe (aY9 m,y1))) fun p hp=>?_)).trans ?_
 ·have e:=avv h (show p < 30 by omega)
  show (afd (aY9 m,((p:Int),())),afe (aY9 m,((p:Int),())))=_
  rw [show afd (aY9 m,((p:Int),()))=true from aiu e,show afe (aY9 m,((p:Int),()))=(hiA m p,()) from ahw e]
 rfl
def adu (m:adh) (i k:Nat):Bool:=decide (phi m k < plo m i - cst m (adf m i) (adf m k)) || decide (phi m i < plo m k - cst m (adf m i) (adf m k))
def AgC (m:adh):Prop:=∀ i k,i < k->k < (sta m).n->adu m i k=false
theorem avB {m:adh} (h:aqq m) {i k:Nat} (hi:i < (sta m).n) (hk:k < (sta m).n):XQ (no_index (aY9 m,((sta m).g i,((sta m).g k,()))))=some (adu m i k,()):=by
 have hN:=h.eN
 have a1:=h.ac8 hi
 have a2:=h.ac8 hk
 have a3:=h.pr i hi
 have a4:=h.pr k hk
 have hc:=aix h (show adf m i < 30 by omega) (show adf m k < 30 by omega)
 unfold XQ anV
 refine (cI (x:=(((adi (adt m) (adf m i) (adf m k):Nat):Int),())) ?_).trans ?_
 ·show Dw ((m.1,(m.2.1,())),(((sta m).g i).1,(((sta m).g k).1,())))=_
  rw [a1.1,a2.1]
  exact adR h (by omega) (by omega)
 have e0:=ajz h (show adf m i < 30 by omega) (show adf m k < 30 by omega)
 have e1:W (plo m i - W (m.2.2.1 * ((adi (adt m) (adf m i) (adf m k):Nat):Int)))=plo m i - cst m (adf m i) (adf m k):=by rw [e0]; exact eU ⟨by unfold plo; omega,by unfold plo; omega⟩
 have e2:W (plo m k - W (m.2.2.1 * ((adi (adt m) (adf m i) (adf m k):Nat):Int)))=plo m k - cst m (adf m i) (adf m k):=by rw [e0]; exact eU ⟨by unfold plo; omega,by unfold plo; omega⟩
 show (bif decide (phi m k < W (plo m i - W (m.2.2.1 * ((adi (adt m) (adf m i) (adf m k):Nat):Int)))) then some (true,()) else some (decide (phi m i < W (plo m k - W (m.2.2.1 * ((adi (adt m) (adf m i) (adf m k):Nat):Int)))),()))=_
 rw [e1,e2]
 unfold adu
 cases decide (phi m k < plo m i - cst m (adf m i) (adf m k)) <;> rfl
theorem aXe {m:adh} (h:aqq m):∃ (a b:Int) (is:Bool),XU (no_index (aY9 m,()))=some (a,(b,(is,())))/\(is=false->AgC m)/\(is=true->∃ i k,i < k/\k < (sta m).n/\adu m i k=true):=by
  have hn:=h.n
  have inner:∀ i,i < (sta m).n->(wo (no_index ((),((i:Int),((),(sta m,((((sta m).n:Nat):Int),((i:Int),(aY9 m,((sta m).g i,()))))))))) (no_index (W ((i:Int) + 1),())) = .exit 2 ()/\∀ k,i < k->k < (sta m).n->adu m i k=false) \/
      ∃ k:Nat,wo (no_index ((),((i:Int),((),(sta m,((((sta m).n:Nat):Int),((i:Int),(aY9 m,((sta m).g i,()))))))))) (no_index (W ((i:Int) + 1),())) = .ret ((i:Int),((k:Int),(true,())))/\i < k/\k < (sta m).n/\adu m i k=true:=by
    intro i hi
    rw [ec hi (by omega)]
    have key:=qj (ps:=gU) (wy:=sM) (N:=dw) (step:=Ce ((),((i:Int),((),(sta m,((((sta m).n:Nat):Int),((i:Int),(aY9 m,((sta m).g i,())))))))))
      (P:=fun j v=>v=(((i + 1 + j:Nat):Int),())/\∀ k,i < k->k < i + 1 + j->adu m i k=false)
      (Q:=fun q=>(q = .exit 2 ()/\∀ k,i < k->k < (sta m).n->adu m i k=false)\/∃ k:Nat,q = .ret ((i:Int),((k:Int),(true,())))/\i < k/\k < (sta m).n/\adu m i k=true)
      ((sta m).n - (i + 1)) (by unfold dw; omega)
      (fun j v hj hp=>by
        obtain ⟨rfl,hp⟩:=hp
        have hk:i + 1 + j < (sta m).n:=by omega
        have st:Ce ((),((i:Int),((),(sta m,((((sta m).n:Nat):Int),((i:Int),(aY9 m,((sta m).g i,())))))))) (((i + 1 + j:Nat):Int),())=bif adu m i (i + 1 + j) then .out (.ret ((i:Int),(((i + 1 + j:Nat):Int),(true,())))) else .next (((i + 1 + (j + 1):Nat):Int),()):=by
          unfold Ce Cd
          refine (cn (decide_eq_true (dW hk))).trans ?_
          refine (cn (decide_eq_true (bO hk))).trans ?_
          refine (cI (avB h hi hk)).trans ?_
          rw [ec hk (by omega)]
          cases adu m i (i + 1 + j) <;> rfl
        cases hc:adu m i (i + 1 + j) with
        | true=>rw [hc] at st; exact .inr ⟨_,st,.inr ⟨_,rfl,by omega,hk,hc⟩⟩
        | false =>
          rw [hc] at st
          refine .inl ⟨_,st,rfl,fun k h1 h2=>?_⟩
          by_cases e:k=i + 1 + j
          · subst e; exact hc
          · exact hp k h1 (by omega))
      (fun v hp=>by
        obtain ⟨rfl,hp⟩:=hp
        refine ⟨_,?_,.inl ⟨rfl,fun k h1 h2=>hp k h1 (by omega)⟩⟩
        unfold Ce Cd
        exact cR (decide_eq_false (by show ¬ (((i + 1 + ((sta m).n - (i + 1)):Nat):Int) < (((sta m).n:Nat):Int)); omega)))
      (((i + 1:Nat):Int),()) ⟨rfl,fun k h1 h2=>by omega⟩
    exact key
  have outer:=qj (ps:=mq) (wy:=zV) (N:=dw) (step:=MD ((),(sta m,((((sta m).n:Nat):Int),(aY9 m,())))))
    (P:=fun j v=>v=((j:Int),())/\∀ i k,i < j->i < k->k < (sta m).n->adu m i k=false)
    (Q:=fun q=>(q = .exit 0 ()/\AgC m)\/∃ i k:Nat,q = .ret ((i:Int),((k:Int),(true,())))/\i < k/\k < (sta m).n/\adu m i k=true)
    (sta m).n (by unfold dw; omega)
    (fun j v hj hp=>by
      obtain ⟨rfl,hp⟩:=hp
      rcases inner j hj with ⟨e,h1⟩ | ⟨k,e,h1⟩
      · have st:MD ((),(sta m,((((sta m).n:Nat):Int),(aY9 m,())))) ((j:Int),()) = .next (((j + 1:Nat):Int),()):=by
          unfold MD MC
          refine (cn (decide_eq_true (dW hj))).trans ?_
          refine (cn (decide_eq_true (bO hj))).trans ?_
          refine (gV e).trans ?_
          rw [ec hj (by omega)]
        refine .inl ⟨_,st,rfl,fun i k a1 a2 a3=>?_⟩
        by_cases e:i=j
        · subst e; exact h1 k a2 a3
        · exact hp i k (by omega) a2 a3
      · have st:MD ((),(sta m,((((sta m).n:Nat):Int),(aY9 m,())))) ((j:Int),()) = .out (.ret ((j:Int),((k:Int),(true,())))):=by
          unfold MD MC
          refine (cn (decide_eq_true (dW hj))).trans ?_
          refine (cn (decide_eq_true (bO hj))).trans ?_
          exact (sV e).trans (xe e)
        exact .inr ⟨_,st,.inr ⟨j,k,rfl,h1⟩⟩)
    (fun v hp=>by
      obtain ⟨rfl,hp⟩:=hp
      refine ⟨_,?_,.inl ⟨rfl,fun i k a1 a2=>hp i k (by omega) a1 a2⟩⟩
      unfold MD MC
      exact cR (decide_eq_false (by show ¬ ((((sta m).n:Nat):Int) < (((sta m).n:Nat):Int)); omega)))
    ((0:Int),()) ⟨rfl,fun i k a1=>by omega⟩
  have oL:ME ((),(sta m,((((sta m).n:Nat):Int),(aY9 m,())))) ((0:Int),())=bB (MD ((),(sta m,((((sta m).n:Nat):Int),(aY9 m,()))))) dw ((0:Int),()):=rfl
  rw [<- oL] at outer
  rcases outer with ⟨e,ha⟩ | ⟨i,k,e,h1⟩
  · refine ⟨0,0,false,?_,fun _=>ha,fun h=>by cases h⟩
    unfold XU anZ
    exact gV e
  · refine ⟨i,k,true,?_,(fun h=>by cases h),fun _=>⟨i,k,h1⟩⟩
    unfold XU anZ
    exact (sV e).trans (xe e)
end Go.Dm

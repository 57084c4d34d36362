/- Rounds of an inspector: which are as defined. -/
import Derived.Test.YtgkaoimndglnoaaGreatL3TP0
set_option linter.unusedVariables false
set_option linter.unusedSimpArgs false
namespace Go.Dm.Wat
set_option maxRecDepth 100000
abbrev bI:Type:=Sl (Int×Unit)
abbrev gW:Type:=Int×Int×Unit
abbrev dx:Type:=Int×Sl gW×Sl (Sl gW×Unit)×Unit
theorem KJ (x lo hi:Int):KV (no_index (x,(lo,(hi,()))))=some (iQ x lo hi,()):=by
 unfold KV Q61 iQ
 by_cases h1:lo<=x <;> simp [h1]
theorem Sg (x lo hi:Int):M35 (no_index (x,(lo,(hi,()))))=some (iQ x lo hi,()):=by
 unfold M35 Q35 iQ
 by_cases h1:lo<=x <;> simp [h1]
def mM (s:gW):Bool:=decide (0<=s.1/\s.1<=s.2.1/\s.2.1<=60)
theorem acL (s:gW):Ul (no_index (s,()))=some (!mM s,()):=by
 unfold Ul afX mM
 by_cases h1:s.1 < 0
 ·have Sy:¬ (0<=s.1):=by omega
  simp [h1,Sy]
 ·have Sy:0<=s.1:=by omega
  by_cases h2:s.2.1 < s.1
  ·have h2':¬ (s.1<=s.2.1):=by omega
   simp [h1,Sy,h2,h2']
  ·have h2':s.1<=s.2.1:=by omega
   by_cases h3:60 < s.2.1
   ·have h3':¬ (s.2.1<=60):=by omega
    simp [h1,Sy,h2,h2',h3,h3']
   ·have h3':s.2.1<=60:=by omega
    simp [h1,Sy,h2,h2',h3,h3']
theorem atn (s:gW):Um (no_index (s,()))=true:=aiu (acL ..)
theorem ato (s:gW):Un (no_index (s,()))=(!mM s,()):=ahw (acL ..)
theorem aCG (s:gW):M36 (no_index (s,((60:Int),())))=some (mM s,()):=by
 unfold M36 Q36 mM
 by_cases h1:0<=s.1 <;> by_cases h2:s.1<=s.2.1 <;> simp [h1,h2]
def Vd (c:Nat->Bool) (n:Nat):Int:=match lO c n with
 | some k=>k
 | none=>-1
theorem KK (c:Nat->Bool) (n:Nat):decide ((0:Int)<=Vd c n)=(List.range n).any c:=by
 unfold Vd
 cases h:lO c n with
 | none =>
  have:(List.range n).any c=false:=by
   rw [List.any_eq_false]
   intro j hj
   simp [kL h j (by simpa using hj)]
  simp [this]
 | some k =>
  obtain ⟨k1,k2,_⟩:=nH h
  have:(List.range n).any c=true:=List.any_eq_true.2 ⟨k,by simpa using k1,k2⟩
  simp [this]
theorem atp {s:Sl gW} {F:(Ty.den T1)×Unit->Bool×(Ty.den T3)} {c:gW->Bool} (hF:∀ y,F (y,())=(true,(c y,()))) (h:s.n<=140737488355328) :
  NB (s,(F,()))=some (Vd (fun j=>c (s.g j)) s.n,()):=by
 have:Co (no_index (s,(F,(((s.n:Nat):Int),())))) (no_index ((0:Int),()))=match lO (fun j=>c (s.g j)) s.n with | some k=>.ret ((k:Int),()) | none=>.exit 0 ():=by
  unfold Co
  refine qg (ps:=ku) (f:=fun j=>((j:Int),())) (ep h) (fun j hj _=>?_) fun _=>?_
  ·unfold Cn Cm
   simp only [dW hj,bO hj,ec hj h,hF,decide_true,cond_true,and_self,Int.toNat_natCast]
  ·unfold Cn Cm
   simp
 unfold NB afT Vd
 simp only [this]
 cases lO (fun j=>c (s.g j)) s.n <;> rfl
theorem atq {s:Sl gW} {F:(Ty.den T1)×Unit->Bool×(Ty.den T3)} {c:gW->Bool} (hF:∀ y,F (y,())=(true,(c y,()))) (h:s.n<=140737488355328) :
  JL (s,(F,()))=some ((List.range s.n).any (fun j=>c (s.g j)),()):=by
 unfold JL afV
 rw [atp hF h]
 simp only [bU,KK]
def DF (r:dx) (j:Nat):Bool:=iQ (r.2.1.g j).1 0 10 && iQ (r.2.1.g j).2.1 0 400
def zG (r:dx) (j:Nat):Bool:=decide ((r.2.2.1.g j).1.n=r.2.2.1.n) && (List.range (r.2.2.1.g j).1.n).all fun k=>mM ((r.2.2.1.g j).1.g k)
def bQ (r:dx):Bool:=iQ r.1 0 400 && (iQ (r.2.1.n:Int) 1 6 && (decide (r.2.2.1.n=r.2.1.n + 1) && ((List.range r.2.1.n).all (DF r) && (List.range r.2.2.1.n).all (zG r))))
def vj (r:dx):Prop:=r.2.1.n<=9/\r.2.2.1.n<=10/\∀ j,j < r.2.2.1.n->(r.2.2.1.g j).1.n<=10
theorem ah9 {c:Nat->Bool} (n:Nat):(List.range n).any (fun j=>!c j) = !(List.range n).all c:=by
 rw [List.any_eq_not_all_not]; simp
theorem aia (s:Sl gW) (h:s.n<=140737488355328) (F:(Ty.den T1)×Unit->Bool×(Ty.den T3)) (hF:F=fun y=>(Um y,Un y)):JL (no_index (s,(F,())))=some (!(List.range s.n).all (fun k=>mM (s.g k)),()):=by
 rw [atq (c:=fun y=>!mM y) (fun y=>by rw [hF]; simp only [atn,ato]) h,ah9]
theorem aib (r:dx) (h:r.2.1.n<=140737488355328):JO (no_index ((),(r.2.1,(((r.2.1.n:Nat):Int),(r,()))))) (no_index ((0:Int),()))=bif (List.range r.2.1.n).all (DF r) then .exit 0 () else .ret (false,()):=by
 unfold JO
 refine eA (ps:=oW) (f:=fun j=>((j:Int),())) (ep h) (fun j hj _=>?_) fun _=>?_
 ·unfold JN JM DF
  simp only [dW hj,bO hj,ec hj h,decide_true,cond_true,and_self,Int.toNat_natCast,KJ,bU]
  cases iQ (r.2.1.g j).1 0 10 <;> cases iQ (r.2.1.g j).2.1 0 400 <;> rfl
 ·unfold JN JM
  simp
theorem aic (r:dx) (h:r.2.2.1.n<=140737488355328) (h':∀ j,j < r.2.2.1.n->(r.2.2.1.g j).1.n<=140737488355328):JT (no_index ((),(r.2.2.1,(((r.2.2.1.n:Nat):Int),(r,()))))) (no_index ((0:Int),()))=bif (List.range r.2.2.1.n).all (zG r) then .exit 2 () else .ret (false,()):=by
 unfold JT
 refine eA (ps:=oX) (f:=fun j=>((j:Int),())) (ep h) (fun j hj _=>?_) fun _=>?_
 ·have aXh:apx ((r.2.2.1.g j).1,((fun y=>(Um y,Un y)),()))=(!(List.range (r.2.2.1.g j).1.n).all (fun k=>mM ((r.2.2.1.g j).1.g k)),()):=ahw (aia (r.2.2.1.g j).1 (h' j hj) _ rfl)
  unfold JR JQ zG
  simp only [dW hj,bO hj,ec hj h,decide_true,cond_true,and_self,Int.toNat_natCast,aia (r.2.2.1.g j).1 (h' j hj) _ rfl,bU,aXh,Int.natCast_inj]
  cases decide ((r.2.2.1.g j).1.n=r.2.2.1.n) <;> cases (List.range (r.2.2.1.g j).1.n).all (fun k=>mM ((r.2.2.1.g j).1.g k)) <;> rfl
 ·unfold JR JQ
  simp
theorem alf {r:dx} (h:vj r):M50 (no_index (r,()))=some (bQ r,()):=by
 obtain ⟨h1,h2,h3⟩:=h
 unfold M50 Q50 bQ
 simp only [KJ,bU,aib r (by omega),aic r (by omega) (fun j hj=>by have:=h3 j hj; omega)]
 have hw:W (((r.2.1.n:Nat):Int) + 1)=((r.2.1.n + 1:Nat):Int):=by rw [eU ⟨by omega,by omega⟩]; rfl
 rw [hw]
 simp only [Int.natCast_inj]
 cases iQ r.1 0 400 with
 | false=>rfl
 | true =>
 cases iQ (r.2.1.n:Int) 1 6 with
 | false=>rfl
 | true =>
 cases decide (r.2.2.1.n=r.2.1.n + 1) with
 | false=>rfl
 | true =>
 cases (List.range r.2.1.n).all (DF r) <;> cases (List.range r.2.2.1.n).all (zG r) <;> rfl
theorem acE (r:dx) (h:r.2.1.n<=140737488355328):aan (no_index ((),(r,()))) (no_index ((0:Int),()))=bif (List.range r.2.1.n).all (DF r) then .exit 0 () else .ret (false,()):=by
 unfold aan
 refine eA (ps:=wF) (f:=fun j=>((j:Int),())) (ep h) (fun j hj _=>?_) fun _=>?_
 ·unfold aam aal DF
  simp only [dW hj,bO hj,ec hj h,decide_true,cond_true,and_self,Int.toNat_natCast,Sg,bU]
  cases iQ (r.2.1.g j).1 0 10 <;> cases iQ (r.2.1.g j).2.1 0 400 <;> rfl
 ·unfold aam aal
  simp
theorem KE (r:dx) {j:Nat} (hj:j < r.2.2.1.n) (h:(r.2.2.1.g j).1.n<=140737488355328):ya (no_index ((),((j:Int),(r,())))) (no_index ((0:Int),()))=bif (List.range (r.2.2.1.g j).1.n).all (fun k=>mM ((r.2.2.1.g j).1.g k)) then .exit 4 () else .ret (false,()):=by
 unfold ya
 refine eA (ps:=kD) (f:=fun k=>((k:Int),())) (ep h) (fun k hk _=>?_) fun _=>?_
 ·unfold CE CD
  simp only [dW hj,bO hj,dW hk,bO hk,ec hk h,decide_true,cond_true,and_self,Int.toNat_natCast,aCG,bU]
  cases mM ((r.2.2.1.g j).1.g k) <;> rfl
 ·unfold CE CD
  simp [dW hj]
end Go.Dm.Wat

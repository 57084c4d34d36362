/- Between which days a round's days lie, and whether an order is sure. -/
import Derived.Test.YtgkaoimndglnoaaGreatL3TW2
set_option linter.unusedVariables false
set_option linter.unusedSimpArgs false
namespace Go.Dm.Wat
set_option maxRecDepth 100000
theorem Ez {α:Type} {s0:Sl α} {y y':Nat->α}:∀ {n:Nat},(∀ j,j < n->y j=y' j)->qA s0 y n=qA s0 y' n
 | 0,_=>rfl
 | n + 1,h=>by rw [qA,qA,Ez fun j hj=>h j (by omega),h n (by omega)]
theorem xg {r:dx} {o:bI} {l l':Nat->Int}:∀ {n:Nat},(∀ j,j < n->l j=l' j)->st r o l n=st r o l' n
 | 0,_=>rfl
 | n + 1,h=>by rw [st,st,xg fun j hj=>h j (by omega),h n (by omega)]
theorem Vg {r:dx} {o:bI} {l l':Nat->Int} {n:Nat} (h:∀ j,j < n->l j=l' j) {j:Nat} (hj:j < n):arr r o l j=arr r o l' j:=by
 unfold arr
 rw [xg fun i hi=>h i (by omega),h j hj]
def days (r:dx) (o:bI) (g:Nat->Int):bI:=qA ze (fun j=>(arr r o g j,())) o.n
theorem HY (r:dx) (o:bI) (g:Nat->Int):(days r o g).n=o.n:=ji rfl
theorem acI (r:dx) (o:bI) (g:Nat->Int) {j:Nat} (hj:j < o.n):(days r o g).g j=(arr r o g j,()):=qi rfl hj
theorem CX {r:dx} {o:bI} {g g':Nat->Int} (h:∀ j,j < o.n->g j=g' j):days r o g=days r o g':=Ez fun j hj=>by rw [Vg h hj]
theorem aCU {r:dx} {o l:bI} (hr:bQ r=true) (h:bL r o=true) (hs:o.n<=10) (hl:l.n=o.n) {g:Nat->Int} (hg:∀ j,j < o.n->(l.g j).1=g j) :
  M62 (no_index (r,(o,(l,()))))=some (days r o g,(st r o g o.n,())):=by
 rw [alk hr h hs hl,xg hg]
 exact congrArg (fun q=>some (q,(st r o g o.n,()))) (CX hg)
def DG (r:dx) (o:bI) (j:Nat):Int:=(road r o j).1
def gX (r:dx) (o:bI) (j:Nat):Int:=(road r o j).2.1
def Pm (r:dx) (o:bI):bI:=qA ze (fun j=>(DG r o j,())) o.n
def CY (r:dx) (o:bI):bI:=qA ze (fun j=>(gX r o j,())) o.n
theorem Sj (r:dx) (o:bI):(CY r o).n=o.n:=ji rfl
theorem Sk (r:dx) (o:bI) (j:Nat) (hj:j < o.n):((CY r o).g j).1=gX r o j:=by unfold CY; rw [qi rfl hj]
theorem atC {r:dx} {o:bI} (hr:bQ r=true) (h:bL r o=true) (hs:o.n<=10):NG (no_index (r,(o,())))=some ((Pm r o,(CY r o,())),()):=by
 have:GG (no_index ((),((),(qA KY (road r o) o.n,(((o.n:Nat):Int),((ze,(ze,())),())))))) (no_index ((0:Int),((ze,(ze,())),()))) = .exit 0 ((Pm r o,(CY r o,())),()):=by
  unfold GG
  refine cX (ps:=kz) o.n dw (fun j=>((j:Int),((qA ze (fun j=>(DG r o j,())) j,(qA ze (fun j=>(gX r o j,())) j,())),()))) (ep (by omega)) (fun j hj=>?_) ?_
  ·have e4:(j + 1) * 8<=140737488355328:=by omega
   unfold Cq Cp
   simp only [dW hj,bO hj,ji (s0:=KY) rfl,ji (s0:=ze) rfl,qi (s0:=KY) rfl hj,ec hj (by omega:o.n<=140737488355328),e4,decide_true,cond_true,and_self,Int.toNat_natCast,qA]
   rfl
  ·unfold Cq Cp
   simp [Pm,CY]
 unfold NG af4
 simp only [alj hr h hs,bU,ji (s0:=KY) rfl]
 exact congrArg (fun q=>bp q 0 (fun (u1:(bI×bI×Unit)×Unit)=>some (u1.1,())) none) this
def rZ (r:dx) (o:bI) (j:Nat):Bool:=decide ((r.2.1.g (o.g j).1.toNat).2.1 < arr r o (gX r o) j)
def iS (r:dx) (o:bI):Bool:=(List.range o.n).all fun j=>!rZ r o j
theorem acS {c:Nat->Bool} {n:Nat}:(List.range n).all (fun j=>!c j)=(lO c n).isNone:=by
 cases h:lO c n with
 | none=>exact xd fun j hj=>by rw [kL h j hj]; rfl
 | some k =>
  obtain ⟨k1,k2,_⟩:=nH h
  cases hb:(List.range n).all (fun j=>!c j) with
  | false=>rfl
  | true=>have:=iR hb k1; rw [k2] at this; cases this
theorem atD {r:dx} {o:bI} (hr:bQ r=true) (ho:bL r o=true) (hs:o.n<=10):JY (no_index (r,(o,())))=match lO (rZ r o) o.n with
  | some k=>.bP 208 GL (o.g k) ()
  | none=>.ok (st r o (gX r o) o.n,()) ():=by
 have:Ct (no_index (o,((),(st r o (gX r o) o.n,(days r o (gX r o),(((o.n:Nat):Int),(r,()))))))) (no_index ((0:Int),()))=match lO (rZ r o) o.n with
   | some k=>.bP 208 GL (o.g k) ()
   | none=>.exit 0 ():=by
  unfold Ct
  refine qg (ps:=kA) (f:=fun j=>((j:Int),())) (ep (n:=o.n) (by omega)) (fun j hj _=>?_) fun _=>?_
  ·have h1:=fo hr ho hj
   have e2:((0:Int)<=(o.g j).1/\(o.g j).1 < ((r.2.1.n:Nat):Int)):=⟨h1.1,h1.2.1⟩
   unfold Cs Cr rZ
   simp only [dW hj,bO hj,e2,HY,acI r o _ hj,ec hj (by omega:o.n<=140737488355328),decide_true,cond_true,and_self,Int.toNat_natCast]
  ·unfold Cs Cr
   simp
 unfold JY af7
 simp only [atC hr ho hs,aCU hr ho hs (Sj r o) (Sk r o),bU,HY]
 rw [this]
 cases lO (rZ r o) o.n <;> rfl
theorem aCK {r:dx} {o:bI} (hr:bQ r=true) (ho:bL r o=true) (hs:o.n<=10):M52 (no_index (r,(o,())))=some (bif iS r o then (st r o (gX r o) o.n,(true,())) else ((0:Int),(false,()))):=by
 unfold M52 Q52 iS
 rw [acS,atD hr ho hs]
 cases lO (rZ r o) o.n <;> rfl
end Go.Dm.Wat

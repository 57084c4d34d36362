/- All alarms of a watch. -/
import Derived.Test.YtgkaoimndglnoaaGreatL5TC2
set_option linter.unusedVariables false
set_option linter.unusedSimpArgs false
namespace Go.Dm.Con
set_option maxRecDepth 100000
abbrev prT:Type:=Int×Int×Unit
abbrev adh:Type:=prT->Option Bool
abbrev ajg:Type:=Int×Sl amz×Sl am8×Sl aoe×Int×Int×Int×Int×Int×adh×Unit
def aiI (w:aiC) (i j:Nat):Bool:=aiE w (w.2.1.g i) (w.2.1.g j)
def isP (w:aiC) (i j:Nat):Bool:=decide (i < j) && aiI w i j
def amF (w:aiC) (a b:Nat):adh:=fun y=>bif decide (0<=y.1/\y.1 < y.2.1/\y.2.1 < (w.2.1.n:Int)/\(y.1 < (a:Int)\/(y.1=(a:Int)/\y.2.1 < (b:Int)))) && aiI w y.1.toNat y.2.1.toNat then some true else none
theorem aC8 (w:aiC):amF w 0 (0 + 1)=fun _=>none:=by
 funext ⟨p,q,⟨⟩⟩
 unfold amF
 have:¬ (0<=p/\p < q/\q < (w.2.1.n:Int)/\(p < ((0:Nat):Int)\/(p=((0:Nat):Int)/\q < ((0 + 1:Nat):Int)))):=by omega
 simp only [this,decide_false,Bool.false_and,cond_false]
theorem auy (w:aiC) (a:Nat):amF w a w.2.1.n=amF w (a + 1) (a + 1 + 1):=by
 funext ⟨p,q,⟨⟩⟩
 unfold amF
 have:(0<=p/\p < q/\q < (w.2.1.n:Int)/\(p < (a:Int)\/(p=(a:Int)/\q < (w.2.1.n:Int))))=(0<=p/\p < q/\q < (w.2.1.n:Int)/\(p < ((a + 1:Nat):Int)\/(p=((a + 1:Nat):Int)/\q < ((a + 1 + 1:Nat):Int)))):=propext (by omega)
 simp only [this]
theorem eqP (p q a b:Int):nJ T4 (p,(q,())) (a,(b,()))=(decide (p=a) && (decide (q=b) && true)):=rfl
theorem auf {w:aiC} {a j:Nat} (h1:a < j) (h2:j < w.2.1.n):amF w a (j + 1)=bif aiI w a j then fP (k:=T4) (v:=.bool) (nJ T4) (amF w a j) ((a:Int),((j:Int),())) true else amF w a j:=by
 funext ⟨p,q,⟨⟩⟩
 by_cases e:p=(a:Int)/\q=(j:Int)
 ·obtain ⟨rfl,rfl⟩:=e
  have e1:(0<=(a:Int)/\(a:Int) < (j:Int)/\(j:Int) < (w.2.1.n:Int)/\((a:Int) < (a:Int)\/((a:Int)=(a:Int)/\(j:Int) < ((j + 1:Nat):Int)))):=by omega
  have e2:¬ (0<=(a:Int)/\(a:Int) < (j:Int)/\(j:Int) < (w.2.1.n:Int)/\((a:Int) < (a:Int)\/((a:Int)=(a:Int)/\(j:Int) < (j:Int)))):=by omega
  cases h:aiI w a j with
  | true =>
   have e3:nJ T4 ((a:Int),((j:Int),())) ((a:Int),((j:Int),()))=true:=by rw [eqP]; simp
   refine Eq.trans (b:=some true) ?_ ?_
   ·unfold amF
    show (bif decide (0<=(a:Int)/\(a:Int) < (j:Int)/\(j:Int) < (w.2.1.n:Int)/\((a:Int) < (a:Int)\/((a:Int)=(a:Int)/\(j:Int) < ((j + 1:Nat):Int)))) && aiI w (Int.toNat (a:Int)) (Int.toNat (j:Int)) then some true else none)=some true
    rw [decide_eq_true e1,Int.toNat_natCast,Int.toNat_natCast,h]
    rfl
   ·show some true=(bif nJ T4 ((a:Int),((j:Int),())) ((a:Int),((j:Int),())) then some true else _)
    rw [e3]
    rfl
  | false=>simp only [cond_false,amF,Int.toNat_natCast,h,Bool.and_false]
 ·have e1:(0<=p/\p < q/\q < (w.2.1.n:Int)/\(p < (a:Int)\/(p=(a:Int)/\q < ((j + 1:Nat):Int))))=(0<=p/\p < q/\q < (w.2.1.n:Int)/\(p < (a:Int)\/(p=(a:Int)/\q < (j:Int)))):=propext (by omega)
  have e2:amF w a (j + 1) (p,(q,()))=amF w a j (p,(q,())):=by simp only [amF,e1]
  have e3:(decide (p=(a:Int)) && (decide (q=(j:Int)) && true))=false:=by
   by_cases x:p=(a:Int)
   ·have y:¬ q=(j:Int):=fun y=>e ⟨x,y⟩
    simp [y]
   ·simp [x]
  rw [e2]
  cases aiI w a j with
  | true =>
   show _=(bif nJ T4 (p,(q,())) ((a:Int),((j:Int),())) then some true else amF w a j (p,(q,())))
   rw [eqP,e3]
   rfl
  | false=>rfl
abbrev bxT:Type:=Int×Sl amz×Sl am8×Sl aoe×Int×Int×Int×Int×Int×Unit×Unit
theorem aGD {w:aiC} (hl:w.2.2.1.n<=140737488355328) (h:w.2.1.n<=140737488355328) {a:Nat} (ha:a < w.2.1.n) (bx:bxT) (m:Int) (row:Sl amz) :
  Hv (no_index ((),((),((),((a:Int),((),(row,(m,((a:Int),(w,(w.2.1.g a,())))))))))) ) (no_index (((a + 1:Nat):Int),(bx,(amF w a (a + 1),())))) = .exit 2 (bx,(amF w a w.2.1.n,())):=by
 have hk:a + 1 + (w.2.1.n - (a + 1))=w.2.1.n:=by omega
 unfold Hv
 refine cX (ps:=jH) (w.2.1.n - (a + 1)) dw (fun t=>(((a + 1 + t:Nat):Int),(bx,(amF w a (a + 1 + t),())))) (ep (by omega)) (fun t ht=>?_) ?_
 ·have hj:a + 1 + t < w.2.1.n:=by omega
  show Hu _ _=RQ.next (((a + 1 + t + 1:Nat):Int),(bx,(amF w a (a + 1 + t + 1),())))
  rw [auf (show a < a + 1 + t by omega) hj]
  unfold Hu Ht
  simp only [dW hj,bO hj,ec hj h,decide_true,cond_true,and_self,Int.toNat_natCast,aGC hl,bU]
  show (bif aiI w a (a + 1 + t) then _ else _)=_
  cases aiI w a (a + 1 + t) <;> rfl
 ·unfold Hu Ht
  simp only [hk,Int.lt_irrefl,decide_false,cond_false]
def aj8 (w:aiC) (m:adh):ajg:=(w.1,(w.2.1,(w.2.2.1,(w.2.2.2.1,(w.2.2.2.2.1,(w.2.2.2.2.2.1,(w.2.2.2.2.2.2.1,(w.2.2.2.2.2.2.2.1,(w.2.2.2.2.2.2.2.2.1,(m,()))))))))))
def alH (w:aiC):ajg:=aj8 w (amF w w.2.1.n (w.2.1.n + 1))
theorem aUw {w:aiC} (hl:w.2.2.1.n<=140737488355328) (h:w.2.1.n<=140737488355328) (bx:bxT) :
  akA (no_index ((),((),((),(w.2.1,(((w.2.1.n:Nat):Int),(w,()))))))) (no_index ((0:Int),(bx,((fun _=>none),())))) = .exit 0 (bx,(amF w w.2.1.n (w.2.1.n + 1),())):=by
 unfold akA
 rw [<- aC8 w]
 refine cX (ps:=rN) w.2.1.n dw (fun a=>((a:Int),(bx,(amF w a (a + 1),())))) (ep h) (fun a ha=>?_) ?_
 ·unfold aaX aaW
  simp only [dW ha,bO ha,ec ha h,decide_true,cond_true,and_self,Int.toNat_natCast]
  rw [aGD hl h ha bx]
  simp only [auy]
  rfl
 ·unfold aaX aaW
  simp only [Int.lt_irrefl,decide_false,cond_false]
theorem au4 {w:aiC} (hl:w.2.2.1.n<=140737488355328) (h:w.2.1.n<=140737488355328):M94 (no_index (w,()))=some (alH w,()):=by
 unfold M94 Q94
 rw [aUw hl h]
 rfl
section
variable {β:Type} (mk:Nat->Nat->β)
def apJ (w:aiC) (a:Nat):Nat->List β
 | 0=>[]
 | b + 1=>apJ w a b ++ (bif isP w a b then [mk a b] else [])
def ana (w:aiC):Nat->List β
 | 0=>[]
 | a + 1=>ana w a ++ apJ mk w a w.2.1.n
theorem at3 (w:aiC) (a:Nat):∀ b,(apJ mk w a b).length<=b
 | 0=>Nat.le_refl _
 | b + 1=>by
  have:=at3 w a b
  simp only [apJ,List.length_append]
  cases isP w a b <;> simp <;> omega
theorem aqw (w:aiC):∀ a,(ana mk w a).length<=a * w.2.1.n
 | 0=>by simp [ana]
 | a + 1=>by
  have h1:=aqw w a
  have h2:=at3 mk w a w.2.1.n
  simp only [ana,List.length_append,Nat.add_mul,Nat.one_mul]
  omega
end
theorem at4 {β γ:Type} (mk:Nat->Nat->β) (f:β->γ) (w:aiC) (a:Nat):∀ b,(apJ mk w a b).map f=apJ (fun i j=>f (mk i j)) w a b
 | 0=>rfl
 | b + 1=>by
  simp only [apJ,List.map_append,at4 mk f w a b]
  cases isP w a b <;> rfl
theorem at5 {β γ:Type} (mk:Nat->Nat->β) (f:β->γ) (w:aiC):∀ a,(ana mk w a).map f=ana (fun i j=>f (mk i j)) w a
 | 0=>rfl
 | a + 1=>by simp only [ana,List.map_append,at5 mk f w a,at4]
theorem aC9 {w:aiC} {i j:Nat} (hi:i < w.2.1.n) (hj:j < w.2.1.n):Rr (alH w) (i:Int) (j:Int)=isP w i j:=by
 show Option.getD (amF w w.2.1.n (w.2.1.n + 1) ((i:Int),((j:Int),()))) false=_
 unfold amF isP
 simp only [Int.toNat_natCast]
 by_cases e:i < j
 ·have:(0<=(i:Int)/\(i:Int) < (j:Int)/\(j:Int) < (w.2.1.n:Int)/\((i:Int) < (w.2.1.n:Int)\/((i:Int)=(w.2.1.n:Int)/\(j:Int) < ((w.2.1.n + 1:Nat):Int)))):=by omega
  rw [decide_eq_true this,decide_eq_true e]
  cases aiI w i j <;> rfl
 ·have:¬ (0<=(i:Int)/\(i:Int) < (j:Int)/\(j:Int) < (w.2.1.n:Int)/\((i:Int) < (w.2.1.n:Int)\/((i:Int)=(w.2.1.n:Int)/\(j:Int) < ((w.2.1.n + 1:Nat):Int)))):=by omega
  rw [decide_eq_false this,decide_eq_false e]
  rfl
def itN (i j:Nat):cC.den:=yb (i:Int) (j:Int)
theorem at6 {w:aiC} {a:Nat} (ha:a < w.2.1.n):∀ (m j:Nat) (tr:Sl cC.den) (base:List cC.den),j + m=w.2.1.n->tr.list=base ++ apJ itN w a j->(jP (alH w) (a:Int) m (j:Int) tr).list=base ++ apJ itN w a w.2.1.n
 | 0,j,tr,base,hj,ht=>by
  have:j=w.2.1.n:=by omega
  subst this
  exact ht
 | m + 1,j,tr,base,hj,ht=>by
  show (jP (alH w) (a:Int) m ((j + 1:Nat):Int) (pT (alH w) (a:Int) (j:Int) tr)).list=_
  refine at6 ha m (j + 1) _ base (by omega) ?_
  unfold pT
  rw [aC9 ha (show j < w.2.1.n by omega)]
  simp only [apJ]
  cases isP w a j with
  | true=>rw [cond_true,cond_true,Hz,ht,List.append_assoc]; rfl
  | false=>rw [cond_false,cond_false,ht,List.append_nil]
theorem at7 {w:aiC}:∀ (m i:Nat) (tr:Sl cC.den),i + m=w.2.1.n->tr.list=ana itN w i->(jQ (alH w) m (i:Int) tr).list=ana itN w w.2.1.n
 | 0,i,tr,hi,ht=>by
  have:i=w.2.1.n:=by omega
  subst this
  exact ht
 | m + 1,i,tr,hi,ht=>by
  show (jQ (alH w) m ((i + 1:Nat):Int) (pU (alH w) (i:Int) tr)).list=_
  refine at7 m (i + 1) _ (by omega) ?_
  have e:(DB (alH w) - 0).toNat=w.2.1.n:=by show (((w.2.1.n:Nat):Int) - 0).toNat=_; omega
  unfold pU
  rw [e]
  simp only [ana]
  exact at6 (show i < w.2.1.n by omega) w.2.1.n 0 tr (ana itN w i) (by omega) (by rw [ht]; simp [apJ])
theorem apQ (w:aiC):(wP (alH w)).list=ana itN w w.2.1.n:=by
 have e:(DB (alH w) - 0).toNat=w.2.1.n:=by show (((w.2.1.n:Nat):Int) - 0).toNat=_; omega
 unfold wP
 rw [e]
 exact at7 w.2.1.n 0 _ (by omega) rfl
theorem asc {w:aiC} (h:w.2.1.n<=140737488355328):ag2 (alH w,()) ()=true:=by
 show decide (((w.2.1.n:Nat):Int)<=9223372036854775806/\(0:Int)<=0)=true
 exact decide_eq_true (by omega)
end Go.Dm.Con

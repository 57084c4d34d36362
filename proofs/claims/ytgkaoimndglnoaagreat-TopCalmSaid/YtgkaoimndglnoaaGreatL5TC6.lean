/- The least and the greatest delays. -/
import Derived.Test.YtgkaoimndglnoaaGreatL5TC5
set_option linter.unusedVariables false
set_option linter.unusedSimpArgs false
namespace Go.Dm.Con
set_option maxRecDepth 100000
def aug (w:aiC) (b:Bool) (i:Nat):Int×Unit:=(bif b then (w.2.1.g i).2.2.2.2.1 else (w.2.1.g i).2.2.2.1,())
def asM:bI:=⟨0,fun _=>((0:Int),())⟩
def al6 (w:aiC) (b:Bool):bI:=qA asM (aug w b) w.2.1.n
theorem asi (w:aiC) (b:Bool):(al6 w b).n=w.2.1.n:=ji rfl
theorem auh (w:aiC) (b:Bool) {i:Nat} (h:i < w.2.1.n):(al6 w b).g i=aug w b i:=qi rfl h
theorem asj {w:aiC} (hw:akQ w=true) (b:Bool):aoC w (al6 w b)=true:=by
 unfold aoC
 rw [asi]
 simp only [decide_true,Bool.true_and]
 refine xd fun j hj=>?_
 unfold aT6
 rw [auh w b hj]
 have:=atI hw hj
 unfold iQ aug
 cases b
 ·exact decide_eq_true ⟨Int.le_refl _,by show (w.2.1.g j).2.2.2.1<=_; omega⟩
 ·exact decide_eq_true ⟨by show _<=(w.2.1.g j).2.2.2.2.1; omega,Int.le_refl _⟩
theorem aIS {n:Nat} (hn:n<=1000) (F:Int×Unit->Bool×(Int×Unit)) (y:Nat->Int×Unit) (hF:∀ j,j < n->F ((j:Int),())=(true,y j)) (p2:(Ty.den xT)) (k:ajg) (bx2:(bI×bI×Unit)×Unit) (r2:bI) :
  Er (no_index ((),((),((),((),(F,(p2,((0:Int),((n:Int),(k,bx2)))))))))) (no_index ((0:Int),((asM,(r2,())),()))) = .exit 2 ((qA asM y n,(r2,())),()):=by
 unfold Er
 refine cX (ps:=fG) n dw (fun j=>((j:Int),((qA asM y j,(r2,())),()))) (ep (by omega)) (fun j hj=>?_) ?_
 ·have hb:((qA asM y j).n + 1) * 8<=140737488355328:=by rw [ji rfl]; omega
  unfold yd yc
  simp only [dW hj,ec hj (show n<=_ by omega),hF j hj,decide_true,cond_true,hb]
  rfl
 ·unfold yd yc
  simp only [Int.lt_irrefl,decide_false,cond_false]
theorem aIT {n:Nat} (hn:n<=1000) (F:Int×Unit->Bool×(Int×Unit)) (y:Nat->Int×Unit) (hF:∀ j,j < n->F ((j:Int),())=(true,y j)) (p2:(Ty.den xT)) (k:ajg) (bx2:(bI×bI×Unit)×Unit) (r1:bI) :
  Es (no_index ((),((),((),((),(F,(p2,((1:Int),((n:Int),(k,bx2)))))))))) (no_index ((0:Int),((r1,(asM,())),()))) = .exit 2 ((r1,(qA asM y n,())),()):=by
 unfold Es
 refine cX (ps:=fH) n dw (fun j=>((j:Int),((r1,(qA asM y j,())),()))) (ep (by omega)) (fun j hj=>?_) ?_
 ·have hb:((qA asM y j).n + 1) * 8<=140737488355328:=by rw [ji rfl]; omega
  unfold yf ye
  simp only [dW hj,ec hj (show n<=_ by omega),hF j hj,decide_true,cond_true,hb]
  rfl
 ·unfold yf ye
  simp only [Int.lt_irrefl,decide_false,cond_false]
theorem ave {w:aiC} {j:Nat} (hj:j < w.2.1.n):ag9 (no_index (alH w,((j:Int),())))=some (aug w false j):=by
 unfold ag9 arQ
 simp only [alH,aj8,bO hj,and_self,decide_true,cond_true,Int.toNat_natCast]
 rfl
theorem avf {w:aiC} {j:Nat} (hj:j < w.2.1.n):ahd (no_index (alH w,((j:Int),())))=some (aug w true j):=by
 unfold ahd arS
 simp only [alH,aj8,bO hj,and_self,decide_true,cond_true,Int.toNat_natCast]
 rfl
theorem aEh {w:aiC} (h:w.2.1.n<=1000):M96 (no_index (alH w,()))=some ((al6 w false,(al6 w true,())),()):=by
 have f1:∀ j,j < w.2.1.n->(fun y1:Int×Unit=>((aha (alH w,y1)),(ahb (alH w,y1)))) ((j:Int),())=(true,aug w false j):=fun j hj=>by
  exact Prod.ext (aiu (ave hj ..)) (ahw (ave hj ..))
 have f2:∀ j,j < w.2.1.n->(fun y1:Int×Unit=>((ahe (alH w,y1)),(ahf (alH w,y1)))) ((j:Int),())=(true,aug w true j):=fun j hj=>by
  exact Prod.ext (aiu (avf hj ..)) (ahw (avf hj ..))
 unfold M96 Q96
 refine (congrArg (fun o=>bp o 2 _ _) (aIS h _ _ f1 _ (alH w) _ asM)).trans ?_
 refine (congrArg (fun o=>bp o 2 _ _) (aIT h _ _ f2 _ (alH w) _ (al6 w false))).trans ?_
 rfl
def arB (w:aiC):Int×Int×Int×Unit:=bif decide (anI w (al6 w false) < 0) then ((0:Int),((0:Int),((5:Int),()))) else (anI w (al6 w false),(bif decide (anI w (al6 w true) < 0) then (-1:Int) else anI w (al6 w true),((0:Int),())))
theorem aUC {w:aiC} (hw:akQ w=true):M31 (no_index (w,()))=some (arB w):=by
 obtain ⟨h1,h2,h3⟩:=small hw
 unfold M31 Q31 arB
 simp only [atS,hw,bU,au4 (show w.2.2.1.n<=_ by omega) (show w.2.1.n<=_ by omega),aEh (show w.2.1.n<=_ by omega),aEf (show w.2.1.n<=_ by omega) (asi w false),aEf (show w.2.1.n<=_ by omega) (asi w true),Bool.not_true,cond_false]
 cases decide (anI w (al6 w false) < 0) with
 | true=>rfl
 | false=>cases decide (anI w (al6 w true) < 0) <;> rfl
theorem aum {a b c d:Int} (h1:a<=c) (h2:b<=d):mx a b<=mx c d:=by
 have:=aul a b
 have:=aul c d
 omega
theorem aIU {w:aiC} {d:bI} (h:aoC w d=true) {i:Nat} (hi:i < w.2.1.n):((al6 w false).g i).1<=(d.g i).1/\(d.g i).1<=((al6 w true).g i).1:=by
 simp only [aoC,Bool.and_eq_true] at h
 have:=rW (iR h.2 hi)
 rw [auh w false hi,auh w true hi]
 exact this
end Go.Dm.Con

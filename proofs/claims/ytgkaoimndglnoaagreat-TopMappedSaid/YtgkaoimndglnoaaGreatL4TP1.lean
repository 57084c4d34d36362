/- Stations with a barometer: which are as defined, and the bounds of the index of a day. -/
import Derived.Test.YtgkaoimndglnoaaGreatL4TP0
set_option linter.unusedVariables false
set_option linter.unusedSimpArgs false
namespace Go.Dm
set_option maxRecDepth 100000
abbrev ckT:Type:=Int×Int×Int×Unit
abbrev ju:Type:=Int×Int×Int×Int×Int×Int×Int×Int×Sl ckT×Unit
abbrev loT:Type:=Int×Int×Int×Int×Int×Int×Int×Int×Sl ckT×Unit×Unit
def cq (s:ju):Sl ckT:=s.2.2.2.2.2.2.2.2.1
def KW (s:ju):Int:=s.2.2.2.2.1
def rX (s:ju):loT:=(s.1,s.2.1,s.2.2.1,s.2.2.2.1,s.2.2.2.2.1,s.2.2.2.2.2.1,s.2.2.2.2.2.2.1,s.2.2.2.2.2.2.2.1,s.2.2.2.2.2.2.2.2.1,(),())
def Pb (lo hi a b:Int):Bool:=decide (a<=lo/\lo<=hi/\hi<=b)
theorem acq {lo hi a b:Int} (h:Pb lo hi a b=true):a<=lo/\lo<=hi/\hi<=b:=of_decide_eq_true h
def ckC (c:ckT):Bool:=iQ c.1 0 400 && Pb c.2.1 c.2.2.1 (-2000) 2000
def stR (s:ju):Bool:=Pb s.1 s.2.1 0 3000 && (Pb s.2.2.1 s.2.2.2.1 (-3000) 3000 && (iQ s.2.2.2.2.1 0 100 && (iQ s.2.2.2.2.2.1 0 200 && (iQ s.2.2.2.2.2.2.1 (-720) 720 && (iQ s.2.2.2.2.2.2.2.1 0 60 && decide (((cq s).n:Int)<=12))))))
def stB (s:ju):Bool:=(List.range (cq s).n).all (fun j=>ckC ((cq s).g j)) && stR s
theorem KB (x lo hi:Int):Ed (no_index (x,(lo,(hi,()))))=some (iQ x lo hi,()):=by
 unfold Ed Q48 iQ
 by_cases h1:lo<=x <;> simp [h1]
theorem acu (l h a b:Int):zA (no_index ((l,(h,())),(a,(b,()))))=some (Pb l h a b,()):=by
 unfold zA ad0 Pb
 by_cases h1:a<=l <;> by_cases h2:l<=h <;> simp [h1,h2]
theorem ata (c:ckT):LX (no_index (c,()))=some (ckC c,()):=by
 obtain ⟨d,l,h,⟨⟩⟩:=c
 unfold LX ad4 ckC
 simp only [KB,acu,bU]
 cases iQ d 0 400 <;> rfl
theorem acv (s:ju) (h:(cq s).n<=140737488355328):BT (no_index ((),((cq s),((((cq s).n:Nat):Int),(s,()))))) (no_index ((0:Int),()))=bif (List.range (cq s).n).all (fun j=>ckC ((cq s).g j)) then .exit 0 () else .ret (false,()):=by
 unfold BT
 refine eA (ps:=kg) (f:=fun j=>((j:Int),())) (ep h) (fun j hj _=>?_) fun _=>?_
 ·unfold BS BR
  simp only [dW hj,bO hj,ec hj h,decide_true,cond_true,and_self,Int.toNat_natCast,ata,bU]
  cases ckC ((cq s).g j) <;> rfl
 ·unfold BS BR
  simp
theorem atb (s:ju) (h:(cq s).n<=16):Fz (no_index (s,()))=some (stB s,()):=by
 unfold Fz ad8 stB stR
 have e:=acv s (by omega)
 unfold cq at *
 simp only [e,KB,acu,bU]
 cases (List.range s.2.2.2.2.2.2.2.2.1.n).all (fun j=>ckC (s.2.2.2.2.2.2.2.2.1.g j)) with
 | false=>rfl
 | true =>
 cases Pb s.1 s.2.1 0 3000 with
 | false=>rfl
 | true =>
 cases Pb s.2.2.1 s.2.2.2.1 (-3000) 3000 with
 | false=>rfl
 | true =>
 cases iQ s.2.2.2.2.1 0 100 with
 | false=>rfl
 | true =>
 cases iQ s.2.2.2.2.2.1 0 200 with
 | false=>rfl
 | true =>
 cases iQ s.2.2.2.2.2.2.1 (-720) 720 with
 | false=>rfl
 | true =>
 cases iQ s.2.2.2.2.2.2.2.1 0 60 <;> rfl
theorem acw (a b:Int) (d:Int×Unit):FA (no_index ((⟨2,fun i=>List.getD [(a,()),(b,())] i d⟩:Sl (Int×Unit)),()))=some (max a b,()):=by
 unfold FA aeb
 simp [Pa]
theorem atc (a b:Int) (d:Int×Unit):Js (no_index ((⟨2,fun i=>List.getD [(a,()),(b,())] i d⟩:Sl (Int×Unit)),()))=some (min a b,()):=by
 unfold Js aef
 simp [as9]
def AF (a b:Int):Int:=max (a - b) (b - a)
theorem acy {a b:Int} (ha:0<=a/\a<=99999) (hb:0<=b/\b<=99999):Ma (no_index (a,(b,())))=some (AF a b,()):=by
 unfold Ma aeg AF
 rw [eU (n:=a - b) ⟨by omega,by omega⟩,eU (n:=b - a) ⟨by omega,by omega⟩]
 simp only [acw,bU]
end Go.Dm

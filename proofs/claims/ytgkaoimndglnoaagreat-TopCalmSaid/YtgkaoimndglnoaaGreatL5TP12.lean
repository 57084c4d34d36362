/- The bounds of a map. -/
import Derived.Test.YtgkaoimndglnoaaGreatL5TP11
set_option linter.unusedVariables false
set_option linter.unusedSimpArgs false
namespace Go.Dm
set_option maxRecDepth 100000
def adt (m:adh):Nat:=m.1.toNat
def mr (m:adh):Nat:=m.2.1.toNat
def adr (m:adh):Nat:=adt m * mr m
def adf (m:adh) (j:Nat):Nat:=((sta m).g j).1.toNat
def slo (m:adh):Int:=m.2.2.1
def cst (m:adh) (a b:Nat):Int:=slo m * ((adi (adt m) a b:Nat):Int)
def plo (m:adh) (j:Nat):Int:=((sta m).g j).2.1
def phi (m:adh) (j:Nat):Int:=((sta m).g j).2.2.1
theorem aqq.adU {m:adh} (h:aqq m):m.1=(adt m:Int)/\1<=adt m/\adt m<=6:=by have:=h.wide; unfold adt; omega
theorem aqq.ac7 {m:adh} (h:aqq m):m.2.1=(mr m:Int)/\1<=mr m/\mr m<=5:=by have:=h.rows; unfold mr; omega
theorem aqq.eN {m:adh} (h:aqq m):m.1 * m.2.1=((adr m:Nat):Int)/\1<=adr m/\adr m<=30:=by
 have h1:=h.adU
 have h2:=h.ac7
 have a:=aWn h.wide h.rows
 have:m.1 * m.2.1=((adr m:Nat):Int):=by unfold adr; rw [Int.natCast_mul,<- h1.1,<- h2.1]
 omega
theorem aqq.ac8 {m:adh} (h:aqq m) {j:Nat} (hj:j < (sta m).n):((sta m).g j).1=(adf m j:Int)/\adf m j < adr m:=by
 have h1:=h.pt j hj
 have h2:=h.eN
 unfold adf
 omega
theorem avr {m:adh} (h:aqq m) (a b:Nat):0<=cst m a b:=Int.mul_nonneg h.aD7.1 (by omega)
theorem aix {m:adh} (h:aqq m) {a b:Nat} (ha:a < 30) (hb:b < 30):0<=cst m a b/\cst m a b<=600000:=by
 have h1:=aES h.adU.2 ha hb
 have h2:slo m * ((adi (adt m) a b:Nat):Int)<=5000 * 120:=Int.mul_le_mul h.aD7.2 (by omega) (by omega) (by omega)
 exact ⟨avr h a b,by unfold cst; omega⟩
theorem aEU (m:adh) (a b:Nat):cst m a b=cst m b a:=by unfold cst; rw [aow]
theorem ajz {m:adh} (h:aqq m) {a b:Nat} (ha:a < 30) (hb:b < 30):W (m.2.2.1 * ((adi (adt m) a b:Nat):Int))=cst m a b:=by
 have:=aix h ha hb
 exact eU ⟨by unfold cst slo at this; omega,by unfold cst slo at this; omega⟩
theorem avs (a b:Int) (d:Int×Unit):TN (no_index ((⟨2,fun i=>List.getD [(a,()),(b,())] i d⟩:Sl (Int×Unit)),()))=some (max a b,()):=by
 unfold TN anl
 simp [Pa]
end Go.Dm

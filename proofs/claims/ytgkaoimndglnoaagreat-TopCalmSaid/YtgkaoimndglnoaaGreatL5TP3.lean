/- The index of a day, and the day on which a station is due. -/
import Derived.Test.YtgkaoimndglnoaaGreatL5TP2
set_option linter.unusedVariables false
set_option linter.unusedSimpArgs false
namespace Go.Dm
set_option maxRecDepth 100000
def bl (s:ju) (d:Int) (j:Nat):Int:=((cq s).g j).2.1 - KD s d ((cq s).g j).1
def bh (s:ju) (d:Int) (j:Nat):Int:=((cq s).g j).2.2.1 + KD s d ((cq s).g j).1
def Vb (s:ju) (d:Int):Nat->Int
 | 0=>-2000
 | j + 1=>max (Vb s d j) (bl s d j)
def Vc (s:ju) (d:Int):Nat->Int
 | 0=>2000
 | j + 1=>min (Vc s d j) (bh s d j)
abbrev spT:Type:=Int×Int×Unit
def idx (s:ju) (d:Int):spT:=(Vb s d (cq s).n,Vc s d (cq s).n,())
abbrev mpT:Type:=Int->Option spT
def Mem (s:ju) (m:mpT):Prop:=∀ d y,m d=some y->y=idx s d
theorem Mem.none (s:ju):Mem s fun _=>none:=fun _ _ h=>by cases h
end Go.Dm

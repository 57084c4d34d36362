/- Stations with a barometer: which are as defined, and the bounds of the index of a day. -/
import Derived.Test.YtgkaoimndglnoaaGreatL5TP0
set_option linter.unusedVariables false
set_option linter.unusedSimpArgs false
namespace Go.Dm
set_option maxRecDepth 100000
abbrev ckT:Type:=Int×Int×Int×Unit
abbrev ju:Type:=Int×Int×Int×Int×Int×Int×Int×Int×Sl ckT×Unit
def cq (s:ju):Sl ckT:=s.2.2.2.2.2.2.2.2.1
def KW (s:ju):Int:=s.2.2.2.2.1
def Pb (lo hi a b:Int):Bool:=decide (a<=lo/\lo<=hi/\hi<=b)
def AF (a b:Int):Int:=max (a - b) (b - a)
end Go.Dm

/- Links of lows, in plain terms: where lows can be, and all links in order. -/
import Derived.Test.YtadkaccpacpklaaL13GB
set_option linter.unusedVariables false
set_option linter.unusedSimpArgs false
namespace Go.Low
abbrev B6:=Int×Int×Int×Int×Int×Int×Unit
abbrev LL:=List (List Int)
def lo (b:B6):Nat->Int
 | 0=>b.1
 | 1=>b.2.2.1
 | _=>b.2.2.2.2.1
def hi (b:B6):Nat->Int
 | 0=>b.2.1
 | 1=>b.2.2.2.1
 | _=>b.2.2.2.2.2.1
structure PS where
 N:Nat
 tm:Nat->Int
 k:Nat->Nat
 box:Nat->Nat->B6
 speed:Int
 BN:Int
 born:Int
 gone:Int
structure PS.Ok (s:PS):Prop where
 n1:0 < s.N
 n4:s.N<=4
 k:∀ t,t < s.N->s.k t<=3
 Xp:∀ t,t < s.N->0<=s.tm t/\s.tm t<=200
 tm:∀ t,t + 1 < s.N->s.tm t < s.tm (t + 1)
 box:∀ t i,t < s.N->i < s.k t->∀ a,a < 3->0<=lo (s.box t i) a/\lo (s.box t i) a<=hi (s.box t i) a/\hi (s.box t i) a<=99999
 sp:0<=s.speed/\s.speed<=50
 dp:0<=s.BN/\s.BN<=1000
 bn:0<=s.born/\s.born<=12
 gn:0<=s.gone/\s.gone<=12
def wide (s:PS) (b:B6) (h:Int):B6:=(b.1 - s.speed * h,b.2.1 + s.speed * h,b.2.2.1 - s.speed * h,b.2.2.2.1 + s.speed * h,b.2.2.2.2.1 - s.BN * h,b.2.2.2.2.2.1 + s.BN * h,())
def inter (b c:B6):B6:=(max b.1 c.1,min b.2.1 c.2.1,max b.2.2.1 c.2.2.1,min b.2.2.2.1 c.2.2.2.1,max b.2.2.2.2.1 c.2.2.2.2.1,min b.2.2.2.2.2.1 c.2.2.2.2.2.1,())
def qR (L:LL) (t i:Nat):Int:=(L.getD t []).getD i (-1)
def can (s:PS) (L:LL):Nat->Nat->B6
 | 0,i=>s.box 0 i
 | t + 1,i=>if 0<=qR L (t + 1) i then inter (s.box (t + 1) i) (wide s (can s L t (qR L (t + 1) i).toNat) (s.tm (t + 1) - s.tm t)) else s.box (t + 1) i
end Go.Low

/- Watches: delays, and pairs of reports that are an alarm. -/
import Derived.Test.YtgkaoimndglnoaaGreatL5TC1
set_option linter.unusedVariables false
set_option linter.unusedSimpArgs false
namespace Go.Dm.Con
set_option maxRecDepth 100000
def aT6 (d:bI) (s:Sl amz) (j:Nat):Bool:=iQ (d.g j).1 (s.g j).2.2.2.1 (s.g j).2.2.2.2.1
def aoC (w:aiC) (d:bI):Bool:=decide (d.n=w.2.1.n) && (List.range w.2.1.n).all (aT6 d w.2.1)
def asA (a b:Int):Int:=mx (W (a - b)) (W (b - a))
theorem au2 (a b:Int):Ks (no_index (a,(b,())))=some (asA a b,()):=rfl
def aqI (w:aiC) (r s:amz):Bool:=decide (r.1=s.1) && (decide (r.2.1 < s.2.1) && decide (w.2.2.2.2.1<=W (r.2.2.1 - s.2.2.1)))
theorem aGz (w:aiC) (r s:amz):UF (no_index (w,(r,(s,()))))=some (aqI w r s,()):=by
 unfold UF art aqI
 by_cases h1:r.1=s.1 <;> by_cases h2:r.2.1 < s.2.1 <;> simp [h1,h2]
def aC7 (l:am8) (r s:amz):Bool:=(decide (l.1=r.1) && decide (l.2.1=s.1)) || (decide (l.1=s.1) && decide (l.2.1=r.1))
def aqJ (r s:amz) (l:am8):Bool:=aC7 l r s && decide (l.2.2.1<=asA r.2.2.1 s.2.2.1)
theorem au3 (l:am8) (r s:amz):agW (no_index (l,(r,(s,()))))=some (aqJ r s l,()):=by
 unfold agW arv aqJ aC7
 simp only [au2,bU]
 cases decide (l.1=r.1) <;> cases decide (l.2.1=s.1) <;> cases decide (l.1=s.1) <;> cases decide (l.2.1=r.1) <;> rfl
def aqK (w:aiC) (r s:amz):Bool:=(List.range w.2.2.1.n).any fun j=>aqJ r s (w.2.2.1.g j)
theorem aGA {w:aiC} (h:w.2.2.1.n<=140737488355328) (r s:amz):aaR (no_index (w,(r,(s,()))))=some (aqK w r s,()):=by
 unfold aaR arx aqK
 simp only [au1 (fun y1:am8×Unit=>((aAI (y1.1,(r,(s,())))),(aAJ (y1.1,(r,(s,())))))) (c:=aqJ r s) (fun y=>by exact Prod.ext (aiu (au3 ..)) (ahw (au3 ..))) h,bU]
def aiE (w:aiC) (r s:amz):Bool:=decide (asA r.2.1 s.2.1<=w.2.2.2.2.2.1) && (aqI w r s || (aqI w s r || aqK w r s))
theorem aGC {w:aiC} (h:w.2.2.1.n<=140737488355328) (r s:amz):aaS (no_index (w,(r,(s,()))))=some (aiE w r s,()):=by
 unfold aaS arz aiE
 simp only [au2,aGz,aGA h,bU]
 cases decide (asA r.2.1 s.2.1<=w.2.2.2.2.2.1) <;> cases aqI w r s <;> cases aqI w s r <;> rfl
end Go.Dm.Con

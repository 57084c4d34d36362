/- All links, in order: map by map, and low by low. -/
import Derived.Test.YtadkaccpacpklaaL13LM0
set_option linter.unusedVariables false
set_option linter.unusedSimpArgs false
namespace Go.Low
variable {s:PS}
def has (r:List Int) (b:Int):Bool:=r.contains b
def eY (k:Nat) (r:List Int):Nat:=((List.range k).filter fun b:Nat=>!has r (b:Int)).length
def eO (r:List Int):Nat:=r.count (-1)
def eP (L:LL):Nat:=((L.drop 1).map eO).sum
def fc (L:LL):Nat:=((List.range (L.length - 1)).map fun t=>eY (L.getD t []).length (L.getD (t + 1) [])).sum
theorem ku {L M:LL} {t:Nat} (h:t < L.length):(L ++ M).getD t []=L.getD t []:=by
 simp only [List.getD_eq_getElem?_getD]; rw [List.getElem?_append_left h]
theorem jo {L:LL} {r:List Int}:(L ++ [r]).getD L.length []=r:=by
 simp only [List.getD_eq_getElem?_getD]; rw [List.getElem?_append_right (Nat.le_refl _),Nat.sub_self]; rfl
theorem qZ {L:LL} {r:List Int} (h:0 < L.length):eP (L ++ [r])=eP L + eO r:=by
 cases L with
 | nil=>cases h
 | cons a L=>simp [eP]
theorem Ci {L:LL} {r:List Int} (h:0 < L.length):fc (L ++ [r])=fc L + eY (L.getD (L.length - 1) []).length r:=by
 obtain ⟨n,hn⟩:∃ n,L.length=n + 1:=⟨L.length - 1,by omega⟩
 unfold fc
 rw [List.length_append,List.length_singleton,hn,Nat.add_sub_cancel,Nat.add_sub_cancel,List.range_succ,List.map_append,List.sum_append]
 congr 1
 ·refine congrArg List.sum (List.map_congr_left fun t ht=>?_)
  have ht:=List.mem_range.1 ht
  rw [ku (by omega),ku (by omega)]
 ·have e:=jo (L:=L) (r:=r)
  rw [hn] at e
  simp only [List.map_cons,List.map_nil,List.sum_cons,List.sum_nil,Nat.add_zero]
  rw [e,ku (by omega)]
end Go.Low

/- The reference: choices of links. -/
import Derived.Test.YtadkaccpacpklaaL6LP5
set_option linter.unusedVariables false
set_option linter.unusedSimpArgs false
namespace Go.Dm
set_option maxRecDepth 100000
open Go.Low
theorem dI (o:cT):(aW o).length=o.n:=by simp [aW]
theorem tW {o:cT} {i:Nat} (h:i < o.n):(aW o)[i]? = some (aV (o.g i).1):=by
 unfold aW
 rw [List.getElem?_map,List.getElem?_range h]; rfl
theorem JR (before:Nat):∀ (m:Nat) (out:LL),Ij before (m + 1) out=(Ij before m out).flatMap (me before)
 | 0,out=>rfl
 | m + 1,out=>by rw [Ij,JR before m]; rfl
theorem JT {before:Nat} {r:List Int}:(me before r).length<=before + 1:=by
 unfold me
 rw [List.length_cons]
 have:∀ l:List Nat,(l.flatMap fun b:Nat=>if has r (b:Int) then [] else [r ++ [(b:Int)]]).length<=l.length:=by
  intro l
  induction l with
  | nil=>exact Nat.le_refl _
  | cons a l ih =>
   rw [List.flatMap_cons,List.length_append,List.length_cons]
   split
   ·rw [List.length_nil]; omega
   ·rw [List.length_singleton]; omega
 have:=this (List.range before)
 rw [List.length_range] at this
 omega
theorem uU {α β:Type} {l:List α} {f:α->List β} {k:Nat} (h:∀ a∈l,(f a).length<=k):(l.flatMap f).length<=k * l.length:=by
 induction l with
 | nil=>simp
 | cons a l ih =>
  rw [List.flatMap_cons,List.length_append,List.length_cons,Nat.mul_succ]
  have:=h a (.head _)
  have:=ih fun b hb=>h b (.tail _ hb)
  omega
theorem Ip {before:Nat} (hb:before<=3):∀ m,(Ij before m [[]]).length<=4 ^ m
 | 0=>by simp [Ij]
 | m + 1=>by
  rw [JR]
  have h1:=uU (l:=Ij before m [[]]) (f:=me before) (k:=4) fun a _=>Nat.le_trans JT (by omega)
  have h2:=Ip hb m
  rw [Nat.pow_succ]
  omega
end Go.Dm

/- The reference: what links must keep. -/
import Derived.Test.YtadkaccpacpklaaL12LP6
set_option linter.unusedVariables false
set_option linter.unusedSimpArgs false
namespace Go.Dm
set_option maxRecDepth 100000
open Go.Low
variable {s:tS.den}
theorem kH {o:cT} {t:Nat} (h:t < o.n):(aW o).getD t []=aV (o.g t).1:=by
 rw [List.getD_eq_getElem?_getD,tW h]; rfl
theorem gu {o:cT} {t:Nat} (h:t < o.n):(aW o).take (t + 1)=(aW o).take t ++ [aV (o.g t).1]:=by
 rw [List.take_add_one,tW h]; rfl
theorem wq {o:cT} {t:Nat} (h:t<=o.n):((aW o).take t).length=t:=by rw [List.length_take,dI]; omega
theorem getD_take {L:LL} {t j:Nat} (h:t < j):(L.take j).getD t []=L.getD t []:=by
 simp only [List.getD_eq_getElem?_getD]
 rw [List.getElem?_take_of_lt h]
theorem LM (r:List Int) (x:Int):eO (r ++ [x])=eO r + (bif decide (x = -1) then 1 else 0):=by
 unfold eO
 rw [List.count_append]
 congr 1
theorem Eu {r:Sl sR.den} {j:Nat} (h:j < r.n):(aV r).take (j + 1)=(aV r).take j ++ [(show Int from (r.g j).1)]:=by
 rw [List.take_add_one,gR,if_pos h]; rfl
theorem BO {o:cT} (hk:∀ t,t < o.n->(o.g t).1.n<=3):∀ j,j + 1<=o.n->eP ((aW o).take (j + 1))<=3 * j
 | 0,h=>by
  have:(aW o).take 1=[aV (o.g 0).1]:=by have:=gu (o:=o) (t:=0) (by omega); simpa using this
  show eP ((aW o).take 1)<=0
  rw [this]; exact Nat.le_refl _
 | j + 1,h=>by
  rw [gu (by omega),qZ (by rw [wq (by omega)]; omega)]
  have h1:=BO hk j (by omega)
  have h2:eO (aV (o.g (j + 1)).1)<=(aV (o.g (j + 1)).1).length:=List.count_le_length
  rw [iN] at h2
  have:=hk (j + 1) (by omega)
  omega
theorem AG {o:cT} {j:Nat} (hj:j + 1 < o.n):fc ((aW o).take (j + 1 + 1))=fc ((aW o).take (j + 1)) + eY (o.g j).1.n (aV (o.g (j + 1)).1):=by
 rw [gu hj,Ci (by rw [wq (by omega)]; omega),wq (by omega),Nat.add_sub_cancel,getD_take (by omega),kH (by omega),iN]
theorem BP {o:cT} (hk:∀ t,t < o.n->(o.g t).1.n<=3):∀ j,j + 1<=o.n->fc ((aW o).take (j + 1))<=3 * j
 | 0,h=>by
  have:(aW o).take 1=[aV (o.g 0).1]:=by have:=gu (o:=o) (t:=0) (by omega); simpa using this
  show fc ((aW o).take 1)<=0
  rw [this]; exact Nat.le_refl _
 | j + 1,h=>by
  rw [AG (by omega)]
  have h1:=BP hk j (by omega)
  have h2:eY (o.g j).1.n (aV (o.g (j + 1)).1)<=(o.g j).1.n:=by
   unfold eY
   exact Nat.le_trans (List.length_filter_le _ _) (by simp)
  have:=hk j (by omega)
  omega
end Go.Dm

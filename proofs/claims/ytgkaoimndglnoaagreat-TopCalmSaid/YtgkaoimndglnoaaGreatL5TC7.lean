/- Cones, and boats. -/
import Derived.Test.YtgkaoimndglnoaaGreatL5TC6
set_option linter.unusedVariables false
set_option linter.unusedSimpArgs false
namespace Go.Dm.Con
set_option maxRecDepth 100000
theorem avj {w:aiC} {d:bI} (hd:d.n=w.2.1.n) (m:Int):∀ (l:List cC.den),(∀ it∈l,inP w it.1) ->
  OG (no_index ((),((),((),((),(alH w,((d,()),((m,()),((false,()),()))))))))) l=bif l.any (fun it=>seenAt w d m it.1) then .ret ((),((),((),((),(alH w,((d,()),((m,()),((true,()),())))))))) else .next ((),((),((),((),(alH w,((d,()),((m,()),((false,()),()))))))))
 | [],_=>rfl
 | it :: l,h=>by
  have hi:=h it (List.mem_cons_self ..)
  have ih:=avj hd m l fun x hx=>h x (List.mem_cons_of_mem _ hx)
  have:OF (no_index ((),((),((),((),(alH w,((d,()),((m,()),((false,()),()))))))))) it=bif seenAt w d m it.1 then .ret ((),((),((),((),(alH w,((d,()),((m,()),((true,()),())))))))) else .next ((),((),((),((),(alH w,((d,()),((m,()),((false,()),())))))))):=by
   unfold OF OE seenAt
   simp only [au8 hd hi,bU]
   cases decide (loI w d it.1<=m) with
   | false=>rfl
   | true=>cases decide (m < hiI w it.1) <;> rfl
  unfold OG at ih ⊢
  simp only [cJ,this,List.any_cons]
  cases seenAt w d m it.1 with
  | true=>rfl
  | false=>rw [cond_false,Bool.false_or]; exact ih
theorem avq {w:aiC} {d:bI} {m:Int}:(ana itN w w.2.1.n).any (fun it=>seenAt w d m it.1)=anT w d m:=by
 rw [Bool.eq_iff_iff,aoy,List.any_eq_true]
 constructor
 ·rintro ⟨it,h,hs⟩
  obtain ⟨i,j,h1,h2,h3,rfl⟩:=anc.1 h
  simp only [seenAt,Bool.and_eq_true,decide_eq_true_eq] at hs
  exact ⟨i,j,h1,h2,h3,hs⟩
 ·rintro ⟨i,j,h1,h2,h3,h4,h5⟩
  refine ⟨itN i j,anc.2 ⟨i,j,h1,h2,h3,rfl⟩,?_⟩
  have h4':loI w d (itN i j).1<=m:=h4
  have h5':m < hiI w (itN i j).1:=h5
  unfold seenAt
  rw [decide_eq_true h4',decide_eq_true h5']
  rfl
theorem avC {w:aiC} (h:w.2.1.n<=140737488355328) {d:bI} (hd:d.n=w.2.1.n) (m:Int):UT (no_index (alH w,(d,(m,()))))=some (anT w d m,()):=by
 unfold UT ar3
 simp only [asc h,cond_true]
 have key:∀ l:List cC.den,l=ana itN w w.2.1.n->OG (no_index ((),((),((),((),(alH w,((d,()),((m,()),((false,()),()))))))))) l=bif anT w d m then .ret ((),((),((),((),(alH w,((d,()),((m,()),((true,()),())))))))) else .next ((),((),((),((),(alH w,((d,()),((m,()),((false,()),())))))))):=fun l hl=>by
  rw [hl,<- avq]; exact avj hd m _ avb
 have k:=key _ (apQ w)
 refine (congrArg (fun o=>eo o _ (eM o _ _)) k).trans ?_
 cases anT w d m <;> rfl
def asr (w:aiC) (p:Int):Bool:=iQ p 0 (W ((w.2.2.2.1.n:Int) - 1))
def alZ (w:aiC) (p:Int):aoe:=w.2.2.2.1.g p.toNat
theorem aun {w:aiC} (h:w.2.2.2.1.n<=140737488355328) {p:Int} (hp:asr w p=true):0<=p/\p < (w.2.2.2.1.n:Int):=by
 have:=rW hp
 rw [eU ⟨by omega,by omega⟩] at this
 omega
theorem aUE (w:aiC) (p:Int):M32 (no_index (w,(p,())))=some (asr w p,()):=by
 unfold M32 Q32; simp only [asb,bU]; rfl
theorem aUF (m:Int):M33 (no_index (m,()))=some (iQ m 0 20000,()):=by
 unfold M33 Q33; simp only [asb,bU]
end Go.Dm.Con

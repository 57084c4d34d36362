/- When the rule sees a storm first. -/
import Derived.Test.YtgkaoimndglnoaaGreatL5TC4
set_option linter.unusedVariables false
set_option linter.unusedSimpArgs false
namespace Go.Dm.Con
set_option maxRecDepth 100000
def loI (w:aiC) (d:bI) (y:prT):Int:=mx (W ((w.2.1.g y.1.toNat).2.1 + (d.g y.1.toNat).1)) (W ((w.2.1.g y.2.1.toNat).2.1 + (d.g y.2.1.toNat).1))
def hiI (w:aiC) (y:prT):Int:=W (mx (w.2.1.g y.1.toNat).2.1 (w.2.1.g y.2.1.toNat).2.1 + w.2.2.2.2.2.2.1)
def inP (w:aiC) (y:prT):Prop:=(0<=y.1/\y.1 < (w.2.1.n:Int))/\(0<=y.2.1/\y.2.1 < (w.2.1.n:Int))
theorem au8 {w:aiC} {d:bI} (hd:d.n=w.2.1.n) {y:prT} (hy:inP w y):UL (no_index (alH w,(y,(d,()))))=some (loI w d y,(hiI w y,())):=by
 obtain ⟨h1,h2⟩:=hy
 unfold UL arG
 simp only [alH,aj8,hd,h1,h2,and_self,decide_true,cond_true]
 rfl
theorem mem_row {β:Type} {mk:Nat->Nat->β} {w:aiC} {a:Nat} {y:β}:∀ {b:Nat},y∈apJ mk w a b↔∃ j,j < b/\isP w a j=true/\y=mk a j
 | 0=>by simp [apJ]
 | b + 1=>by
  simp only [apJ,List.mem_append,mem_row (b:=b)]
  constructor
  ·rintro (⟨j,h1,h2⟩ | h)
   ·exact ⟨j,by omega,h2⟩
   ·cases hp:isP w a b with
    | true=>rw [hp] at h; exact ⟨b,by omega,hp,by simpa using h⟩
    | false=>rw [hp] at h; simp at h
  ·rintro ⟨j,h1,h2,h3⟩
   by_cases e:j=b
   ·subst e; right; rw [h2]; simpa using h3
   ·exact .inl ⟨j,by omega,h2,h3⟩
theorem anc {β:Type} {mk:Nat->Nat->β} {w:aiC} {y:β}:∀ {a:Nat},y∈ana mk w a↔∃ i j,i < a/\j < w.2.1.n/\isP w i j=true/\y=mk i j
 | 0=>by simp [ana]
 | a + 1=>by
  simp only [ana,List.mem_append,anc (a:=a),mem_row]
  constructor
  ·rintro (⟨i,j,h1,h2⟩ | ⟨j,h2⟩)
   ·exact ⟨i,j,by omega,h2⟩
   ·exact ⟨a,j,by omega,h2⟩
  ·rintro ⟨i,j,h1,h2⟩
   by_cases e:i=a
   ·subst e; exact .inr ⟨j,h2⟩
   ·exact .inl ⟨i,j,by omega,h2⟩
theorem aUA {w:aiC} {i j:Nat} (hi:i < w.2.1.n) (hj:j < w.2.1.n):inP w (prN i j):=⟨⟨Int.natCast_nonneg i,by show (i:Int) < _; omega⟩,⟨Int.natCast_nonneg j,by show (j:Int) < _; omega⟩⟩
def lst (acc x:Int):Int:=bif decide (acc < 0) then x else bif decide (x < acc) then x else acc
def at8 (w:aiC) (d:bI):Int->List cC.den->Int
 | acc,[]=>acc
 | acc,it :: l=>at8 w d (bif decide (loI w d it.1 < hiI w it.1) then lst acc (loI w d it.1) else acc) l
theorem ava {w:aiC} {d:bI} (hd:d.n=w.2.1.n):∀ (l:List cC.den) (acc:Int),(∀ it∈l,inP w it.1) ->
  Ow (no_index ((),((),((),(alH w,((d,()),((acc,()),()))))))) l = .next ((),((),((),(alH w,((d,()),((at8 w d acc l,()),()))))))
 | [],acc,_=>rfl
 | it :: l,acc,h=>by
  have hi:=h it (List.mem_cons_self ..)
  have ih:=ava hd l (bif decide (loI w d it.1 < hiI w it.1) then lst acc (loI w d it.1) else acc) fun x hx=>h x (List.mem_cons_of_mem _ hx)
  have:Ov (no_index ((),((),((),(alH w,((d,()),((acc,()),()))))))) it = .next ((),((),((),(alH w,((d,()),((bif decide (loI w d it.1 < hiI w it.1) then lst acc (loI w d it.1) else acc,()),())))))):=by
   unfold Ov Ou lst
   simp only [au8 hd hi,bU]
   cases decide (loI w d it.1 < hiI w it.1) with
   | false=>rfl
   | true=>cases decide (acc < 0) with
    | true=>rfl
    | false=>cases decide (loI w d it.1 < acc) <;> rfl
  unfold Ow at ih ⊢
  simp only [cJ,this]
  exact ih
def anI (w:aiC) (d:bI):Int:=at8 w d (-1) (ana itN w w.2.1.n)
theorem avb {w:aiC}:∀ it∈ana itN w w.2.1.n,inP w it.1:=fun it h=>by
 obtain ⟨i,j,h1,h2,h3,rfl⟩:=anc.1 h
 exact aUA h1 h2
theorem aHZ {w:aiC} (h:w.2.1.n<=140737488355328) {d:bI} (hd:d.n=w.2.1.n) :
  UN (no_index (alH w,(d,())))=bif decide (anI w d < 0) then .bP 229 GL (((d.n:Nat):Int),()) () else .ok (anI w d,()) ():=by
 unfold UN arK
 simp only [asc h,cond_true]
 have key:∀ l:List cC.den,l=ana itN w w.2.1.n->Ow (no_index ((),((),((),(alH w,((d,()),(((-1:Int),()),()))))))) l = .next ((),((),((),(alH w,((d,()),((anI w d,()),())))))):=fun l hl=>by
  rw [hl]; exact ava hd _ _ avb
 have k:=key _ (apQ w)
 refine (congrArg (fun o=>eo o _ (eM o _ _)) k).trans ?_
 rfl
theorem aEf {w:aiC} (h:w.2.1.n<=140737488355328) {d:bI} (hd:d.n=w.2.1.n) :
  M97 (no_index (alH w,(d,())))=some (bif decide (anI w d < 0) then ((0:Int),(false,())) else (anI w d,(true,()))):=by
 unfold M97 Q97
 simp only [aHZ h hd]
 cases decide (anI w d < 0) <;> rfl
theorem atI {w:aiC} (hw:akQ w=true) {i:Nat} (hi:i < w.2.1.n):0<=(w.2.1.g i).2.1/\(w.2.1.g i).2.1<=10080/\0<=(w.2.1.g i).2.2.2.1/\(w.2.1.g i).2.2.2.1<=(w.2.1.g i).2.2.2.2.1/\(w.2.1.g i).2.2.2.2.1<=2880:=by
 simp only [akQ,Bool.and_eq_true] at hw
 have:=iR hw.2.1 hi
 simp only [aqp,Bool.and_eq_true] at this
 have h1:=rW this.2.1
 have h2:0<=(w.2.1.g i).2.2.2.1/\(w.2.1.g i).2.2.2.1<=(w.2.1.g i).2.2.2.2.1/\(w.2.1.g i).2.2.2.2.1<=2880:=of_decide_eq_true this.2.2.2.1
 exact ⟨h1.1,h1.2,h2⟩
theorem avc {w:aiC} (hw:akQ w=true) {d:bI} (h:aoC w d=true) {i:Nat} (hi:i < w.2.1.n):0<=(d.g i).1/\(d.g i).1<=2880:=by
 simp only [aoC,Bool.and_eq_true] at h
 have:=rW (iR h.2 hi)
 have:=atI hw hi
 omega
def akh (w:aiC) (d:bI) (i:Nat):Int:=W ((w.2.1.g i).2.1 + (d.g i).1)
theorem atJ {w:aiC} (hw:akQ w=true) {d:bI} (h:aoC w d=true) {i:Nat} (hi:i < w.2.1.n):akh w d i=(w.2.1.g i).2.1 + (d.g i).1:=by
 have h1:=avc hw h hi
 have h2:=atI hw hi
 exact eU ⟨by omega,by omega⟩
theorem aul (a b:Int):(mx a b=a\/mx a b=b)/\a<=mx a b/\b<=mx a b:=by
 unfold mx
 by_cases h:b > a
 ·rw [if_pos h]; omega
 ·rw [if_neg h]; omega
def seenAt (w:aiC) (d:bI) (m:Int) (y:prT):Bool:=decide (loI w d y<=m) && decide (m < hiI w y)
def anT (w:aiC) (d:bI) (m:Int):Bool:=!(List.range (anE w w.2.1.n).n).all fun j=>!seenAt w d m ((anE w w.2.1.n).g j)
theorem aDf {w:aiC} {j:Nat} (hj:j < (anE w w.2.1.n).n):∃ a b,a < w.2.1.n/\b < w.2.1.n/\isP w a b=true/\(anE w w.2.1.n).g j=prN a b:=by
 have:(anE w w.2.1.n).g j∈(anE w w.2.1.n).list:=List.mem_map.2 ⟨j,by simpa using hj,rfl⟩
 rw [aof] at this
 exact anc.1 this
theorem aoy {w:aiC} {d:bI} {m:Int}:anT w d m=true↔∃ i j,i < w.2.1.n/\j < w.2.1.n/\isP w i j=true/\loI w d (prN i j)<=m/\m < hiI w (prN i j):=by
 unfold anT
 rw [Bool.not_eq_true',<- Bool.not_eq_true,List.all_eq_true]
 constructor
 ·intro h
  refine Classical.byContradiction fun hn=>h fun j hj=>?_
  obtain ⟨a,b,h1,h2,h3,h4⟩:=aDf (w:=w) (j:=j) (by simpa using hj)
  rw [h4]
  cases hs:seenAt w d m (prN a b) with
  | false=>rfl
  | true =>
   simp only [seenAt,Bool.and_eq_true,decide_eq_true_eq] at hs
   exact absurd ⟨a,b,h1,h2,h3,hs⟩ hn
 ·rintro ⟨i,j,h1,h2,h3,h4,h5⟩ h
  have:prN i j∈(anE w w.2.1.n).list:=by rw [aof]; exact anc.2 ⟨i,j,h1,h2,h3,rfl⟩
  obtain ⟨k,k1,k2⟩:=List.mem_map.1 this
  have:=h k k1
  rw [k2] at this
  simp [seenAt,h4,h5] at this
end Go.Dm.Con

/- Maps and fields: which are as defined. -/
import Derived.Test.YtgkaoimndglnoaaGreatL5TP0
set_option linter.unusedVariables false
set_option linter.unusedSimpArgs false
namespace Go.Dm
set_option maxRecDepth 100000
abbrev csT:Type:=Int×Int×Int×Unit
abbrev adh:Type:=Int×Int×Int×Sl csT×Unit
abbrev fdT:Type:=Int×Sl (Int×Unit)×Unit
abbrev chT:Type:=Int×Int×Int×Sl csT×Int×Int×Unit
def sta (m:adh):Sl csT:=m.2.2.2.1
def aY9 (m:adh):chT:=(m.1,m.2.1,m.2.2.1,m.2.2.2.1,m.1,m.2.1,())
def csC (m:adh) (c:csT):Bool:=iQ c.1 0 (m.1 * m.2.1 - 1) && (iQ c.2.1 0 99999 && (iQ c.2.2.1 0 99999 && decide (c.2.1<=c.2.2.1)))
def adm (m:adh):Bool:=iQ m.1 1 6 && (iQ m.2.1 1 5 && (iQ m.2.2.1 0 5000 && (decide ((sta m).n<=12) && (List.range (sta m).n).all (fun j=>csC m ((sta m).g j)))))
structure aqq (m:adh):Prop where
 wide:1<=m.1/\m.1<=6
 rows:1<=m.2.1/\m.2.1<=5
 aD7:0<=m.2.2.1/\m.2.2.1<=5000
 n:(sta m).n<=12
 pt:∀ j,j < (sta m).n->0<=((sta m).g j).1/\((sta m).g j).1<=m.1 * m.2.1 - 1
 pr:∀ j,j < (sta m).n->0<=((sta m).g j).2.1/\((sta m).g j).2.1<=((sta m).g j).2.2.1/\((sta m).g j).2.2.1<=99999
theorem aWl {m:adh} (h:adm m=true):aqq m:=by
 unfold adm at h
 simp only [Bool.and_eq_true,decide_eq_true_eq] at h
 obtain ⟨a1,a2,a3,a4,a5⟩:=h
 refine ⟨rW a1,rW a2,rW a3,a4,fun j hj=>?_,fun j hj=>?_⟩
 ·have:=iR a5 hj
  unfold csC at this
  simp only [Bool.and_eq_true,decide_eq_true_eq] at this
  exact rW this.1
 ·have:=iR a5 hj
  unfold csC at this
  simp only [Bool.and_eq_true,decide_eq_true_eq] at this
  have b1:=rW this.2.1
  have b2:=rW this.2.2.1
  exact ⟨b1.1,this.2.2.2,b2.2⟩
theorem aWn {w r:Int} (hw:1<=w/\w<=6) (hr:1<=r/\r<=5):1<=w * r/\w * r<=30:=by
 have h1:1 * 1<=w * r:=Int.mul_le_mul hw.1 hr.1 (by omega) (by omega)
 have h2:w * r<=6 * 5:=Int.mul_le_mul hw.2 hr.2 (by omega) (by omega)
 omega
theorem aiv {w r:Int} (hw:1<=w/\w<=6) (hr:1<=r/\r<=5):W (w * r)=w * r/\W (W (w * r) - 1)=w * r - 1:=by
 have:=aWn hw hr
 have e:W (w * r)=w * r:=eU ⟨by omega,by omega⟩
 exact ⟨e,by rw [e]; exact eU ⟨by omega,by omega⟩⟩
theorem adC (x lo hi:Int):Vq (no_index (x,(lo,(hi,()))))=some (iQ x lo hi,()):=by
 unfold Vq Q83 iQ
 by_cases h1:lo<=x <;> simp [h1]
theorem adn (x lo hi:Int):Yy (no_index (x,(lo,(hi,()))))=some (iQ x lo hi,()):=by
 unfold Yy Q64 iQ
 by_cases h1:lo<=x <;> simp [h1]
theorem aqt (x:Int):M65 (no_index (x,()))=some (iQ x 0 99999,()):=by
 unfold M65 Q65
 exact cI (adn x 0 99999)
theorem aD8 (w r:Int):M63 (no_index (w,(r,())))=some (iQ w 1 6 && iQ r 1 5,()):=by
 unfold M63 Q63
 refine (cI (adn w 1 6)).trans ?_
 cases iQ w 1 6 with
 | false=>rfl
 | true=>exact (cn rfl).trans (cI (adn r 1 5))
theorem aD9 {m:adh} (hw:1<=m.1/\m.1<=6) (hr:1<=m.2.1/\m.2.1<=5) (p:Int):M28 (no_index (m,(p,())))=some (iQ p 0 (m.1 * m.2.1 - 1),()):=by
 unfold M28 Q28
 refine (cI (x:=(iQ p 0 (m.1 * m.2.1 - 1),())) ?_).trans rfl
 show Yy (p,(0,(W (W (m.1 * m.2.1) - 1),())))=_
 rw [(aiv hw hr).2]
 exact adn _ _ _
theorem ama {m:adh} (hw:1<=m.1/\m.1<=6) (hr:1<=m.2.1/\m.2.1<=5) (hn:(sta m).n<=140737488355328):YJ (no_index ((),(m,()))) (no_index ((0:Int),()))=bif (List.range (sta m).n).all (fun j=>csC m ((sta m).g j)) then .exit 0 () else .ret (false,()):=by
 unfold YJ
 refine eA (ps:=rJ) (f:=fun j=>((j:Int),())) (ep hn) (fun j hj _=>?_) fun _=>?_
 ·unfold YI YH csC
  refine (cn (decide_eq_true (dW hj))).trans ?_
  refine (cn (decide_eq_true (bO hj))).trans ?_
  refine (cI (aD9 hw hr ((sta m).g j).1)).trans ?_
  rw [ec hj hn]
  cases iQ ((sta m).g j).1 0 (m.1 * m.2.1 - 1) with
  | false=>rfl
  | true =>
  refine (cR rfl).trans ?_
  refine (cI (aqt ((sta m).g j).2.1)).trans ?_
  cases iQ ((sta m).g j).2.1 0 99999 with
  | false=>rfl
  | true =>
  refine (cR rfl).trans ?_
  refine (cI (aqt ((sta m).g j).2.2.1)).trans ?_
  cases iQ ((sta m).g j).2.2.1 0 99999 with
  | false=>rfl
  | true =>
  refine (cR rfl).trans ?_
  show (bif decide (((sta m).g j).2.2.1 < ((sta m).g j).2.1) then _ else _)=(bif (true && (true && (true && decide (((sta m).g j).2.1<=((sta m).g j).2.2.1)))) then _ else _)
  by_cases h:((sta m).g j).2.2.1 < ((sta m).g j).2.1
  ·rw [decide_eq_true h,decide_eq_false (p:=((sta m).g j).2.1<=((sta m).g j).2.2.1) (by omega)]; rfl
  ·rw [decide_eq_false h,decide_eq_true (p:=((sta m).g j).2.1<=((sta m).g j).2.2.1) (by omega)]; rfl
 ·unfold YI YH
  exact cR (decide_eq_false (by show ¬ ((((sta m).n:Nat):Int) < (((sta m).n:Nat):Int)); omega))
theorem aZa (m:adh):M19 (no_index (m,()))=some (adm m,()):=by
 unfold M19 Q19 adm
 refine (cI (aD8 m.1 m.2.1)).trans ?_
 cases hw:iQ m.1 1 6 with
 | false=>rfl
 | true =>
 cases hr:iQ m.2.1 1 5 with
 | false=>rfl
 | true =>
 refine (cR rfl).trans ?_
 refine (cI (adn m.2.2.1 0 5000)).trans ?_
 cases iQ m.2.2.1 0 5000 with
 | false=>rfl
 | true =>
 refine (cR rfl).trans ?_
 by_cases h:(12:Int) < (((sta m).n:Nat):Int)
 ·refine (cn (decide_eq_true h)).trans ?_
  rw [decide_eq_false (p:=(sta m).n<=12) (by omega)]; rfl
 refine (cR (decide_eq_false h)).trans ?_
 rw [decide_eq_true (p:=(sta m).n<=12) (by omega)]
 have e:=ama (m:=m) (rW hw) (rW hr) (by omega)
 cases ha:(List.range (sta m).n).all (fun j=>csC m ((sta m).g j)) with
 | true=>rw [ha] at e; exact gV e
 | false=>rw [ha] at e; exact (sV e).trans (xe e)
theorem aEa {s:Sl csT} {F:csT×Unit->Bool×(Bool×Unit)} {c:csT->Bool} (hF:∀ j,j < s.n->F (s.g j,())=(true,(c (s.g j),()))) (hn:s.n<=140737488355328):∃ e,M81 (no_index (s,(F,())))=some (e,((List.range s.n).any (fun j=>c (s.g j)),())):=by
 have e:XK (no_index (F,((),(s,(((s.n:Nat):Int),(((0:Int),((0:Int),((0:Int),()))),())))))) (no_index ((0:Int),()))=match lO (fun j=>c (s.g j)) s.n with | some k=>.ret (true,(s.g k,())) | none=>.exit 0 ():=by
  unfold XK
  refine qg (ps:=rF) (f:=fun j=>((j:Int),())) (ep hn) (fun j hj _=>?_) fun _=>?_
  ·unfold XJ XI
   refine (cn (decide_eq_true (dW hj))).trans ?_
   refine (cn (decide_eq_true (bO hj))).trans ?_
   show (bif (F (s.g j,())).1 then bif (F (s.g j,())).2.1 then _ else _ else _)=_
   rw [hF j hj,ec hj hn]
   rfl
  ·unfold XJ XI
   exact cR (decide_eq_false (by show ¬ (((s.n:Nat):Int) < ((s.n:Nat):Int)); omega))
 unfold M81 Q81
 cases h:lO (fun j=>c (s.g j)) s.n with
 | none =>
  rw [h] at e
  have:(List.range s.n).any (fun j=>c (s.g j))=false:=by
   rw [List.any_eq_false]
   intro j hj
   simp [kL h j (by simpa using hj)]
  exact ⟨_,by rw [this]; exact gV e⟩
 | some k =>
  rw [h] at e
  obtain ⟨k1,k2,_⟩:=nH h
  have:(List.range s.n).any (fun j=>c (s.g j))=true:=List.any_eq_true.2 ⟨k,by simpa using k1,k2⟩
  exact ⟨_,by rw [this]; exact (sV e).trans (xe e)⟩
theorem aWo {s:Sl (Int×Unit)} {F:Int×Unit->Bool×(Bool×Unit)} {c:Int->Bool} (hF:∀ y,F (y,())=(true,(c y,()))) (hn:s.n<=140737488355328):∃ e,XO (no_index (s,(F,())))=some (e,((List.range s.n).any (fun j=>c (s.g j).1),())):=by
 have e:MA (no_index (F,(s,(((s.n:Nat):Int),())))) (no_index ((0:Int),()))=match lO (fun j=>c (s.g j).1) s.n with | some k=>.ret ((s.g k).1,(true,())) | none=>.exit 0 ():=by
  unfold MA
  refine qg (ps:=mo) (f:=fun j=>((j:Int),())) (ep hn) (fun j hj _=>?_) fun _=>?_
  ·unfold Mz My
   refine (cn (decide_eq_true (dW hj))).trans ?_
   refine (cn (decide_eq_true (bO hj))).trans ?_
   show (bif (F ((s.g j).1,())).1 then bif (F ((s.g j).1,())).2.1 then _ else _ else _)=_
   rw [hF,ec hj hn]
   rfl
  ·unfold Mz My
   exact cR (decide_eq_false (by show ¬ (((s.n:Nat):Int) < ((s.n:Nat):Int)); omega))
 unfold XO anP
 cases h:lO (fun j=>c (s.g j).1) s.n with
 | none =>
  rw [h] at e
  have:(List.range s.n).any (fun j=>c (s.g j).1)=false:=by
   rw [List.any_eq_false]
   intro j hj
   simp [kL h j (by simpa using hj)]
  exact ⟨_,by rw [this]; exact gV e⟩
 | some k =>
  rw [h] at e
  obtain ⟨k1,k2,_⟩:=nH h
  have:(List.range s.n).any (fun j=>c (s.g j).1)=true:=List.any_eq_true.2 ⟨k,by simpa using k1,k2⟩
  exact ⟨_,by rw [this]; exact (sV e).trans (xe e)⟩
theorem aiw {c:Nat->Bool} (n:Nat):(!(List.range n).any (fun j=>!c j))=(List.range n).all c:=by
 rw [List.any_eq_not_all_not]; simp
theorem auN {m:adh} (hw:1<=m.1/\m.1<=6) (hr:1<=m.2.1/\m.2.1<=5) (c:csT):aeS (no_index (c,(m,())))=some (!csC m c,()):=by
 unfold aeS anB csC
 refine (cI (x:=(iQ c.1 0 (m.1 * m.2.1 - 1),())) ?_).trans ?_
 ·show Vq (c.1,(0,(W (W (m.1 * m.2.1) - 1),())))=_
  rw [(aiv hw hr).2]
  exact adC _ _ _
 cases iQ c.1 0 (m.1 * m.2.1 - 1) with
 | false=>rfl
 | true =>
 refine (cR rfl).trans ?_
 unfold iQ
 by_cases h1:c.2.1 < 0
 ·refine (cn (decide_eq_true h1)).trans ?_
  rw [decide_eq_false (p:=0<=c.2.1/\c.2.1<=99999) (by omega)]; rfl
 refine (cR (decide_eq_false h1)).trans ?_
 by_cases h2:c.2.2.1 < c.2.1
 ·refine (cn (decide_eq_true h2)).trans ?_
  rw [decide_eq_false (p:=c.2.1<=c.2.2.1) (by omega),Bool.and_false,Bool.and_false]; rfl
 refine (cR (decide_eq_false h2)).trans ?_
 show some (decide ((99999:Int) < c.2.2.1),())=_
 by_cases h3:(99999:Int) < c.2.2.1
 ·rw [decide_eq_true h3,decide_eq_false (p:=0<=c.2.2.1/\c.2.2.1<=99999) (by omega),Bool.false_and,Bool.and_false]; rfl
 ·rw [decide_eq_false h3,decide_eq_true (p:=0<=c.2.1/\c.2.1<=99999) (by omega),decide_eq_true (p:=0<=c.2.2.1/\c.2.2.1<=99999) (by omega),decide_eq_true (p:=c.2.1<=c.2.2.1) (by omega)]; rfl
theorem aZb (m:adh):M79 (no_index (m,()))=some (adm m,()):=by
 unfold M79 Q79 adm
 refine (cI (adC m.1 1 6)).trans ?_
 cases hw:iQ m.1 1 6 with
 | false=>rfl
 | true =>
 refine (cR rfl).trans ?_
 refine (cI (adC m.2.1 1 5)).trans ?_
 cases hr:iQ m.2.1 1 5 with
 | false=>rfl
 | true =>
 refine (cR rfl).trans ?_
 refine (cI (adC m.2.2.1 0 5000)).trans ?_
 cases iQ m.2.2.1 0 5000 with
 | false=>rfl
 | true =>
 refine (cR rfl).trans ?_
 by_cases h:(12:Int) < (((sta m).n:Nat):Int)
 ·refine (cn (decide_eq_true h)).trans ?_
  rw [decide_eq_false (p:=(sta m).n<=12) (by omega)]; rfl
 refine (cR (decide_eq_false h)).trans ?_
 rw [decide_eq_true (p:=(sta m).n<=12) (by omega)]
 have aJW:∀ c,aeS (no_index (c,(m,())))=some (!csC m c,()):=auN (rW hw) (rW hr)
 obtain ⟨e,he⟩:=aEa (s:=sta m) (F:=fun y1=>(axh (y1.1,(m,())),axi (y1.1,(m,())))) (c:=fun c=>!csC m c) (fun j _=>by
  have e1:axh ((sta m).g j,(m,()))=true:=aiu (aJW ..)
  have e2:axi ((sta m).g j,(m,()))=(!csC m ((sta m).g j),()):=ahw (aJW ..)
  show (axh ((sta m).g j,(m,())),axi ((sta m).g j,(m,())))=_
  rw [e1,e2]) (by omega)
 refine (cI he).trans ?_
 show some (!((List.range (sta m).n).any fun j=>!csC m ((sta m).g j)),())=_
 rw [aiw (c:=fun j=>csC m ((sta m).g j))]
 rfl
end Go.Dm

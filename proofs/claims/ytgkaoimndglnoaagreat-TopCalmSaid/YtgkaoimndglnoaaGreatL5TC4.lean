/- What is shown of all alarms. -/
import Derived.Test.YtgkaoimndglnoaaGreatL5TC3
set_option linter.unusedVariables false
set_option linter.unusedSimpArgs false
namespace Go.Dm.Con
set_option maxRecDepth 100000
def prN (i j:Nat):prT:=((i:Int),((j:Int),()))
theorem asX {α:Type} (s:Sl α) (y:α):(snoc s y).list=s.list ++ [y]:=by
 rw [<- fy]
 unfold snoc cj Sl.list
 refine List.map_congr_left fun i hi=>?_
 have hi:i < s.n + 1:=by simpa using hi
 cases h:Nat.blt i s.n with
 | true=>simp only [h,cond_true]
 | false =>
  have:¬ i < s.n:=fun q=>by
   have q':Nat.blt i s.n=true:=by rw [Nat.blt_eq]; exact q
   rw [q'] at h; cases h
  have e:i - s.n=0:=by omega
  simp only [h,cond_false,e]
  rfl
theorem aEe:∀ (l:List cC.den) (s:Sl prT),s.n + l.length<=1000 ->
  ∃ s':Sl prT,abk (no_index ((),((s,()),()))) l = .next ((),((s',()),()))/\s'.list=s.list ++ l.map (·.1)
 | [],s,_=>⟨s,rfl,by simp⟩
 | it :: l,s,h=>by
  have hb:(s.n + 1) * 16<=140737488355328:=by simp only [List.length_cons] at h; omega
  obtain ⟨s',h1,h2⟩:=aEe l (snoc s it.1) (by simp only [List.length_cons] at h; rw [qh]; omega)
  refine ⟨s',?_,by rw [h2,asX,List.append_assoc]; rfl⟩
  rw [<- h1]
  unfold abk
  have:abj (no_index ((),((s,()),()))) it = .next ((),((snoc s it.1,()),())):=by
   unfold abj abi
   simp only [hb,decide_true,cond_true]
   rfl
  simp only [cJ,this]
theorem small {w:aiC} (h:akQ w=true):w.2.1.n<=9/\w.2.2.1.n<=8/\w.2.2.2.1.n<=4:=by
 simp only [akQ,atG,Bool.and_eq_true,decide_eq_true_eq] at h
 exact ⟨h.1.2.1,h.1.2.2.1,h.1.2.2.2.1⟩
theorem aUy {w:aiC} (h:akQ w=true):∃ s:Sl prT,M30 (no_index (w,()))=some (s,((0:Int),()))/\s.list=ana prN w w.2.1.n:=by
 obtain ⟨h1,h2,h3⟩:=small h
 have hl:(ana itN w w.2.1.n).length<=81:=Nat.le_trans (aqw itN w _) (Nat.mul_le_mul h1 h1)
 obtain ⟨s,e1,e2⟩:=aEe (ana itN w w.2.1.n) ⟨0,fun _=>((0:Int),((0:Int),()))⟩ (by show 0 + _<=1000; omega)
 refine ⟨s,?_,?_⟩
 ·unfold M30 Q30
  simp only [atS,h,bU,au4 (show w.2.2.1.n<=_ by omega) (show w.2.1.n<=_ by omega),asc (show w.2.1.n<=_ by omega),Bool.not_true,cond_false,cond_true]
  have key:∀ l:List cC.den,l=ana itN w w.2.1.n->eo (abk (no_index ((),(((⟨0,fun _=>((0:Int),((0:Int),()))⟩:Sl prT),()),()))) l) (fun u2=>some (u2.2.1.1,((0:Int),()))) (eM (abk (no_index ((),(((⟨0,fun _=>((0:Int),((0:Int),()))⟩:Sl prT),()),()))) l) (fun u3=>none) none)=some (s,((0:Int),())):=fun l hl=>by
   rw [hl,e1]; rfl
  exact key _ (apQ w)
 ·rw [e2,at5]
  show [] ++ _=_
  rw [List.nil_append]
  rfl
def aoi (w:aiC) (a:Nat) (s:Sl prT):Nat->Sl prT
 | 0=>s
 | b + 1=>bif isP w a b then snoc (aoi w a s b) (prN a b) else aoi w a s b
def anE (w:aiC):Nat->Sl prT
 | 0=>⟨0,fun _=>((0:Int),((0:Int),()))⟩
 | a + 1=>aoi w a (anE w a) w.2.1.n
theorem ap4 (w:aiC) (a:Nat) (s:Sl prT):∀ b,(aoi w a s b).list=s.list ++ apJ prN w a b
 | 0=>by simp [aoi,apJ]
 | b + 1=>by
  simp only [aoi,apJ]
  cases isP w a b with
  | true=>rw [cond_true,cond_true,asX,ap4 w a s b,List.append_assoc]
  | false=>rw [cond_false,cond_false,ap4 w a s b,List.append_nil]
theorem aof (w:aiC):∀ a,(anE w a).list=ana prN w a
 | 0=>rfl
 | a + 1=>by simp only [anE,ana,ap4,aof w a]
end Go.Dm.Con

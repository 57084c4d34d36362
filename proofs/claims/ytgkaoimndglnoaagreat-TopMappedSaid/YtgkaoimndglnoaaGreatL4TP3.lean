/- The index of a day, and the day on which a station is due. -/
import Derived.Test.YtgkaoimndglnoaaGreatL4TP2
set_option linter.unusedVariables false
set_option linter.unusedSimpArgs false
namespace Go.Dm
set_option maxRecDepth 100000
def bl (s:ju) (d:Int) (j:Nat):Int:=((cq s).g j).2.1 - KD s d ((cq s).g j).1
def bh (s:ju) (d:Int) (j:Nat):Int:=((cq s).g j).2.2.1 + KD s d ((cq s).g j).1
def Vb (s:ju) (d:Int):Nat->Int
 | 0=>-2000
 | j + 1=>max (Vb s d j) (bl s d j)
def Vc (s:ju) (d:Int):Nat->Int
 | 0=>2000
 | j + 1=>min (Vc s d j) (bh s d j)
abbrev spT:Type:=Int×Int×Unit
def idx (s:ju) (d:Int):spT:=(Vb s d (cq s).n,Vc s d (cq s).n,())
def bdv (s:ju) (d:Int) (j:Nat):spT×Unit:=((bl s d j,bh s d j,()),())
theorem atg {a b:Int} (ha:0<=a/\a<=99999) (hb:0<=b/\b<=99999):WX (no_index (a,(b,())))=(AF a b,()):=ahw (acy ha hb ..)
theorem ath {s:ju} (h:vi s) {d:Int} (hd:0<=d/\d<=400) {j:Nat} (hj:j < (cq s).n):Ju (rX s) (d,()) ((cq s).g j)=bdv s d j:=by
 have a1:=h.day j hj
 have a3:=h.idx j hj
 obtain ⟨b1,b2,b3⟩:=Se h.KW (HW hd a1)
 have e:aer (rX s) (d,()) ((cq s).g j)=KD s d ((cq s).g j).1:=by
  unfold aer
  rw [show WX (((d,()):Int×Unit).1,(((cq s).g j).1,()))=(AF d ((cq s).g j).1,()) from atg ⟨hd.1,by omega⟩ ⟨a1.1,by omega⟩]
  exact b3
 unfold Ju bdv bl bh
 rw [e]
 unfold KD
 rw [show W (((cq s).g j).2.1 - KW s * AF d ((cq s).g j).1)=_ from eU ⟨by omega,by omega⟩,show W (((cq s).g j).2.2.1 + KW s * AF d ((cq s).g j).1)=_ from eU ⟨by omega,by omega⟩]
theorem acz (s:ju) (h:vi s) {d:Int} (hd:0<=d/\d<=400):∀ (k i:Nat) (tr:Sl mQ.den),i + k<=(cq s).n ->
  (nA wj wk k ((),rX s,(d,()),cq s,(((cq s).n:Nat):Int),(i:Int),()) tr).list=tr.list ++ (List.range' i k).map (bdv s d)
 | 0,_,tr,_=>by simp [nA]
 | k + 1,i,tr,hi=>by
  show (nA wj wk k (wk ((),rX s,(d,()),cq s,(((cq s).n:Nat):Int),(i:Int),())) (oA wj ((),rX s,(d,()),cq s,(((cq s).n:Nat):Int),(i:Int),()) tr)).list=_
  have e1:wk ((),rX s,(d,()),cq s,(((cq s).n:Nat):Int),(i:Int),())=((),rX s,(d,()),cq s,(((cq s).n:Nat):Int),((i + 1:Nat):Int),()):=rfl
  have e2:oA wj ((),rX s,(d,()),cq s,(((cq s).n:Nat):Int),(i:Int),()) tr=gN tr (bdv s d i):=by
   have:=ath h hd (j:=i) (by omega)
   show gN tr (Ju (rX s) (d,()) ((cq s).g (Int.toNat (i:Int))))=_
   rw [Int.toNat_natCast,this]
  rw [e1,e2,acz s h hd k (i + 1) _ (by omega)]
  rw [show (gN tr (bdv s d i)).list=tr.list ++ [bdv s d i] from fy tr _,List.range'_succ,List.map_cons,List.append_assoc]
  rfl
theorem ati {s:ju} (h:vi s) {d:Int} (hd:0<=d/\d<=400):∃ l:Sl (spT×Unit),Ml (no_index (rX s,(d,())))=some (l,())/\l.list=(List.range (cq s).n).map (bdv s d):=by
 have hn:=h.n
 refine ⟨nD (rX s) (d,()),?_,?_⟩
 ·unfold Ml aet
  exact cn (decide_eq_true ⟨rfl,Int.le_refl _,(by show (((cq s).n:Nat):Int)<=140737488355328; omega)⟩)
 ·have:=acz s h hd (cq s).n 0 ⟨0,fun _=>mQ.dflt⟩ (by omega)
  rw [<- List.range_eq_range'] at this
  have e:Mk (Ee (rX s) (d,()))=(cq s).n:=by
   show ((((cq s).n:Nat):Int) - 0).toNat=_
   omega
  unfold nD
  rw [e]
  exact this
abbrev mpT:Type:=Int->Option spT
def Mem (s:ju) (m:mpT):Prop:=∀ d y,m d=some y->y=idx s d
theorem Mem.none (s:ju):Mem s fun _=>none:=fun _ _ h=>by cases h
def atj (s:ju) (d:Int) (m:mpT) (j:Nat):Int×Unit×Unit×Unit×loT×spT×spT×mpT×Unit:=(d,(),(),(),rX s,(0,0,()),(Vb s d j,Vc s d j,()),m,())
theorem alc {s:ju} (h:vi s) {d:Int} (hd:0<=d/\d<=400) {m:mpT} (hm:Mem s m):∃ m':mpT,Mem s m'/\Qd (no_index (rX s,(d,(m,())))) = .ok (idx s d,()) (m',()):=by
 unfold Qd Q49
 cases hq:m d with
 | some y =>
  refine ⟨m,hm,(cI (show m d=some y from hq)).trans ?_⟩
  rw [hm d y hq]; rfl
 | none =>
  obtain ⟨l,e1,e2⟩:=ati h hd
  have e3:Jw (atj s d m 0) (Sl.list l) = .next (atj s d m (cq s).n):=by
   unfold Jw
   rw [e2]
   refine tJ (mps:=jN) (F:=atj s d m) (cq s).n fun j hj=>?_
   unfold Qc Qb
   refine (cI (acw (Vb s d j) (bl s d j) _)).trans ?_
   refine (cI (atc (Vc s d j) (bh s d j) _)).trans ?_
   rfl
  refine ⟨fP (k:=tI) (v:=T4) (nJ tI) m d (idx s d),?_,?_⟩
  ·intro x y hx
   unfold fP at hx
   cases hb:nJ tI x d with
   | true =>
    rw [hb] at hx
    have:x=d:=of_decide_eq_true hb
    subst this
    cases hx; rfl
   | false=>rw [hb] at hx; exact hm x y hx
  ·refine (acp (show m d=none from hq)).trans ?_
   refine (cI e1).trans ?_
   exact Va e3
theorem ald {s:ju} (hb:stB s=true) (ha:AgB s):Tw (no_index (s,(true,())))=some (rX s,((0:Int),())):=by
 have h:=KC hb
 unfold Tw Q47
 refine (cI (atb s (by have:=h.n; omega))).trans ?_
 refine (cR (by rw [hb]; rfl)).trans ?_
 refine (cR rfl).trans ?_
 refine (cI (x:=(rX s,())) rfl).trans ?_
 refine (cI (ate h ha)).trans ?_
 exact cR rfl
theorem Pd {s:ju} (h:vi s) {d:Int} (hd:0<=d/\d<=400):∀ n,n<=(cq s).n -> -2000<=Vb s d n/\Vb s d n<=2000 /\ -2000<=Vc s d n/\Vc s d n<=2000
 | 0,_=>by simp [Vb,Vc]
 | n + 1,hn=>by
  obtain ⟨i1,i2,i3,i4⟩:=Pd h hd n (by omega)
  have a1:=h.day n (by omega)
  have a3:=h.idx n (by omega)
  obtain ⟨b1,b2,b3⟩:=Se h.KW (HW hd a1)
  simp only [Vb,Vc,bl,bh,KD]
  omega
end Go.Dm

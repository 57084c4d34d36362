/- The index of a day, and the day on which a station is due. -/
import Derived.Test.YtgkaoimndglnoaaGreatL3TP2
set_option linter.unusedVariables false
set_option linter.unusedSimpArgs false
namespace Go.Dm
set_option maxRecDepth 100000
def bl (s:ju) (d:Int) (j:Nat):Int:=((cq s).g j).2.1 - KD s d ((cq s).g j).1
def bh (s:ju) (d:Int) (j:Nat):Int:=((cq s).g j).2.2.1 + KD s d ((cq s).g j).1
def Vb (s:ju) (d:Int):Nat->Int
 | 0=>-2000
 | j + 1=>max (Vb s d j) (bl s d j)
def Vc (s:ju) (d:Int):Nat->Int
 | 0=>2000
 | j + 1=>min (Vc s d j) (bh s d j)
abbrev spT:Type:=Int×Int×Unit
def idx (s:ju) (d:Int):spT:=(Vb s d (cq s).n,Vc s d (cq s).n,())
def bdv (s:ju) (d:Int) (j:Nat):spT×Unit:=((bl s d j,bh s d j,()),())
theorem atg {a b:Int} (ha:0<=a/\a<=99999) (hb:0<=b/\b<=99999):WX (no_index (a,(b,())))=(AF a b,()):=ahw (acy ha hb ..)
theorem ath {s:ju} (h:vi s) {d:Int} (hd:0<=d/\d<=400) {j:Nat} (hj:j < (cq s).n):Ju (rX s) (d,()) ((cq s).g j)=bdv s d j:=by
 have a1:=h.day j hj
 have a3:=h.idx j hj
 obtain ⟨b1,b2,b3⟩:=Se h.KW (HW hd a1)
 have e:aer (rX s) (d,()) ((cq s).g j)=KD s d ((cq s).g j).1:=by
  unfold aer
  rw [show WX (((d,()):Int×Unit).1,(((cq s).g j).1,()))=(AF d ((cq s).g j).1,()) from atg ⟨hd.1,by omega⟩ ⟨a1.1,by omega⟩]
  exact b3
 unfold Ju bdv bl bh
 rw [e]
 unfold KD
 rw [show W (((cq s).g j).2.1 - KW s * AF d ((cq s).g j).1)=_ from eU ⟨by omega,by omega⟩,show W (((cq s).g j).2.2.1 + KW s * AF d ((cq s).g j).1)=_ from eU ⟨by omega,by omega⟩]
theorem acz (s:ju) (h:vi s) {d:Int} (hd:0<=d/\d<=400):∀ (k i:Nat) (tr:Sl mQ.den),i + k<=(cq s).n ->
  (nA wj wk k ((),rX s,(d,()),cq s,(((cq s).n:Nat):Int),(i:Int),()) tr).list=tr.list ++ (List.range' i k).map (bdv s d)
 | 0,_,tr,_=>by simp [nA]
 | k + 1,i,tr,hi=>by
  show (nA wj wk k (wk ((),rX s,(d,()),cq s,(((cq s).n:Nat):Int),(i:Int),())) (oA wj ((),rX s,(d,()),cq s,(((cq s).n:Nat):Int),(i:Int),()) tr)).list=_
  have e1:wk ((),rX s,(d,()),cq s,(((cq s).n:Nat):Int),(i:Int),())=((),rX s,(d,()),cq s,(((cq s).n:Nat):Int),((i + 1:Nat):Int),()):=rfl
  have e2:oA wj ((),rX s,(d,()),cq s,(((cq s).n:Nat):Int),(i:Int),()) tr=gN tr (bdv s d i):=by
   have:=ath h hd (j:=i) (by omega)
   show gN tr (Ju (rX s) (d,()) ((cq s).g (Int.toNat (i:Int))))=_
   rw [Int.toNat_natCast,this]
  rw [e1,e2,acz s h hd k (i + 1) _ (by omega)]
  rw [show (gN tr (bdv s d i)).list=tr.list ++ [bdv s d i] from fy tr _,List.range'_succ,List.map_cons,List.append_assoc]
  rfl
theorem ati {s:ju} (h:vi s) {d:Int} (hd:0<=d/\d<=400):∃ l:Sl (spT×Unit),Ml (no_index (rX s,(d,())))=some (l,())/\l.list=(List.range (cq s).n).map (bdv s d):=by
 have hn:=h.n
 refine ⟨nD (rX s) (d,()),?_,?_⟩
 ·unfold Ml aet
  exact cn (decide_eq_true ⟨rfl,Int.le_refl _,(by show (((cq s).n:Nat):Int)<=140737488355328; omega)⟩)
 ·have:=acz s h hd (cq s).n 0 ⟨0,fun _=>mQ.dflt⟩ (by omega)
  rw [<- List.range_eq_range'] at this
  have e:Mk (Ee (rX s) (d,()))=(cq s).n:=by
   show ((((cq s).n:Nat):Int) - 0).toNat=_
   omega
  unfold nD
  rw [e]
  exact this
abbrev mpT:Type:=Int->Option spT
def Mem (s:ju) (m:mpT):Prop:=∀ d y,m d=some y->y=idx s d
theorem Mem.none (s:ju):Mem s fun _=>none:=fun _ _ h=>by cases h
def atj (s:ju) (d:Int) (m:mpT) (j:Nat):Int×Unit×Unit×Unit×loT×spT×spT×mpT×Unit:=(d,(),(),(),rX s,(0,0,()),(Vb s d j,Vc s d j,()),m,())
theorem alc {s:ju} (h:vi s) {d:Int} (hd:0<=d/\d<=400) {m:mpT} (hm:Mem s m):∃ m':mpT,Mem s m'/\Qd (no_index (rX s,(d,(m,())))) = .ok (idx s d,()) (m',()):=by
 unfold Qd Q49
 cases hq:m d with
 | some y =>
  refine ⟨m,hm,(cI (show m d=some y from hq)).trans ?_⟩
  rw [hm d y hq]; rfl
 | none =>
  obtain ⟨l,e1,e2⟩:=ati h hd
  have e3:Jw (atj s d m 0) (Sl.list l) = .next (atj s d m (cq s).n):=by
   unfold Jw
   rw [e2]
   refine tJ (mps:=jN) (F:=atj s d m) (cq s).n fun j hj=>?_
   unfold Qc Qb
   refine (cI (acw (Vb s d j) (bl s d j) _)).trans ?_
   refine (cI (atc (Vc s d j) (bh s d j) _)).trans ?_
   rfl
  refine ⟨fP (k:=tI) (v:=T4) (nJ tI) m d (idx s d),?_,?_⟩
  ·intro x y hx
   unfold fP at hx
   cases hb:nJ tI x d with
   | true =>
    rw [hb] at hx
    have:x=d:=of_decide_eq_true hb
    subst this
    cases hx; rfl
   | false=>rw [hb] at hx; exact hm x y hx
  ·refine (acp (show m d=none from hq)).trans ?_
   refine (cI e1).trans ?_
   exact Va e3
theorem ald {s:ju} (hb:stB s=true) (ha:AgB s):Tw (no_index (s,(true,())))=some (rX s,((0:Int),())):=by
 have h:=KC hb
 unfold Tw Q47
 refine (cI (atb s (by have:=h.n; omega))).trans ?_
 refine (cR (by rw [hb]; rfl)).trans ?_
 refine (cR rfl).trans ?_
 refine (cI (x:=(rX s,())) rfl).trans ?_
 refine (cI (ate h ha)).trans ?_
 exact cR rfl
theorem aCs {s:ju} (hb:stB s=true) (ha:AgB s) {d:Int} (hd:0<=d/\d<=400):M17 (no_index (s,(d,())))=some (idx s d,((0:Int),())):=by
 have h:=KC hb
 unfold M17 Q17
 refine (cI (KB d 0 400)).trans ?_
 refine (cI (x:=(rX s,((0:Int),()))) ?_).trans ?_
 ·rw [show iQ d 0 400=true from decide_eq_true hd]
  exact ald hb ha
 refine (cn rfl).trans ?_
 refine (cR rfl).trans ?_
 obtain ⟨m',_,e⟩:=alc h hd (Mem.none s)
 exact Sd e
def wid (s:ju) (d:Int):Int:=(idx s d).2.1 - (idx s d).1
theorem Pd {s:ju} (h:vi s) {d:Int} (hd:0<=d/\d<=400):∀ n,n<=(cq s).n -> -2000<=Vb s d n/\Vb s d n<=2000 /\ -2000<=Vc s d n/\Vc s d n<=2000
 | 0,_=>by simp [Vb,Vc]
 | n + 1,hn=>by
  obtain ⟨i1,i2,i3,i4⟩:=Pd h hd n (by omega)
  have a1:=h.day n (by omega)
  have a3:=h.idx n (by omega)
  obtain ⟨b1,b2,b3⟩:=Se h.KW (HW hd a1)
  simp only [Vb,Vc,bl,bh,KD]
  omega
theorem aCt {s:ju} (hb:stB s=true) (ha:AgB s) {a w:Int} (hd:0<=a/\a<=400) (hw:0<=w/\w<=4000) :
    (∃ d:Int,Xv (no_index (s,(a,(w,()))))=some (d,((0:Int),()))/\a<=d/\d<=400/\∀ t,a<=t->t < d->wid s t<=w) \/
    (Xv (no_index (s,(a,(w,()))))=some ((0:Int),((5:Int),()))/\∀ t,a<=t->t<=400->wid s t<=w):=by
  have h:=KC hb
  have e47:=ald hb ha
  have hN:W (W (400 - a) + 1)=(((401 - a).toNat:Nat):Int):=by rw [eU (n:=400 - a) ⟨by omega,by omega⟩,eU ⟨by omega,by omega⟩]; omega
  have key:=qj (ps:=oD) (wy:=Ca) (N:=dw) (step:=yU (a,(w,((),(W (W (400 - a) + 1),())))))
    (P:=fun j v=>∃ m:mpT,Mem s m/\v=((j:Int),(rX s,(m,())))/\∀ t,a<=t->t < a + j->wid s t<=w)
    (Q:=fun q=>(∃ d:Int,q = .ret (d,((0:Int),()))/\a<=d/\d<=400/\∀ t,a<=t->t < d->wid s t<=w)\/(q = .exit 0 ()/\∀ t,a<=t->t<=400->wid s t<=w))
    ((401 - a).toNat) (by unfold dw; omega)
    (fun j v hj hp=>by
      obtain ⟨m,hm,rfl,ht⟩:=hp
      have hd':0<=a + (j:Int)/\a + (j:Int)<=400:=by omega
      obtain ⟨m',hm',e⟩:=alc h hd' hm
      have eW:W (a + (j:Int))=a + (j:Int):=eU ⟨by omega,by omega⟩
      have hi:=Pd h hd' (cq s).n (Nat.le_refl _)
      have eW2:W ((idx s (a + (j:Int))).2.1 - (idx s (a + (j:Int))).1)=wid s (a + (j:Int)):=eU ⟨by unfold idx; show _<=Vc .. - Vb ..; omega,by unfold idx; show Vc .. - Vb .. ≤ _; omega⟩
      have st:yU (a,(w,((),(W (W (400 - a) + 1),())))) ((j:Int),(rX s,(m,())))=bif decide (w < wid s (a + (j:Int))) then .out (.ret (a + (j:Int),((0:Int),()))) else .next (((j + 1:Nat):Int),(rX s,(m',()))):=by
        unfold yU Jy
        refine (cn (decide_eq_true (by show (j:Int) < W (W (400 - a) + 1); rw [hN]; omega))).trans ?_
        show gF (Qd (rX s,(W (a + (j:Int)),(m,())))) _ _=_
        rw [eW]
        refine (Sd e).trans ?_
        show (bif decide (w < W ((idx s (a + (j:Int))).2.1 - (idx s (a + (j:Int))).1)) then _ else _)=_
        rw [eW2]
        have eN:W ((j:Int) + 1)=((j + 1:Nat):Int):=by rw [eU ⟨by omega,by omega⟩]; rfl
        cases decide (w < wid s (a + (j:Int))) with
        | true=>rfl
        | false =>
          rw [<- eN]
          rfl
      cases hc:decide (w < wid s (a + (j:Int))) with
      | true =>
        right
        rw [hc] at st
        exact ⟨_,st,.inl ⟨_,rfl,by omega,by omega,ht⟩⟩
      | false =>
        left
        rw [hc] at st
        refine ⟨_,st,m',hm',rfl,fun t h1 h2=>?_⟩
        by_cases e':t=a + (j:Int)
        · subst e'
          have:=of_decide_eq_false hc
          omega
        · exact ht t h1 (by omega))
    (fun v hp=>by
      obtain ⟨m,hm,rfl,ht⟩:=hp
      refine ⟨_,?_,.inr ⟨rfl,fun t h1 h2=>ht t h1 (by omega)⟩⟩
      unfold yU Jy
      exact cR (decide_eq_false (by show ¬ ((((401 - a).toNat:Nat):Int) < W (W (400 - a) + 1)); rw [hN]; omega)))
    ((0:Int),(rX s,((fun _=>none),()))) ⟨_,Mem.none s,rfl,fun t h1 h2=>by omega⟩
  have hL:yV (a,(w,((),(W (W (400 - a) + 1),())))) ((0:Int),(rX s,((fun _=>none),())))=bB (yU (a,(w,((),(W (W (400 - a) + 1),()))))) dw ((0:Int),(rX s,((fun _=>none),()))):=rfl
  rw [<- hL] at key
  have run:∀ {r},(bp (yV (a,(w,((),(W (W (400 - a) + 1),())))) ((0:Int),(rX s,((fun _=>none),())))) 0 (fun u4=>some ((0:Int),((5:Int),()))) (bK (yV (a,(w,((),(W (W (400 - a) + 1),())))) ((0:Int),(rX s,((fun _=>none),())))) (fun u5=>some u5) none))=r->Xv (no_index (s,(a,(w,()))))=r:=by
    intro r hr
    unfold Xv Q11
    refine (cI (KB a 0 400)).trans ?_
    refine (cn (decide_eq_true hd)).trans ?_
    refine (cI (KB w 0 4000)).trans ?_
    refine (cI (x:=(rX s,((0:Int),()))) ?_).trans ?_
    · rw [show iQ w 0 4000=true from decide_eq_true hw]
      exact e47
    refine (cn rfl).trans ?_
    refine (cR rfl).trans ?_
    exact hr
  rcases key with ⟨d,e,h1,h2,h3⟩ | ⟨e,h1⟩
  · exact .inl ⟨d,run ((sV e).trans (xe e)),h1,h2,h3⟩
  · exact .inr ⟨run (gV e),h1⟩
end Go.Dm

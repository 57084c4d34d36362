/- Fields; how far points are apart. -/
import Derived.Test.YtgkaoimndglnoaaGreatL5TP10
set_option linter.unusedVariables false
set_option linter.unusedSimpArgs false
namespace Go.Dm
set_option maxRecDepth 100000
def vls (f:fdT):Sl (Int×Unit):=f.2.1
def vlF (f:fdT) (p:Nat):Int:=((vls f).g p).1
def aol (f:fdT):Bool:=iQ f.1 1 6 && (decide (Int.tmod (((vls f).n:Nat):Int) f.1=0) && (iQ (Int.tdiv (((vls f).n:Nat):Int) f.1) 1 5 && (List.range (vls f).n).all (fun j=>iQ (vlF f j) 0 99999)))
structure asN (f:fdT) (w r:Nat):Prop where
 adU:f.1=(w:Int)
 wide:1<=w/\w<=6
 rows:1<=r/\r<=5
 n:(vls f).n=w * r
 d:Int.tdiv (((vls f).n:Nat):Int) f.1=(r:Int)
 v:∀ j,j < (vls f).n->0<=vlF f j/\vlF f j<=99999
theorem aXd {f:fdT} (h:aol f=true):∃ w r,asN f w r:=by
 unfold aol at h
 simp only [Bool.and_eq_true,decide_eq_true_eq] at h
 obtain ⟨a1,a2,a3,a4⟩:=h
 have a1:=rW a1
 have a3:=rW a3
 have hm:=Int.mul_tdiv_add_tmod (((vls f).n:Nat):Int) f.1
 rw [a2] at hm
 have hw:f.1=(f.1.toNat:Int):=by omega
 have hr:Int.tdiv (((vls f).n:Nat):Int) f.1=((Int.tdiv (((vls f).n:Nat):Int) f.1).toNat:Int):=by omega
 refine ⟨f.1.toNat,(Int.tdiv (((vls f).n:Nat):Int) f.1).toNat,hw,by omega,by omega,?_,hr,fun j hj=>rW (iR a4 hj)⟩
 have:((f.1.toNat * (Int.tdiv (((vls f).n:Nat):Int) f.1).toNat:Nat):Int)=(((vls f).n:Nat):Int):=by
  rw [Int.natCast_mul,<- hw,<- hr]; omega
 omega
theorem aor {f:fdT} (hn:(vls f).n<=140737488355328):YD (no_index ((),(f,()))) (no_index ((0:Int),()))=bif (List.range (vls f).n).all (fun j=>iQ (vlF f j) 0 99999) then .exit 0 () else .ret (false,()):=by
 unfold YD
 refine eA (ps:=rI) (f:=fun j=>((j:Int),())) (ep hn) (fun j hj _=>?_) fun _=>?_
 ·unfold YC YB
  refine (cn (decide_eq_true (dW hj))).trans ?_
  refine (cn (decide_eq_true (bO hj))).trans ?_
  refine (cI (aqt ((vls f).g j).1)).trans ?_
  rw [ec hj hn]
  unfold vlF
  cases iQ ((vls f).g j).1 0 99999 <;> rfl
 ·unfold YC YB
  exact cR (decide_eq_false (by show ¬ ((((vls f).n:Nat):Int) < (((vls f).n:Nat):Int)); omega))
theorem aot {n:Nat} {w:Int} (hn:n<=40) (hw:1<=w/\w<=6):0<=Int.tdiv (n:Int) w/\Int.tdiv (n:Int) w<=40:=by
 rw [Int.tdiv_eq_ediv_of_nonneg (by omega)]
 exact ⟨Int.ediv_nonneg (by omega) (by omega),by have:=Int.ediv_le_self w (show (0:Int)<=(n:Int) by omega); omega⟩
theorem aZ4 {f:fdT} (hn:(vls f).n<=40):M20 (no_index (f,()))=some (aol f,()):=by
 unfold M20 Q20 aol
 refine (cI (adn f.1 1 6)).trans ?_
 cases hw:iQ f.1 1 6 with
 | false=>rfl
 | true =>
 have hw:=rW hw
 refine (cR rfl).trans ?_
 refine (cR (decide_eq_false (by show ¬ (f.1=0); omega))).trans ?_
 show (bif !decide (Int.tmod (((vls f).n:Nat):Int) f.1=0) then _ else _)=_
 cases decide (Int.tmod (((vls f).n:Nat):Int) f.1=0) with
 | false=>rfl
 | true =>
 refine (cR rfl).trans ?_
 refine (cR (decide_eq_false (by show ¬ (f.1=0); omega))).trans ?_
 refine (cI (x:=(iQ (Int.tdiv (((vls f).n:Nat):Int) f.1) 1 5,())) ?_).trans ?_
 ·have:=aot hn hw
  show Yy (W (Int.tdiv (((vls f).n:Nat):Int) f.1),(1,(5,())))=_
  rw [eU ⟨by omega,by omega⟩]
  exact adn _ _ _
 cases iQ (Int.tdiv (((vls f).n:Nat):Int) f.1) 1 5 with
 | false=>rfl
 | true =>
 refine (cR rfl).trans ?_
 have e:=aor (f:=f) (by omega)
 cases ha:(List.range (vls f).n).all (fun j=>iQ (vlF f j) 0 99999) with
 | true=>rw [ha] at e; exact gV e
 | false=>rw [ha] at e; exact (sV e).trans (xe e)
theorem ajy (x:Int):aeU (no_index (x,()))=some (!iQ x 0 99999,()):=by
 unfold aeU anK
 exact (cI (adC x 0 99999)).trans rfl
theorem aZ5 {f:fdT} {w r:Nat} (h:asN f w r) (hn:(vls f).n<=40):M78 (no_index (f,()))=some ((r:Int),(true,())):=by
 have hw:1<=f.1/\f.1<=6:=by rw [h.adU]; have:=h.wide; omega
 have hr:=h.rows
 have hm:Int.tmod (((vls f).n:Nat):Int) f.1=0:=by
  have a:=Int.mul_tdiv_add_tmod (((vls f).n:Nat):Int) f.1
  rw [h.d,h.adU,h.n] at a
  rw [h.adU,h.n]
  rw [Int.natCast_mul] at a ⊢
  omega
 obtain ⟨e,he⟩:=aWo (s:=vls f) (F:=fun y1=>(axn y1,axo y1)) (c:=fun x=>!iQ x 0 99999) (fun y=>by
  have e1:axn (y,())=true:=aiu (ajy ..)
  have e2:axo (y,())=(!iQ y 0 99999,()):=ahw (ajy ..)
  show (axn (y,()),axo (y,()))=_
  rw [e1,e2]) (by omega)
 unfold M78 Q78
 refine (cI (adC f.1 1 6)).trans ?_
 rw [show iQ f.1 1 6=true from decide_eq_true hw]
 refine (cR rfl).trans ?_
 refine (cR (decide_eq_false (by show ¬ (f.1=0); omega))).trans ?_
 refine (cR (by show (!decide (Int.tmod (((vls f).n:Nat):Int) f.1=0))=false; rw [decide_eq_true hm]; rfl)).trans ?_
 refine (cR (decide_eq_false (by show ¬ (f.1=0); omega))).trans ?_
 have eW:W (Int.tdiv (((vls f).n:Nat):Int) f.1)=(r:Int):=by rw [h.d]; exact eU ⟨by omega,by omega⟩
 refine (cI (x:=(true,())) ?_).trans ?_
 ·show Vq (W (Int.tdiv (((vls f).n:Nat):Int) f.1),(1,(5,())))=_
  rw [eW]
  refine (adC _ _ _).trans ?_
  rw [show iQ (r:Int) 1 5=true from decide_eq_true (by omega)]
 refine (cR rfl).trans ?_
 refine (cI he).trans ?_
 refine (cR (decide_eq_false (by show ¬ (f.1=0); omega))).trans ?_
 show some (W (Int.tdiv (((vls f).n:Nat):Int) f.1),(!((List.range (vls f).n).any fun j=>!iQ ((vls f).g j).1 0 99999),()))=_
 rw [eW,aiw (c:=fun j=>iQ ((vls f).g j).1 0 99999),xd (c:=fun j=>iQ ((vls f).g j).1 0 99999) fun j hj=>decide_eq_true (h.v j hj)]
def nd (a b:Nat):Nat:=(a - b) + (b - a)
def adi (w a b:Nat):Nat:=nd (a / w) (b / w) + nd (a % w) (b % w)
theorem aER {w r a b:Nat} (hw:1<=w/\w<=6) (ha:a < 30) (hb:b < 30):dst ((w:Int),((r:Int),())) (a:Int) (b:Int)=((adi w a b:Nat):Int):=by
 have e1:∀ x:Nat,x < 30->Int.tdiv (x:Int) (w:Int)=((x / w:Nat):Int)/\Int.tmod (x:Int) (w:Int)=((x % w:Nat):Int)/\x / w<=30/\x % w<=30:=fun x hx=>by
  refine ⟨?_,?_,?_,?_⟩
  ·rw [Int.tdiv_eq_ediv_of_nonneg (by omega)]; rfl
  ·rw [Int.tmod_eq_emod_of_nonneg (by omega)]; rfl
  ·exact Nat.le_trans (Nat.div_le_self _ _) (by omega)
  ·exact Nat.le_trans (Nat.mod_le _ _) (by omega)
 obtain ⟨a1,a2,a3,a4⟩:=e1 a ha
 obtain ⟨b1,b2,b3,b4⟩:=e1 b hb
 unfold dst
 have mm:∀ x:Int,mx x x=x:=fun x=>by unfold mx; split <;> rfl
 simp only [a1,a2,b1,b2,mm,Pa]
 have w1:∀ x y:Nat,x<=30->y<=30->W ((x:Int) - (y:Int))=(x:Int) - (y:Int):=fun x y hx hy=>eU ⟨by omega,by omega⟩
 have w2:∀ x:Nat,x<=30->W (x:Int)=(x:Int):=fun x hx=>eU ⟨by omega,by omega⟩
 rw [w2 _ a3,w2 _ b3,w1 _ _ a3 b3,w1 _ _ b3 a3,w1 _ _ a4 b4,w1 _ _ b4 a4]
 unfold adi nd
 generalize a / w=x1 at *
 generalize b / w=x2 at *
 generalize a % w=x3 at *
 generalize b % w=x4 at *
 rw [eU ⟨by omega,by omega⟩]
 omega
theorem avk {w r a b:Nat} (hw:1<=w/\w<=6) (ha:a < 30) (hb:b < 30):Dw (no_index (((w:Int),((r:Int),())),((a:Int),((b:Int),()))))=some (((adi w a b:Nat):Int),()):=by
 have:=aoo (g:=((w:Int),((r:Int),()))) (by show (w:Int)≠0; omega) (a:Int) (b:Int)
 rw [aER hw ha hb] at this
 exact this
theorem aES {w a b:Nat} (hw:1<=w/\w<=6) (ha:a < 30) (hb:b < 30):adi w a b<=120:=by
 have h1:=Nat.div_le_self a w; have h2:=Nat.div_le_self b w; have h3:=Nat.mod_le a w; have h4:=Nat.mod_le b w
 unfold adi nd
 generalize a / w=x1 at *
 generalize b / w=x2 at *
 generalize a % w=x3 at *
 generalize b % w=x4 at *
 omega
theorem aow (w a b:Nat):adi w a b=adi w b a:=by unfold adi nd; omega
end Go.Dm

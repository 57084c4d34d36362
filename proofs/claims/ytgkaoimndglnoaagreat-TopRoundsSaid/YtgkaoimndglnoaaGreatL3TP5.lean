/- Rounds of stations that are due. -/
import Derived.Test.YtgkaoimndglnoaaGreatL3TP4
import Derived.Test.YtgkaoimndglnoaaGreatL3TW4
import Derived.Test.YtgkaoimndglnoaaGreatL3TW13
import Derived.Test.YtgkaoimndglnoaaGreatL3TK
set_option linter.unusedVariables false
set_option linter.unusedSimpArgs false
namespace Go.Dm
open Wat
set_option maxRecDepth 100000
theorem ah4 (r:dx) (h:r.2.2.1.n<=140737488355328):NU (no_index ((),(r,()))) (no_index ((0:Int),()))=bif (List.range r.2.2.1.n).all (zG r) then .exit 2 () else .ret (false,()):=by
 unfold NU
 refine eA (ps:=tu) (f:=fun j=>((j:Int),())) (ep h) (fun j hj _=>?_) fun _=>?_
 ·unfold NT NS zG
  simp only [dW hj,bO hj,ec hj h,decide_true,cond_true,and_self,Int.toNat_natCast,Int.natCast_inj]
  by_cases e:(r.2.2.1.g j).1.n=r.2.2.1.n
  ·simp only [e,KE r hj (by omega),decide_true]
   cases (List.range r.2.2.1.n).all (fun k=>mM ((r.2.2.1.g j).1.g k)) <;> rfl
  ·simp only [decide_eq_false e]
   rfl
 ·unfold NT NS
  simp
theorem aCw {r:dx} (h1:r.2.1.n<=9) (h2:r.2.2.1.n<=10):M6 (no_index (r,()))=some (bQ r,()):=by
 unfold M6 Q6 bQ
 simp only [Sg,bU,acE r (by omega),ah4 r (by omega)]
 have hw:W (((r.2.1.n:Nat):Int) + 1)=((r.2.1.n + 1:Nat):Int):=by rw [eU ⟨by omega,by omega⟩]; rfl
 rw [hw]
 simp only [Int.natCast_inj]
 cases iQ r.1 0 400 with
 | false=>rfl
 | true =>
 cases iQ (r.2.1.n:Int) 1 6 with
 | false=>rfl
 | true =>
 cases decide (r.2.2.1.n=r.2.1.n + 1) with
 | false=>rfl
 | true =>
 cases (List.range r.2.1.n).all (DF r) <;> cases (List.range r.2.2.1.n).all (zG r) <;> rfl
theorem acF {r:dx} (hr:bQ r=true):vj r:=by
 have hr':=hr
 simp only [bQ,Bool.and_eq_true,decide_eq_true_eq] at hr'
 have h1:=rW hr'.2.1
 have h2:=hr'.2.2.1
 refine ⟨by omega,by omega,fun j hj=>?_⟩
 have:=AG hr hj
 omega
structure Sh (s:ju) (w p:Int):Prop where
 st:stB s=true
 ag:AgB s
 w:0<=w/\w<=4000
 p:0<=p/\p<=100
def Si (s:ju) (w a d:Int):Prop:=0<=d/\d<=400/\∀ t,a<=t->t < d->wid s t<=w
abbrev psR:Type:=Sl (Int×Unit)
def jR (r:dx) (st:Sl gW):dx:=(r.1,(st,r.2.2))
structure Set (r:dx) (l:Sl ju) (w p:psR) (j:Nat) (st:Sl gW):Prop where
 n:st.n=r.2.1.n
 old:∀ k,k < j->Sh (l.g k) (w.g k).1 (p.g k).1/\(st.g k).1=(r.2.1.g k).1/\Si (l.g k) (w.g k).1 r.1 (st.g k).2.1
 new:∀ k,j<=k->st.g k=r.2.1.g k
theorem rY {α:Type} (s:Sl α) (i:Nat) (y:α):(cm s i y).g i=y:=by
 show (bif Nat.beq i i then y else s.g i)=y
 rw [show Nat.beq i i=true from Nat.beq_refl i]; rfl
theorem CV {α:Type} {s:Sl α} {i k:Nat} (h:k≠i) (y:α):(cm s i y).g k=s.g k:=by
 show (bif Nat.beq k i then y else s.g k)=s.g k
 cases hb:Nat.beq k i with
 | true=>exact absurd (Nat.eq_of_beq_eq_true hb) h
 | false=>rfl
theorem tr {α:Type} {P:α->Prop} {a b:α} (h:a=b) (hb:P b):P a:=h ▸ hb
theorem Set.step {r:dx} {l:Sl ju} {w p:psR} {j:Nat} {st st':Sl gW} (h:Set r l w p j st) (hn:st'.n=st.n) (hg:Sh (l.g j) (w.g j).1 (p.g j).1) (h1:(st'.g j).1=(st.g j).1) (h2:Si (l.g j) (w.g j).1 r.1 (st'.g j).2.1) (hk:∀ k,k≠j->st'.g k=st.g k):Set r l w p (j + 1) st' where
 n:=hn.trans h.n
 old:=fun k q=>by
  by_cases e:k=j
  ·subst e; exact ⟨hg,h1.trans (by rw [h.new k (Nat.le_refl _)]),h2⟩
  ·rw [hk k e]; exact h.old k (by omega)
 new:=fun k q=>by rw [hk k (by omega)]; exact h.new k (by omega)
def sX (r:dx) (l:Sl ju) (w p:psR) (j:Nat) (q:RQ qv Ev):Prop:=q = .out (.ret (true,()))\/∃ st',Set r l w p (j + 1) st'/\q = .next (((j + 1:Nat):Int),(jR r st',()))
theorem aCx {r:dx} {l:Sl ju} {w p:psR} {b:Int} (hr:0<=r.1/\r.1<=400) (hn:r.2.1.n<=4) (hl:l.n=r.2.1.n) (hw:w.n=r.2.1.n) (hp:p.n=r.2.1.n) {j:Nat} (hj:j < r.2.1.n) {st:Sl gW} (hs:Set r l w p j st) :
  sX r l w p j (OU (l,(w,(p,(b,((),((),(r,()))))))) ((j:Int),(jR r st,()))):=by
 have jl:j < l.n:=by omega
 have jw:j < w.n:=by omega
 have jp:j < p.n:=by omega
 have js:j < st.n:=by rw [hs.n]; exact hj
 have eN:W ((j:Int) + 1)=((j + 1:Nat):Int):=ec hj (by omega)
 unfold OU ab0
 refine tr (P:=sX r l w p j) (cn (decide_eq_true (dW jl))) ?_
 refine tr (P:=sX r l w p j) (cn (decide_eq_true (bO jl))) ?_
 by_cases h16:(16:Int) < (((cq (l.g j)).n:Nat):Int)
 ·exact .inl ((cn (decide_eq_true h16)).trans (cI fI))
 refine tr (P:=sX r l w p j) (cR (decide_eq_false h16)) ?_
 refine tr (P:=sX r l w p j) (cn (decide_eq_true (bO jl))) ?_
 refine tr (P:=sX r l w p j) (cI (aUY (l.g j) (by omega))) ?_
 cases hst:stB (l.g j) with
 | false=>exact .inl ((cn rfl).trans (cI fI))
 | true =>
 have hS:=KC hst
 refine tr (P:=sX r l w p j) (cR rfl) ?_
 refine tr (P:=sX r l w p j) (cn (decide_eq_true (bO jl))) ?_
 obtain ⟨b9,e9,ha⟩:=aUZ hS
 refine tr (P:=sX r l w p j) (cI e9) ?_
 cases b9 with
 | false=>exact .inl ((cn rfl).trans (cI fI))
 | true =>
 have ha:=ha rfl
 refine tr (P:=sX r l w p j) (cR rfl) ?_
 refine tr (P:=sX r l w p j) (cn (decide_eq_true (bO jw))) ?_
 refine tr (P:=sX r l w p j) (cI (aCu (w.g j).1)) ?_
 cases tg:iQ (w.g j).1 0 4000 with
 | false=>exact .inl ((cn rfl).trans (cI fI))
 | true =>
 have tg:=rW tg
 refine tr (P:=sX r l w p j) (cR rfl) ?_
 refine tr (P:=sX r l w p j) (cn (decide_eq_true (bO jp))) ?_
 by_cases hp0:(p.g j).1 < 0
 ·exact .inl ((cn (decide_eq_true hp0)).trans (cI fI))
 refine tr (P:=sX r l w p j) (cR (decide_eq_false hp0)) ?_
 refine tr (P:=sX r l w p j) (cn (decide_eq_true (bO jp))) ?_
 by_cases hp1:100 < (p.g j).1
 ·exact .inl ((cn (decide_eq_true hp1)).trans (cI fI))
 refine tr (P:=sX r l w p j) (cR (decide_eq_false hp1)) ?_
 refine tr (P:=sX r l w p j) (cn (decide_eq_true (bO jl))) ?_
 refine tr (P:=sX r l w p j) (cn (decide_eq_true (bO jw))) ?_
 have hG:Sh (l.g j) (w.g j).1 (p.g j).1:=⟨hst,ha,tg,by omega,by omega⟩
 rcases aCt hst ha hr tg with ⟨d,e,h1,h2,h3⟩ | ⟨e,h3⟩
 ·refine tr (P:=sX r l w p j) (cI e) ?_
  refine tr (P:=sX r l w p j) (cR rfl) ?_
  refine tr (P:=sX r l w p j) (cn rfl) ?_
  refine tr (P:=sX r l w p j) (cI (ale d)) ?_
  refine tr (P:=sX r l w p j) (cR (by show (!iQ d 0 400)=false; rw [show iQ d 0 400=true from decide_eq_true ⟨by omega,by omega⟩]; rfl)) ?_
  refine tr (P:=sX r l w p j) (cn (decide_eq_true (bO js))) ?_
  refine tr (P:=sX r l w p j) (cn rfl) ?_
  refine tr (P:=sX r l w p j) (cn (decide_eq_true (bO js))) ?_
  refine .inr ⟨cm (cm st j ((st.g j).1,((400:Int),()))) j (((cm st j ((st.g j).1,((400:Int),()))).g j).1,(d,())),hs.step rfl hG ?_ ?_ fun k q=>?_,?_⟩
  ·rw [rY,rY]
  ·rw [rY]; exact (show Si _ _ _ d from ⟨by omega,by omega,h3⟩)
  ·rw [CV q,CV q]
  ·rw [<- eN]; rfl
 ·refine tr (P:=sX r l w p j) (cI e) ?_
  refine tr (P:=sX r l w p j) (cn rfl) ?_
  refine tr (P:=sX r l w p j) (cR rfl) ?_
  refine tr (P:=sX r l w p j) (cR rfl) ?_
  refine tr (P:=sX r l w p j) (cn (decide_eq_true (bO js))) ?_
  refine tr (P:=sX r l w p j) (cR rfl) ?_
  refine .inr ⟨cm st j ((st.g j).1,((400:Int),())),hs.step rfl hG ?_ ?_ fun k q=>CV q _,?_⟩
  ·rw [rY]
  ·rw [rY]; exact (show Si _ _ _ 400 from ⟨by omega,by omega,fun t a1 a2=>h3 t a1 (by omega)⟩)
  ·rw [<- eN]; rfl
theorem ah5 {r:dx} {l:Sl ju} {w p:psR} {b:Int} (hr:0<=r.1/\r.1<=400) (hn:r.2.1.n<=4) (hl:l.n=r.2.1.n) (hw:w.n=r.2.1.n) (hp:p.n=r.2.1.n) :
    ab1 (l,(w,(p,(b,((),((),(r,()))))))) ((0:Int),(r,())) = .ret (true,())\/∃ st,Set r l w p r.2.1.n st/\ab1 (l,(w,(p,(b,((),((),(r,()))))))) ((0:Int),(r,())) = .exit 0 (jR r st,()):=
  qj (ps:=qv) (wy:=Ev) (N:=dw) (step:=OU (l,(w,(p,(b,((),((),(r,()))))))))
    (P:=fun j v=>∃ st,Set r l w p j st/\v=((j:Int),(jR r st,())))
    (Q:=fun q=>q = .ret (true,())\/∃ st,Set r l w p r.2.1.n st/\q = .exit 0 (jR r st,()))
    r.2.1.n (by unfold dw; omega)
    (fun j v hj hp'=>by
      obtain ⟨st,hs,rfl⟩:=hp'
      rcases aCx (b:=b) hr hn hl hw hp hj hs with e | ⟨st',hs',e⟩
      · exact .inr ⟨_,e,.inl rfl⟩
      · exact .inl ⟨_,e,st',hs',rfl⟩)
    (fun v hp'=>by
      obtain ⟨st,hs,rfl⟩:=hp'
      refine ⟨_,?_,.inr ⟨st,hs,rfl⟩⟩
      unfold OU ab0
      exact cR (decide_eq_false (by show ¬ (((r.2.1.n:Nat):Int) < ((l.n:Nat):Int)); omega)))
    ((0:Int),(r,())) ⟨r.2.1,⟨rfl,fun k q=>by omega,fun k _=>rfl⟩,rfl⟩
def qB (x:dx) (o:bI) (p:psR) (j:Nat):Int:=(road x o j).1 + Int.tdiv (((road x o j).2.1 - (road x o j).1) * (p.g j).1) 100
theorem KF {X q:Int} (hx:0<=X/\X<=60) (hq:0<=q/\q<=100):0<=X * q/\X * q<=6000/\0<=Int.tdiv (X * q) 100/\Int.tdiv (X * q) 100<=X:=by
 have a1:0<=X * q:=Int.mul_nonneg hx.1 hq.1
 have a2:X * q<=X * 100:=Int.mul_le_mul_of_nonneg_left hq.2 hx.1
 rw [Int.tdiv_eq_ediv_of_nonneg a1]
 omega
theorem HX {x:dx} {o:bI} {p:psR} (hx:bQ x=true) (ho:bL x o=true) (hp:∀ j,j < o.n->0<=(p.g j).1/\(p.g j).1<=100) {j:Nat} (hj:j < o.n):(road x o j).1<=qB x o p j/\qB x o p j<=(road x o j).2.1:=by
 have h1:=mN hx ho hj
 have h2:=KF (X:=(road x o j).2.1 - (road x o j).1) (by omega) (hp j hj)
 unfold qB
 omega
theorem ah6 {r x:dx} {l:Sl ju} {w p:psR} {b:Int} {o:bI} (hx:bQ x=true) (ho:bL x o=true) (hs:o.n<=10) (hpn:o.n<=p.n) (hp:∀ j,j < o.n->0<=(p.g j).1/\(p.g j).1<=100) :
  ahR (l,(w,(p,(b,((),((),(o,(r,(x,()))))))))) (ze,((0:Int),())) = .exit 2 (qA ze (fun j=>(qB x o p j,())) o.n,()):=by
 unfold ahR
 refine cX (ps:=qw) o.n dw (fun j=>(qA ze (fun j=>(qB x o p j,())) j,((j:Int),()))) (by unfold dw; omega) (fun j hj=>?_) ?_
 ·unfold ab5 ab4
  have h1:=mN hx ho hj
  have h2:=KF (X:=(road x o j).2.1 - (road x o j).1) (by omega) (hp j hj)
  refine (cn (decide_eq_true (dW hj))).trans ?_
  refine (cI (aCy hx ho hs hj)).trans ?_
  refine (cn (decide_eq_true (bO (show j < p.n by omega)))).trans ?_
  refine (cn (decide_eq_true (by show ((qA ze (fun j=>(qB x o p j,())) j).n + 1) * 8<=140737488355328; rw [ji rfl]; omega))).trans ?_
  have e1:W ((road x o j).2.1 - (road x o j).1)=(road x o j).2.1 - (road x o j).1:=eU ⟨by omega,by omega⟩
  have e2:W (((road x o j).2.1 - (road x o j).1) * (p.g j).1)=((road x o j).2.1 - (road x o j).1) * (p.g j).1:=eU ⟨by omega,by omega⟩
  have e3:W (Int.tdiv (((road x o j).2.1 - (road x o j).1) * (p.g j).1) 100)=Int.tdiv (((road x o j).2.1 - (road x o j).1) * (p.g j).1) 100:=eU ⟨by omega,by omega⟩
  have e4:W ((road x o j).1 + Int.tdiv (((road x o j).2.1 - (road x o j).1) * (p.g j).1) 100)=qB x o p j:=eU ⟨by omega,by omega⟩
  have e5:W ((road x o j).1 + W (Int.tdiv (W (W ((road x o j).2.1 - (road x o j).1) * (p.g j).1)) 100))=qB x o p j:=by rw [e1,e2,e3,e4]
  rw [<- ec hj (by omega)]
  exact congrArg (fun (y:Int)=>(RQ.next (cj (qA ze (fun j=>(qB x o p j,())) j) ⟨1,fun i=>List.getD [(y,())] i (y,())⟩,(W ((j:Int) + 1),())):RQ qw KA)) e5
 ·unfold ab5 ab4
  exact cR (decide_eq_false (by show ¬ (((o.n:Nat):Int) < ((o.n:Nat):Int)); omega))
theorem acH {x:dx} {o:bI} (hs:iS x o=true) {j:Nat} (hj:j < o.n):arr x o (gX x o) j<=(x.2.1.g (o.g j).1.toNat).2.1:=by
 have:=iR hs hj
 rw [Bool.not_eq_true'] at this
 have:=of_decide_eq_false this
 omega
theorem ah7 {r x:dx} {l:Sl ju} {w p:psR} {b:Int} {o:bI} {g:Nat->Int} (hb:1<=b/\b<=400) (hr:0<=r.1/\r.1<=400) (hs:o.n<=10)
  (hk:∀ j,j < o.n->∃ k:Nat,(o.g j).1=(k:Int)/\k < l.n/\k < w.n/\Sh (l.g k) (w.g k).1 (p.g k).1/\(∀ t,r.1<=t->t < arr x o g j->wid (l.g k) t<=(w.g k).1))
  (ha:∀ j,j < o.n->0<=arr x o g j/\arr x o g j<=400) :
  acd (l,(w,(b,((),(o,(days x o g,(r,()))))))) ((0:Int),()) = .exit 4 ():=by
 unfold acd
 have hdn:=HY x o g
 refine cX (ps:=rV) o.n dw (fun j=>((j:Int),())) (by unfold dw; omega) (fun j hj=>?_) ?_
 ·unfold ab9 ab8
  have hdg:=acI x o g hj
  have h1:=ha j hj
  obtain ⟨k,ek,kl,kw,hG,ht⟩:=hk j hj
  have jd:j < (days x o g).n:=by omega
  refine (cn (decide_eq_true (dW hj))).trans ?_
  refine (cn (decide_eq_true (bO jd))).trans ?_
  refine (cn (decide_eq_true (bO jd))).trans ?_
  have e0:((days x o g).g j).1=arr x o g j:=by rw [hdg]
  refine (cR (decide_eq_false (by show ¬ ((400:Int) < ((days x o g).g j).1); rw [e0]; omega))).trans ?_
  have e1:W (((days x o g).g j).1 - b)=arr x o g j - b:=by rw [e0]; exact eU ⟨by omega,by omega⟩
  have eN:W ((j:Int) + 1)=((j + 1:Nat):Int):=ec hj (by omega)
  by_cases hlt:arr x o g j - b < r.1
  ·refine (cn (decide_eq_true (by show W (((days x o g).g j).1 - b) < r.1; rw [e1]; exact hlt))).trans ?_
   rw [<- eN]
  refine (cR (decide_eq_false (by show ¬ (W (((days x o g).g j).1 - b) < r.1); rw [e1]; exact hlt))).trans ?_
  refine (cn (decide_eq_true (bO hj))).trans ?_
  refine (cn (decide_eq_true (by show 0<=(o.g j).1/\(o.g j).1 < ((l.n:Nat):Int); rw [ek]; exact bO kl))).trans ?_
  have hS:=KC hG.st
  have hd:0<=arr x o g j - b/\arr x o g j - b<=400:=⟨by omega,by omega⟩
  have ei:idx (l.g (Int.toNat (o.g j).1)) (W (((days x o g).g j).1 - b))=idx (l.g k) (arr x o g j - b):=by rw [ek,e1,Int.toNat_natCast]
  have hid:=ah3 hS hG.ag hd
  have e17:M17 (no_index (l.g (Int.toNat (o.g j).1),(W (((days x o g).g j).1 - b),())))=some (idx (l.g k) (arr x o g j - b),((0:Int),())):=by
   rw [ek,e1,Int.toNat_natCast]
   exact aCs hG.st hG.ag hd
  refine (cI e17).trans ?_
  refine (cR rfl).trans ?_
  refine (cI (acB (idx (l.g k) (arr x o g j - b)).1 (idx (l.g k) (arr x o g j - b)).2.1 (-2000) 2000)).trans ?_
  refine (cR (by show (!Pb (idx (l.g k) (arr x o g j - b)).1 (idx (l.g k) (arr x o g j - b)).2.1 (-2000) 2000)=false; rw [show Pb (idx (l.g k) (arr x o g j - b)).1 (idx (l.g k) (arr x o g j - b)).2.1 (-2000) 2000=true from decide_eq_true hid]; rfl)).trans ?_
  refine (cn (decide_eq_true (bO hj))).trans ?_
  refine (cn (decide_eq_true (by show 0<=(o.g j).1/\(o.g j).1 < ((w.n:Nat):Int); rw [ek]; exact bO kw))).trans ?_
  refine (cR (decide_eq_false ?_)).trans ?_
  ·show ¬ ((w.g (Int.toNat (o.g j).1)).1 < W ((idx (l.g k) (arr x o g j - b)).2.1 - (idx (l.g k) (arr x o g j - b)).1))
   rw [ek,Int.toNat_natCast,eU ⟨by omega,by omega⟩]
   have:=ht (arr x o g j - b) (by omega) (by omega)
   unfold wid at this
   omega
  ·rw [<- eN]
 ·unfold ab9 ab8
  exact cR (decide_eq_false (by show ¬ (((o.n:Nat):Int) < ((o.n:Nat):Int)); omega))
end Go.Dm

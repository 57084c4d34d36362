/- Readings that are placed on a map. -/
import Derived.Test.YtgkaoimndglnoaaGreatL4TP9
import Derived.Test.YtgkaoimndglnoaaGreatL4TP14
import Derived.Test.YtgkaoimndglnoaaGreatL4TK
set_option linter.unusedVariables false
set_option linter.unusedSimpArgs false
namespace Go.Dm
set_option maxRecDepth 100000
theorem aDb {s:ju} (h:vi s) {d:Int} (hd:0<=d/\d<=400):abO (no_index (s,(d,())))=some (idx s d,()):=by
 have hn:=h.n
 have e:abN (no_index (d,((),((),((),(s,(((0:Int),((0:Int),())),()))))))) (no_index ((0:Int),(((-2000:Int),((2000:Int),())),()))) = .exit 0 (idx s d,()):=by
  unfold abN
  refine cX (ps:=mL) (cq s).n dw (fun j=>((j:Int),((Vb s d j,(Vc s d j,())),()))) (by unfold dw; omega) (fun j hj=>?_) ?_
  ·unfold OP OO
   have a1:=h.day j hj
   have a3:=h.idx j hj
   obtain ⟨b1,b2,b3⟩:=Se h.KW (HW hd a1)
   have aGS:Kx (no_index (d,(((cq s).g j).1,())))=some (AF d ((cq s).g j).1,()):=by
    unfold Kx ahz AF
    show some (mx (W (d - ((cq s).g j).1)) (W (((cq s).g j).1 - d)),())=_
    rw [eU (n:=d - ((cq s).g j).1) ⟨by omega,by omega⟩,eU (n:=((cq s).g j).1 - d) ⟨by omega,by omega⟩,Pa]
   refine (cn (decide_eq_true (dW hj))).trans ?_
   refine (cn (decide_eq_true (bO hj))).trans ?_
   refine (cI aGS).trans ?_
   refine (cI aGS).trans ?_
   have e1:mx (Vb s d j) (W (((cq s).g j).2.1 - W (s.2.2.2.2.1 * AF d ((cq s).g j).1)))=Vb s d (j + 1):=by
    rw [show W (s.2.2.2.2.1 * AF d ((cq s).g j).1)=KD s d ((cq s).g j).1 from b3,eU ⟨by unfold KD; omega,by unfold KD; omega⟩,Pa]; rfl
   have e2:mn (Vc s d j) (W (((cq s).g j).2.2.1 + W (s.2.2.2.2.1 * AF d ((cq s).g j).1)))=Vc s d (j + 1):=by
    rw [show W (s.2.2.2.2.1 * AF d ((cq s).g j).1)=KD s d ((cq s).g j).1 from b3,eU ⟨by unfold KD; omega,by unfold KD; omega⟩,as9]; rfl
   rw [<- e1,<- e2,<- ec hj (by omega)]
   rfl
  ·unfold OP OO
   exact cR (decide_eq_false (by show ¬ ((((cq s).n:Nat):Int) < (((cq s).n:Nat):Int)); omega))
 unfold abO asE
 exact gV e
theorem aHe {s:ju} {r:rdT} (h:vi s) (hr:aVq r) (t:trT):∃ b,M67 (no_index (s,(r,(t,()))))=some (b,())/\(b=true->adk s r t):=by
 have hRe:=h.rea
 have acW:W (0 - s.2.2.2.2.2.1) = -s.2.2.2.2.2.1:=by rw [eU ⟨by omega,by omega⟩]; omega
 have step:∀ {α:Type} {P:α->Prop} {a b:α},a=b->P b->P a:=fun e p=>e ▸ p
 have amf:∀ {o:Option (Bool×Unit)},o=some (false,())->∃ b,o=some (b,())/\(b=true->adk s r t):=fun e=>⟨false,e,fun h=>by cases h⟩
 unfold M67 Q67
 have L:∀ {o o':Option (Bool×Unit)},o=o'->(∃ b,o'=some (b,())/\(b=true->adk s r t))->∃ b,o=some (b,())/\(b=true->adk s r t):=fun e p=>e ▸ p
 refine L (cI (aDb h hr.day)) ?_
 refine L (cI (acA t.1 (idx s r.1).1 (idx s r.1).2.1)) ?_
 cases c1:iQ t.1 (idx s r.1).1 (idx s r.1).2.1 with
 | false=>exact amf rfl
 | true =>
 refine L (cn rfl) ?_
 refine L (cI (x:=(iQ t.2.1 (-s.2.2.2.2.2.1) s.2.2.2.2.2.1,())) ?_) ?_
 ·show DE (t.2.1,(W (0 - s.2.2.2.2.2.1),(s.2.2.2.2.2.1,())))=_
  rw [acW]
  exact acA _ _ _
 cases c2:iQ t.2.1 (-s.2.2.2.2.2.1) s.2.2.2.2.2.1 with
 | false=>exact amf rfl
 | true =>
 refine L (cn rfl) ?_
 refine L (cI (acA t.2.2.1 s.2.2.1 s.2.2.2.1)) ?_
 cases c3:iQ t.2.2.1 s.2.2.1 s.2.2.2.1 with
 | false=>exact amf rfl
 | true =>
 refine L (cn rfl) ?_
 refine L (cI (acA t.2.2.2.1 s.1 s.2.1)) ?_
 cases c4:iQ t.2.2.2.1 s.1 s.2.1 with
 | false=>exact amf rfl
 | true =>
 refine L (cn rfl) ?_
 refine L (cI (acA t.2.2.2.2.1 r.2.2.2.2.1 r.2.2.2.2.2.1)) ?_
 cases c5:iQ t.2.2.2.2.1 r.2.2.2.2.1 r.2.2.2.2.2.1 with
 | false=>exact amf rfl
 | true =>
 refine L (cn rfl) ?_
 refine L (cI (acA t.2.2.2.2.2.1 r.2.2.2.2.2.2.1 r.2.2.2.2.2.2.2.1)) ?_
 cases c6:iQ t.2.2.2.2.2.1 r.2.2.2.2.2.2.1 r.2.2.2.2.2.2.2.1 with
 | false=>exact amf rfl
 | true =>
 refine L (cn rfl) ?_
 refine L (cI (acA t.2.2.2.2.2.2.1 r.2.2.2.2.2.2.2.2.1 r.2.2.2.2.2.2.2.2.2.1)) ?_
 cases c7:iQ t.2.2.2.2.2.2.1 r.2.2.2.2.2.2.2.2.1 r.2.2.2.2.2.2.2.2.2.1 with
 | false=>exact amf rfl
 | true=>exact ⟨true,rfl,fun _=>⟨rW c1,rW c2,rW c3,rW c4,rW c5,rW c6,rW c7⟩⟩
abbrev plT:Type:=Int×Int×Int×Int×Int×Int×Int×Int×Sl ckT×Int×Int×Int×Int×Int×Int×Int×Int×Int×Int×Int×trT
def plS (G:plT):ju:=(G.1,(G.2.1,(G.2.2.1,(G.2.2.2.1,(G.2.2.2.2.1,(G.2.2.2.2.2.1,(G.2.2.2.2.2.2.1,(G.2.2.2.2.2.2.2.1,(G.2.2.2.2.2.2.2.2.1,())))))))))
def plP (G:plT):Int:=G.2.2.2.2.2.2.2.2.2.1
def plR (G:plT):rdT:=(G.2.2.2.2.2.2.2.2.2.2.1,(G.2.2.2.2.2.2.2.2.2.2.2.1,(G.2.2.2.2.2.2.2.2.2.2.2.2.1,(G.2.2.2.2.2.2.2.2.2.2.2.2.2.1,(G.2.2.2.2.2.2.2.2.2.2.2.2.2.2.1,(G.2.2.2.2.2.2.2.2.2.2.2.2.2.2.2.1,(G.2.2.2.2.2.2.2.2.2.2.2.2.2.2.2.2.1,(G.2.2.2.2.2.2.2.2.2.2.2.2.2.2.2.2.2.1,(G.2.2.2.2.2.2.2.2.2.2.2.2.2.2.2.2.2.2.1,(G.2.2.2.2.2.2.2.2.2.2.2.2.2.2.2.2.2.2.2.1,()))))))))))
def aDc (G:plT):trT:=G.2.2.2.2.2.2.2.2.2.2.2.2.2.2.2.2.2.2.2.2
structure alF (m:adh) (G:plT):Prop where
 st:stB (plS G)=true
 ag:AgB (plS G)
 rd:rdB (plR G)=true
 tr:adk (plS G) (plR G) (aDc G)
 pt:0<=plP G/\plP G<=m.1 * m.2.1 - 1
theorem aHl {m:adh} (hm:aqq m) {l:Sl plT} (hn:l.n<=6):∃ b,M21 (no_index (m,(l,())))=some (b,())/\(b=true->∀ j,j < l.n->alF m (l.g j)):=by
  have key:=qj (ps:=rU) (wy:=HQ) (N:=dw) (step:=abT (l,((),(m,()))))
    (P:=fun j v=>v=((j:Int),())/\∀ k,k < j->alF m (l.g k))
    (Q:=fun q=>(q = .exit 0 ()/\∀ k,k < l.n->alF m (l.g k))\/q = .ret (false,()))
    l.n (by unfold dw; omega)
    (fun j v hj hp=>by
      obtain ⟨rfl,hp⟩:=hp
      have st:abT (l,((),(m,()))) ((j:Int),()) = .out (.ret (false,()))\/(abT (l,((),(m,()))) ((j:Int),()) = .next (((j + 1:Nat):Int),())/\alF m (l.g j)):=by
        unfold abT abS
        have L:∀ {o o':RQ rU HQ},o=o'->(o' = .out (.ret (false,()))\/(o' = .next (((j + 1:Nat):Int),())/\alF m (l.g j)))->(o = .out (.ret (false,()))\/(o = .next (((j + 1:Nat):Int),())/\alF m (l.g j))):=fun e p=>e ▸ p
        refine L (cn (decide_eq_true (dW hj))) ?_
        refine L (cn (decide_eq_true (bO hj))) ?_
        by_cases h16:(16:Int) < (((cq (plS (l.g j))).n:Nat):Int)
        · exact .inl (cn (decide_eq_true h16))
        refine L (cR (decide_eq_false h16)) ?_
        refine L (cI (aUY (plS (l.g j)) (by omega))) ?_
        cases hst:stB (plS (l.g j)) with
        | false=>exact .inl rfl
        | true =>
        have hS:=KC hst
        refine L (cR rfl) ?_
        obtain ⟨b9,e9,ha⟩:=aUZ hS
        refine L (cI e9) ?_
        cases b9 with
        | false=>exact .inl rfl
        | true =>
        refine L (cR rfl) ?_
        refine L (cI (aYl (plR (l.g j)))) ?_
        cases hrd:rdB (plR (l.g j)) with
        | false=>exact .inl rfl
        | true =>
        refine L (cR rfl) ?_
        obtain ⟨b7,e7,ht⟩:=aHe hS (aYj hrd) (aDc (l.g j))
        refine L (cI e7) ?_
        cases b7 with
        | false=>exact .inl rfl
        | true =>
        refine L (cR rfl) ?_
        refine L (cI (aD9 hm.wide hm.rows (plP (l.g j)))) ?_
        cases hpt:iQ (plP (l.g j)) 0 (m.1 * m.2.1 - 1) with
        | false=>exact .inl rfl
        | true =>
        refine .inr ⟨?_,hst,ha rfl,hrd,ht rfl,rW hpt⟩
        rw [<- ec hj (by omega)]
        rfl
      rcases st with e | ⟨e,ho⟩
      · exact .inr ⟨_,e,.inr rfl⟩
      · refine .inl ⟨_,e,rfl,fun k hk=>?_⟩
        by_cases ek:k=j
        · subst ek; exact ho
        · exact hp k (by omega))
    (fun v hp=>by
      obtain ⟨rfl,hp⟩:=hp
      refine ⟨_,?_,.inl ⟨rfl,hp⟩⟩
      unfold abT abS
      exact cR (decide_eq_false (by show ¬ (((l.n:Nat):Int) < ((l.n:Nat):Int)); omega)))
    ((0:Int),()) ⟨rfl,fun k hk=>by omega⟩
  have oL:abU (l,((),(m,()))) ((0:Int),())=bB (abT (l,((),(m,())))) dw ((0:Int),()):=rfl
  rw [<- oL] at key
  unfold M21 Q21
  rcases key with ⟨e,h1⟩ | e
  · exact ⟨true,gV e,fun _=>h1⟩
  · exact ⟨false,(sV e).trans (xe e),fun h=>by cases h⟩
end Go.Dm

/-
 The framework: an interpreter over typed data,and why what it says of a call is true.
-/
import Derived.Test.YtgkaoimndglnoaaGreatFwD
set_option linter.unusedVariables false
set_option linter.unusedSimpArgs false
namespace Go.Dm
open Go.RowKit
variable {P:Program} {N:Nat} {G:Gh} {S S':CS} {w w':World} {s:St} {a:Act} {ρ ρ':fA} {F F':Nat->Prop} {E:cg} {Γ:Ctx} {Fw:Fence} {r:Nat} {bw:List fu} {fid:FuncId} {lo lo':Nat} {mps:List bg} {e:Ty}
def Tree.cT {α:Type} (bad:α):Tree α->α
 | .leaf r=>r
 | .br b l r=>bif b then l.cT bad else r.cT bad
 | .any _ _=>bad
theorem ew {α:Type} (bad:α) (b:Bool) (l r:Tree α):(bif b then l else r).cT bad=bif b then l.cT bad else r.cT bad:=by cases b <;> rfl
theorem Tree.vX {α:Type} {bad:α}:∀ {t:Tree α},t.cT bad≠bad->∀ o,t.Has o->o=t.cT bad
 | .leaf _,_,_,h=>h
 | .br b l r,h,o,ho=>by
  cases b with
  | true=>exact Tree.vX (t:=l) h o (by simpa [Tree.Has] using ho)
  | false=>exact Tree.vX (t:=r) h o (by simpa [Tree.Has] using ho)
 | .any _ _,h,_,_=>absurd rfl h
theorem dF.mono {c:Code} {f f':St->Tree Out} (h:dF P N G fid Fw r c f') (hf:∀ s,(∀ o,(f s).Has o->o.Lh G)->∀ o,(f' s).Has o->(f s).Has o):dF P N G fid Fw r c f:=by
 intro s a w hs bT
 exact cN (h s a w hs fun o ho=>bT o (hf s bT o ho)) fun e a' w' ⟨o,h1,h2⟩=>⟨o,hf s bT o h1,h2⟩
namespace RO
def rA (o:RO mps):Bool:=match o with
 | .next _=>true
 | _=>false
def yQ (o:RO mps) (id:Nat):Bool:=match o with
 | .KU id' _=>Nat.beq id' id
 | _=>false
def jF (o:RO mps):Bool:=match o with
 | .ret _=>true
 | _=>false
def eF (o:RO mps) (T:TypeId) (τ:Ty):Bool:=match o with
 | .bP T' τ' _ _=>Nat.beq T' T && decide (τ'=τ)
 | _=>false
def Fi (o:RO mps):(aa mps).den:=match o with
 | .next x=>x
 | .KU _ x=>x
 | .ret x=>x
 | .bP _ _ _ x=>x
 | .bad=>(aa mps).dflt
def lf (o:RO mps) (τ:Ty):τ.den:=match o with
 | .bP _ τ' d _=>(cH τ d).getD τ.dflt
 | _=>τ.dflt
end RO
def vY (o:RO mps):List (TypeId×Ty)->Tree (RO mps)
 | []=>.leaf .bad
 | (T,τ) :: l=>.br (o.eF T τ) (.leaf (.bP T τ (o.lf τ) o.Fi)) (vY o l)
def sG (o:RO mps) (iB:List (TypeId×Ty)):List Nat->Tree (RO mps)
 | []=>.br o.rA (.leaf (.next o.Fi)) (.br o.jF (.leaf (.ret o.Fi)) (vY o iB))
 | id :: l=>.br (o.yQ id) (.leaf (.KU id o.Fi)) (sG o iB l)
theorem jG {τ:Ty} (x:τ.den):cH τ x=some x:=by simp [cH]
theorem BK {o:RO mps} {β:Type} {K:RO mps->β}:∀ {l:List (TypeId×Ty)},(∀ q,((vY o l).map K).Has q->q≠K .bad)->(o ≠ .bad)/\((vY o l).map K).Has (K o)
 | [],h=>absurd rfl (h _ rfl)
 | (T,τ) :: l,h=>by
  simp only [vY,Tree.map] at h ⊢
  cases hb:o.eF T τ with
  | true =>
   cases o with
   | bP T' τ' d x =>
    simp only [RO.eF,Bool.and_eq_true,decide_eq_true_eq] at hb
    obtain ⟨h1,h2⟩:=hb
    cases Nat.eq_of_beq_eq_true h1
    subst h2
    refine ⟨by simp,?_⟩
    show K _=K _
    simp [RO.lf,RO.Fi,jG]
   | _=>cases hb
  | false =>
   rw [hb] at h
   have:=BK (l:=l) (fun q hq=>h q (by simpa [Tree.Has] using hq))
   exact ⟨this.1,by simpa [Tree.Has] using this.2⟩
theorem BL {o:RO mps} {iB:List (TypeId×Ty)} {β:Type} {K:RO mps->β}:∀ {l:List Nat},(∀ q,((sG o iB l).map K).Has q->q≠K .bad)->(o ≠ .bad)/\((sG o iB l).map K).Has (K o)
 | [],h=>by
  simp only [sG,Tree.map] at h ⊢
  cases hb:o.rA with
  | true =>
   cases o with
   | next x=>exact ⟨by simp,rfl⟩
   | _=>cases hb
  | false =>
   rw [hb] at h
   cases hb':o.jF with
   | true =>
    cases o with
    | ret x=>exact ⟨by simp,rfl⟩
    | _=>cases hb'
   | false =>
    rw [hb'] at h
    have:=BK (o:=o) (l:=iB) (fun q hq=>h q (by simpa [Tree.Has] using hq))
    exact ⟨this.1,by simpa [Tree.Has] using this.2⟩
 | id :: l,h=>by
  simp only [sG,Tree.map] at h ⊢
  cases hb:o.yQ id with
  | true =>
   cases o with
   | KU id' x =>
    cases Nat.eq_of_beq_eq_true (show Nat.beq id' id=true from hb)
    exact ⟨by simp,rfl⟩
   | _=>cases hb
  | false =>
   rw [hb] at h
   have:=BL (l:=l) (fun q hq=>h q (by simpa [Tree.Has] using hq))
   exact ⟨this.1,by simpa [Tree.Has] using this.2⟩
def cJ {I:Type} (step:(aa mps).den->I->RO mps):(aa mps).den->List I->RO mps
 | x,[]=>.next x
 | x,i :: r=>match step x i with
  | .next x'=>cJ step x' r
  | o=>o
theorem yR {I:Type} {stepT:(aa mps).den->I->Tree (RO mps)} {step:(aa mps).den->I->RO mps} (hs:∀ x i,(stepT x i).cT .bad=step x i):∀ (l:List I) (x:(aa mps).den),cJ step x l ≠ .bad->∀ o,(mP stepT x l).Has o->o=cJ step x l
 | [],x,_,o,ho=>ho
 | i :: l,x,hn,o,ho=>by
  simp only [mP] at ho
  obtain ⟨o1,h1,h2⟩:∃ o1,(stepT x i).Has o1/\(match o1 with
   | .next x'=>mP stepT x' l
   | .KU id x'=>.leaf (.KU id x')
   | .ret x'=>.leaf (.ret x')
   | .bP T τ d x'=>.leaf (.bP T τ d x')
   | .bad=>.leaf .bad:Tree (RO mps)).Has o:=by
   have:∀ (t:Tree (RO mps)) (K:RO mps->Tree (RO mps)),(t.run Tree.any K).Has o->∃ o1,t.Has o1/\(K o1).Has o:=by
    intro t K
    induction t with
    | leaf a=>exact fun h=>⟨a,rfl,h⟩
    | br b l r ihl ihr =>
     intro h
     cases b with
     | true=>obtain ⟨o1,q1,q2⟩:=ihl h; exact ⟨o1,by simpa [Tree.Has] using q1,q2⟩
     | false=>obtain ⟨o1,q1,q2⟩:=ihr h; exact ⟨o1,by simpa [Tree.Has] using q1,q2⟩
    | any l r ihl ihr =>
     intro h
     rcases h with h | h
     ·obtain ⟨o1,q1,q2⟩:=ihl h; exact ⟨o1,.inl q1,q2⟩
     ·obtain ⟨o1,q1,q2⟩:=ihr h; exact ⟨o1,.inr q1,q2⟩
   exact this _ _ ho
  have hne:step x i ≠ .bad:=fun e=>hn (by simp only [cJ,e])
  have e1:=Tree.vX (bad:=.bad) (by rw [hs]; exact hne) o1 h1
  rw [hs] at e1
  subst e1
  cases hst:step x i with
  | next x' =>
   rw [hst] at h2
   have e2:cJ step x (i :: l)=cJ step x' l:=by simp only [cJ,hst]
   rw [e2] at hn ⊢
   exact yR hs l x' hn o h2
  | KU id x'=>rw [hst] at h2; simp only [cJ,hst]; exact h2
  | ret x'=>rw [hst] at h2; simp only [cJ,hst]; exact h2
  | bP T τ d x'=>rw [hst] at h2; simp only [cJ,hst]; exact h2
  | bad=>exact absurd hst hne
def ow (lo:Nat) (bw:List fu) (t:Nat) (e:Ty) (mps:List bg) (ids:List Nat) (iB:List (TypeId×Ty)) (L:(aa mps).den->List e.den->RO mps) (s:St):Tree Out:=
 match kV s.bw bw,s.env t,rd lo s mps with
 | true,.v (.pc (.seq e') Wx),some x=>match cH (σ:=.seq e') (.seq e) Wx with
  | some Wx=>(sG (L x (show Sl e.den from Wx).list) iB ids).map (RO.out lo (.mark :: bw))
  | none=>.leaf .bad
 | _,_,_=>.leaf .bad
theorem Env.round (hE:Env P E Γ G Fence.wide) {G':Gh} (hok:G'.Ok P) (l:Nat):Env P E.DX Γ G' (Fence.wide.inRound l):=
 ⟨hE.mixed,hE.fns,hE.eq,hE.key,hok,gI.wide.inRound l,fun q=>by cases q⟩
theorem kI (hE:Env P E Γ G Fence.wide) (hfree:G.iL) (hlo:G.lo=lo) {fd:Func} (hfd:P.funcs[fid]? = some fd) {t:Tmp} {ps:Array Tmp} (hps:ps.toList.all (Nat.blt · N)=true) (ql:ps.size=e.cells) (heL:e.isL=true)
  (hw:Dq lo' mps=true) (KT:qo (fh mps) bw=true) {as body:Code} {la lb:List Loop} {ids:List Nat} {iB:List (TypeId×Ty)}
  (hla:∀ G':Gh,G'.lo=lo'->G'.iL->∀ l,Env P E.DX Γ G' (Fence.wide.inRound l)->ff P N G' fid (Fence.wide.inRound l) 0 as la) (hlb:∀ G':Gh,G'.lo=lo'->G'.iL->∀ l,Env P E.DX Γ G' (Fence.wide.inRound l)->ff P N G' fid (Fence.wide.inRound l) 0 body lb)
  {step:(aa mps).den->e.den->RO mps} (hstep:∀ x i,(gE P E Γ lo lo' N ps.toList as body la lb e mps x i).cT .bad=step x i) :
  dF P N G fid Fence.wide 0 (.rangeFunc (.tmp t) ps as body) (ow lo bw t e mps ids iB (cJ step)):=by
 subst hlo
 refine dF.mono (Ti (la:=la) (lb:=lb) hE hfree hfd hps ql heL hw KT (fun G' h1 h2 h3 l=>hla G' h1 h3 l (hE.round h2 l)) (fun G' h1 h2 h3 l=>hlb G' h1 h3 l (hE.round h2 l))) ?_
 intro s bT o ho
 unfold ow at bT ⊢
 unfold LJ at ho
 split at ho
 case h_2 =>
  rename_i hn
  exfalso
  have:(Tree.leaf Out.bad).Has Out.bad:=rfl
  split at bT
  ·rename_i h1 h2 h3; exact hn _ _ _ h1 h2 h3
  ·exact bT .bad rfl
 rename_i e' Wx x0 hd hs hx
 simp only [hd,hs,hx] at bT ⊢
 split at ho
 case h_2 =>
  rename_i hc
  simp only [hc] at bT
  exact (bT .bad rfl).elim
 rename_i aGu hcast
 simp only [hcast] at bT ⊢
 obtain ⟨hb,hh⟩:=BL (K:=RO.out G.lo (.mark :: bw)) (l:=ids) (fun q hq e=>by subst e; exact bT _ hq)
 have:∀ (t:Tree (RO mps)),(t.map (RO.out G.lo (.mark :: bw))).Has o->∃ o1,t.Has o1/\o=RO.out G.lo (.mark :: bw) o1:=by
  intro t
  induction t with
  | leaf a=>exact fun h=>⟨a,rfl,h⟩
  | br b l r ihl ihr =>
   intro h
   cases b with
   | true=>obtain ⟨o1,q1,q2⟩:=ihl (by simpa [Tree.map,Tree.Has] using h); exact ⟨o1,by simpa [Tree.Has] using q1,q2⟩
   | false=>obtain ⟨o1,q1,q2⟩:=ihr (by simpa [Tree.map,Tree.Has] using h); exact ⟨o1,by simpa [Tree.Has] using q1,q2⟩
  | any l r ihl ihr =>
   intro h
   rcases h with h | h
   ·obtain ⟨o1,q1,q2⟩:=ihl h; exact ⟨o1,.inl q1,q2⟩
   ·obtain ⟨o1,q1,q2⟩:=ihr h; exact ⟨o1,.inr q1,q2⟩
 obtain ⟨o1,h1,rfl⟩:=this _ ho
 rw [yR hstep _ _ hb o1 h1]
 exact hh
namespace GO
variable {τr:Ty} {qs:List bg}
def isOk (g:GO τr qs):Bool:=match g with
 | .ok _ _=>true
 | _=>false
def eF (g:GO τr qs) (T:TypeId) (τ:Ty):Bool:=match g with
 | .bP T' τ' _ _=>Nat.beq T' T && decide (τ'=τ)
 | _=>false
def adP (g:GO τr qs):τr.den:=match g with
 | .ok r _=>r
 | _=>τr.dflt
def Jf (g:GO τr qs):(aa qs).den:=match g with
 | .ok _ y=>y
 | .bP _ _ _ y=>y
 | .bad=>(aa qs).dflt
def lf (g:GO τr qs) (τ:Ty):τ.den:=match g with
 | .bP _ τ' d _=>(cH τ d).getD τ.dflt
 | _=>τ.dflt
end GO
def ox {τr:Ty} {qs:List bg} (g:GO τr qs):List (TypeId×Ty)->Tree (GO τr qs)
 | []=>.br g.isOk (.leaf (.ok g.adP g.Jf)) (.leaf .bad)
 | (T,τ) :: l=>.br (g.eF T τ) (.leaf (.bP T τ (g.lf τ) g.Jf)) (ox g l)
theorem BM {τr:Ty} {qs:List bg} {g:GO τr qs}:∀ {l:List (TypeId×Ty)},(∀ q,(ox g l).Has q->q ≠ .bad)->g ≠ .bad/\(ox g l).Has g
 | [],h=>by
  cases g with
  | ok r y=>exact ⟨by simp,rfl⟩
  | bP T τ d y=>exact absurd rfl (h .bad rfl)
  | bad=>exact absurd rfl (h .bad rfl)
 | (T,τ) :: l,h=>by
  simp only [ox] at h ⊢
  cases hb:g.eF T τ with
  | true =>
   cases g with
   | bP T' τ' d x =>
    simp only [GO.eF,Bool.and_eq_true,decide_eq_true_eq] at hb
    obtain ⟨h1,h2⟩:=hb
    cases Nat.eq_of_beq_eq_true h1
    subst h2
    refine ⟨by simp,?_⟩
    show _=_
    simp [GO.lf,GO.Jf,jG]
   | _=>cases hb
  | false =>
   rw [hb] at h
   have:=BM (l:=l) (fun q hq=>h q (by simpa [Tree.Has] using hq))
   exact ⟨this.1,by simpa [Tree.Has] using this.2⟩
def fT (n:Nat) (τr:Ty) (ps:List bg) (iB:List (TypeId×Ty)) (R:(aa ps).den->GO τr (aD ps)):List Slot->(Nat->bu)->Tr->Nat->Tree OR:=Wu n τr ps fun x=>ox (R x) iB
theorem gT (hm:P.follows .mixedOrders=true) (hΓ:Sound P Γ) (hE:fB P E.eq) (hK:dN P E.key) {f:FuncId} {fn:Func} {c:Code} (hf:P.funcs[f]? = some fn) (hb:fn.body=some c) {ls:List Loop}
  {τr:Ty} {ps:List bg} (hw:Dq lo ps=true) (hl:∀ G':Gh,G'.lo=lo->G'.iL->Env P E Γ G' Fence.wide->ff P fn.ntmps G' f Fence.wide 0 c ls)
  {R:(aa ps).den->GO τr (aD ps)} (iB:List (TypeId×Ty)) (hR:∀ x,(ur P E Γ fn ls lo τr ps x).cT .bad=R x):dP P f (fT fn.ntmps τr ps iB R):=by
 refine LF (E:=E) (ls:=ls) hm hΓ hE hK hf hb hw (fun G' h1 h2 h3=>hl G' h1 h2 ⟨hm,hΓ,hE,hK,h3,.wide,fun _=>rfl⟩) fun x bT go PD=>?_
 obtain ⟨h1,h2⟩:=BM bT
 rw [<- hR] at h1
 rw [Tree.vX h1 go PD,hR]
 exact h2
def WI (T:TypeId) (e:Ty):Option FR->Option (Sl e.den)
 | some ⟨T',e',s⟩=>match Nat.beq T' T,cH (σ:=.sl e') (.sl e) s with
  | true,some s=>some s
  | _,_=>none
 | none=>none
def qy {τa τr:Ty} (M:τa.den->Option τr.den):Con:=⟨τa,τr,fun x=>(M x).isSome,fun x=>(M x).getD τr.dflt⟩
def LQ.lift {C:Type} {wv wy:bk} (je:(id:Nat)->C->(aa (ct wv id)).den->(aa (ct wy id)).den) (jr:C->(aa wv.ret).den->(aa wy.ret).den) (jp:C->(aa wv.bP).den->(aa wy.bP).den) (c:C):LQ wv->LQ wy
 | .exit id y=>.exit id (je id c y)
 | .ret y=>.ret (jr c y)
 | .bP T τ x y=>.bP T τ x (jp c y)
 | .bad=>.bad
def RQ.lift {C:Type} {vs ps:List bg} {wv wy:bk} (join:C->(aa vs).den->(aa ps).den) (je:(id:Nat)->C->(aa (ct wv id)).den->(aa (ct wy id)).den) (jr:C->(aa wv.ret).den->(aa wy.ret).den) (jp:C->(aa wv.bP).den->(aa wy.bP).den) (c:C):RQ vs wv->RQ ps wy
 | .next v=>.next (join c v)
 | .out q=>.out (q.lift je jr jp c)
 | .bad=>.bad
def kJ {C:Type} {wv:bk} (wy:bk) (jp:C->(aa wv.bP).den->(aa wy.bP).den) (c:C) (q:LQ wv):List (TypeId×Ty)->Tree LO
 | []=>.leaf .bad
 | (T,τ) :: l=>.br (q.eF T τ) (.leaf (.bP T τ (q.lf τ) wy.bP (jp c q.Fh))) (kJ wy jp c q l)
def cD {C:Type} {wv:bk} (wy:bk) (je:(id:Nat)->C->(aa (ct wv id)).den->(aa (ct wy id)).den) (jr:C->(aa wv.ret).den->(aa wy.ret).den) (jp:C->(aa wv.bP).den->(aa wy.bP).den) (iB:List (TypeId×Ty)) (WJ:Bool) (c:C) (q:LQ wv):List (Nat×List bg)->Tree LO
 | []=>match WJ with
  | true=>.br q.jF (.leaf (.ret wy.ret (jr c q.WG))) (kJ wy jp c q iB)
  | false=>kJ wy jp c q iB
 | (id,_) :: l=>.br (q.gM id) (.leaf (.exit id (ct wy id) (je id c (q.mh id)))) (cD wy je jr jp iB WJ c q l)
theorem oy {C:Type} {wv wy:bk} {je:(id:Nat)->C->(aa (ct wv id)).den->(aa (ct wy id)).den} {jr:C->(aa wv.ret).den->(aa wy.ret).den} {jp:C->(aa wv.bP).den->(aa wy.bP).den} {c:C} {q:LQ wv}:∀ {l:List (TypeId×Ty)},(∀ o,((kJ wy jp c q l).map (LO.out lo bw)).Has o->o ≠ .bad)->q ≠ .bad/\((kJ wy jp c q l).map (LO.out lo bw)).Has ((q.lift je jr jp c).out lo bw)
 | [],h=>absurd rfl (h .bad rfl)
 | (T,τ) :: l,h=>by
  simp only [kJ,Tree.map] at h ⊢
  cases hb:q.eF T τ with
  | true =>
   cases q with
   | bP T' τ' x y =>
    simp only [LQ.eF,Bool.and_eq_true,decide_eq_true_eq] at hb
    obtain ⟨h1,h2⟩:=hb
    have h1:=Nat.eq_of_beq_eq_true h1
    subst h1 h2
    refine ⟨by simp,?_⟩
    show (LQ.bP T' τ' x (jp c y)).out lo bw=_
    simp [LO.out,LQ.out,LQ.lf,LQ.Fh,jG]
   | _=>cases hb
  | false =>
   rw [hb] at h
   have:=oy (je:=je) (jr:=jr) (l:=l) (fun o ho=>h o (by simpa [Tree.Has] using ho))
   exact ⟨this.1,by simpa [Tree.Has] using this.2⟩
theorem BN {C:Type} {wv wy:bk} {je:(id:Nat)->C->(aa (ct wv id)).den->(aa (ct wy id)).den} {jr:C->(aa wv.ret).den->(aa wy.ret).den} {jp:C->(aa wv.bP).den->(aa wy.bP).den} {iB:List (TypeId×Ty)} {hr:Bool} {c:C} {q:LQ wv}:∀ {l:List (Nat×List bg)},(∀ o,((cD wy je jr jp iB hr c q l).map (LO.out lo bw)).Has o->o ≠ .bad)->q ≠ .bad/\((cD wy je jr jp iB hr c q l).map (LO.out lo bw)).Has ((q.lift je jr jp c).out lo bw)
 | [],h=>by
  cases hr with
  | false=>exact oy h
  | true =>
   simp only [cD,Tree.map] at h ⊢
   cases hb:q.jF with
   | true =>
    cases q with
    | ret y=>exact ⟨by simp,rfl⟩
    | _=>cases hb
   | false =>
    rw [hb] at h
    have:=oy (je:=je) (jr:=jr) (l:=iB) (fun o ho=>h o (by simpa [Tree.Has] using ho))
    exact ⟨this.1,by simpa [Tree.Has] using this.2⟩
 | (id,p) :: l,h=>by
  simp only [cD,Tree.map] at h ⊢
  cases hb:q.gM id with
  | true =>
   cases q with
   | exit id' y =>
    have e:id'=id:=Nat.eq_of_beq_eq_true hb
    subst e
    refine ⟨by simp,?_⟩
    show (LQ.exit id' (je id' c y)).out lo bw=_
    simp [LO.out,LQ.out]
   | _=>cases hb
  | false =>
   rw [hb] at h
   have:=BN (l:=l) (fun o ho=>h o (by simpa [Tree.Has] using ho))
   exact ⟨this.1,by simpa [Tree.Has] using this.2⟩
theorem aY {C:Type} {vs ps:List bg} {wv wy:bk} {join:C->(aa vs).den->(aa ps).den} {je:(id:Nat)->C->(aa (ct wv id)).den->(aa (ct wy id)).den} {jr:C->(aa wv.ret).den->(aa wy.ret).den} {jp:C->(aa wv.bP).den->(aa wy.bP).den} {c:C} (b:Bool) (x y:RQ vs wv):(bif b then x else y).lift join je jr jp c=bif b then x.lift join je jr jp c else y.lift join je jr jp c:=by cases b <;> rfl
theorem bq {C:Type} {vs ps:List bg} {wv wy:bk} {join:C->(aa vs).den->(aa ps).den} {je:(id:Nat)->C->(aa (ct wv id)).den->(aa (ct wy id)).den} {jr:C->(aa wv.ret).den->(aa wy.ret).den} {jp:C->(aa wv.bP).den->(aa wy.bP).den} {c:C}:(RQ.bad:RQ vs wv).lift join je jr jp c = .bad:=rfl
theorem Tl (hE:Env P E Γ G Fw) {tr:Bool} (ht:tr=true\/G.iL) (hlo:G.lo=lo) {C:Type} {vs ps:List bg} {wv wy:bk} {body:Code} {ls:List Loop} (hls:ff P N G fid Fw r body ls)
  (hps:Vp bw tr ps=true) (hwy:wy.wf bw tr=true) {join:C->(aa vs).den->(aa ps).den} {je:(id:Nat)->C->(aa (ct wv id)).den->(aa (ct wy id)).den} {jr:C->(aa wv.ret).den->(aa wy.ret).den} {jp:C->(aa wv.bP).den->(aa wy.bP).den} {iB:List (TypeId×Ty)} {hr:Bool}
  (sp:(aa ps).den->C×(aa vs).den) (hsp:∀ x,join (sp x).1 (sp x).2=x) (amg:∀ c v,sp (join c v)=(c,v))
  {step:C->(aa vs).den->RQ vs wv} (hstep:∀ c v,bE (cG P E Γ lo N bw ps wy body ls (join c v))=(step c v).lift join je jr jp c) (n:Nat) :
  dF P N G fid Fw r (.loop body) (fm lo bw ps fun x=>cD wy je jr jp iB hr (sp x).1 (bB (step (sp x).1) n (sp x).2) wy.dY):=by
 subst hlo
 have key:∀ (n:Nat) (c:C) (v:(aa vs).den),bB (fun x=>(step (sp x).1 (sp x).2).lift join je jr jp (sp x).1) n (join c v)=(bB (step c) n v).lift je jr jp c:=by
  intro n c
  induction n with
  | zero=>intro v; rfl
  | succ n ih =>
   intro v
   simp only [bB,amg]
   cases hs:step c v with
   | next v'=>simp only [RQ.lift]; exact ih v'
   | out q=>rfl
   | bad=>rfl
 refine Tj hE ht hls hps hwy (step:=fun x=>(step (sp x).1 (sp x).2).lift join je jr jp (sp x).1) (fun x=>by rw [<- hstep,hsp]) n fun x bT=>?_
 have e1:bB (fun x=>(step (sp x).1 (sp x).2).lift join je jr jp (sp x).1) n x=(bB (step (sp x).1) n (sp x).2).lift je jr jp (sp x).1:=by
  have:=key n (sp x).1 (sp x).2
  rwa [hsp] at this
 rw [e1]
 obtain ⟨h1,h2⟩:=BN bT
 refine ⟨?_,h2⟩
 cases hq:bB (step (sp x).1) n (sp x).2 with
 | bad=>exact absurd hq h1
 | _=>simp [LQ.lift]
theorem fK (hE:Env P E Γ G Fw) (ht:G.iL) (hlo:G.lo=lo) {C:Type} {vs ps:List bg} {wv wy:bk} {body:Code} {ls:List Loop} (hls:ff P N G fid Fw r body ls)
  (hps:Vp bw false ps=true) (hwy:wy.wf bw false=true) {join:C->(aa vs).den->(aa ps).den} {je:(id:Nat)->C->(aa (ct wv id)).den->(aa (ct wy id)).den} {jr:C->(aa wv.ret).den->(aa wy.ret).den} {jp:C->(aa wv.bP).den->(aa wy.bP).den} {iB:List (TypeId×Ty)} {hr:Bool}
  (sp:(aa ps).den->C×(aa vs).den) (hsp:∀ x,join (sp x).1 (sp x).2=x) (amg:∀ c v,sp (join c v)=(c,v))
  {step:C->(aa vs).den->RQ vs wv} (hstep:∀ c v,bE (cG P E Γ lo N bw ps wy body ls (join c v))=(step c v).lift join je jr jp c) (n:Nat) :
  dF P N G fid Fw r (.loop body) (fm lo bw ps fun x=>cD wy je jr jp iB hr (sp x).1 (bB (step (sp x).1) n (sp x).2) wy.dY):=
 Tl hE (.inr ht) hlo hls hps hwy sp hsp amg hstep n
def sH:Option Code->Code
 | some (.rangeFunc _ _ as _)=>as
 | _=>.skip
def kK:Option Code->Code
 | some (.rangeFunc _ _ _ b)=>b
 | _=>.skip
theorem mj (hm:P.follows .mixedOrders=true) (hΓ:Sound P Γ) (hE:fB P E.eq) (hK:dN P E.key) {f:FuncId} {fn:Func} {c:Code} (hf:P.funcs[f]? = some fn) (hb:fn.body=some c) {ls:List Loop}
  {τa τr:Ty} {M:τa.den->Option τr.den} (hn:Nat.ble τa.cells fn.ntmps=true) (hM:∀ x,(me P E Γ fn ls τa τr x).sure=M x)
  (hl:∀ G':Gh,G'.lo=0->G'.iL->Env P E Γ G' Fence.wide->ff P fn.ntmps G' f Fence.wide 0 c ls):aQ P f (qy M):=
 EZ hm hΓ hE hK hf hb (fun S w=>hl (Gh.start S w) rfl cL ⟨hm,hΓ,hE,hK,jB,.wide,fun _=>rfl⟩) (qy M) (Nat.le_of_ble_eq_true hn) fun x hp=>Tree.rm (by
  show (me P E Γ fn ls τa τr x).sure=some ((M x).getD τr.dflt)
  rw [hM x]
  have hp:(M x).isSome=true:=hp
  cases h:M x with
  | none=>rw [h] at hp; cases hp
  | some y=>rfl)
theorem Ea {f:FuncId} {n:Nat} {τr:Ty} {ps:List bg} {iB:List (TypeId×Ty)}:dP P f (fT n τr ps iB fun _=>.bad):=by
 intro N G s a w ρ S F hG h args us bJ hlen hargs hlo hall _
 exfalso
 unfold fT Wu at hall
 split at hall
 case h_2=>exact hall .bad rfl rfl
 have:∀ (l:List (TypeId×Ty)),(ox (τr:=τr) (qs:=aD ps) .bad l).Has .bad:=by
  intro l
  induction l with
  | nil=>rfl
  | cons p l ih=>exact ih
 exact hall _ (Tree.dA (f:=GO.or s.heap) (this iB)) rfl
def ry.of:List (FuncId×LN)->ry
 | [],_=>none
 | p :: l,f=>match Nat.beq f p.1 with
  | true=>some p.2
  | false=>ry.of l f
theorem xS:∀ {l:List (FuncId×LN)},(∀ p∈l,eY P p.1/\BI P p.1 p.2)->xR P (ry.of l)
 | [],_,f,c,h=>by cases h
 | p :: l,hl,f,c,h=>by
  simp only [ry.of] at h
  split at h
  ·rename_i hb
   cases h
   rw [Nat.eq_of_beq_eq_true hb]
   exact hl p (.head _)
  ·exact xS (fun p hp=>hl p (.tail _ hp)) f c h
theorem yS (hm:P.follows .mixedOrders=true) (hΓ:Sound P Γ) {Δ:ry} (hΔ:xR P Δ) (hE:fB P E.eq) (hK:dN P E.key) {f:FuncId} {fn:Func} {c:Code} (hf:P.funcs[f]? = some fn) (hb:fn.body=some c) {ls:List Loop}
  {τa τr:Ty} {M:τa.den->Option τr.den} (hn:Nat.ble τa.cells fn.ntmps=true) (hM:∀ x,(rz P E Γ Δ fn ls τa τr x).sure=M x)
  (hl:∀ G':Gh,G'.lo=0->G'.iL->Env P E Γ G' Fence.wide->ff P fn.ntmps G' f Fence.wide 0 c ls):aQ P f (qy M):=
 Dt hm hΓ hΔ hE hK hf hb (fun S w=>hl (Gh.start S w) rfl cL ⟨hm,hΓ,hE,hK,jB,.wide,fun _=>rfl⟩) (qy M) (Nat.le_of_ble_eq_true hn) fun x hp=>Tree.rm (by
  show (rz P E Γ Δ fn ls τa τr x).sure=some ((M x).getD τr.dflt)
  rw [hM x]
  have hp:(M x).isSome=true:=hp
  cases h:M x with
  | none=>rw [h] at hp; cases hp
  | some y=>rfl)
end Go.Dm
namespace Go.Dm
open Go.RowKit
variable {P:Program} {N N':Nat} {G:Gh} {S S' S2:CS} {w w' w2:World} {s s' s2:St} {a a2:Act} {ρ ρ' ρ2:fA} {F F' F2:Nat->Prop} {heap heap' H' H2:Nat->bu} {Y:Value} {E:cg} {Γ:Ctx} {Fw:Fence} {r:Nat} {ops:Array Oper} {lo lo' base:Nat} {bw:List fu} {vr DU:Nat->Nat} {n:Nat} {fid:FuncId} {mps:List bg} {e:Ty}
def WK (t:Nat) (T0:TypeId) (e0:Ty):Out->Tree (Option FR)
 | .ret s | .norm s=>match fS s.bw,s.env t with
  | true,.v (.own id v e sl)=>match s.heap id with
   | .chain v' T _ _=>match Nat.beq v v' with
    | true=>.leaf (some ⟨T,e,sl⟩)
    | false=>.leaf none
   | _=>.leaf none
  | true,.v .mU=>.leaf (some ⟨T0,e0,⟨0,fun _=>e0.dflt⟩⟩)
  | _,_=>.leaf none
 | _=>.leaf none
def adQ (P:Program) (E:cg) (Γ:Ctx) (fn:Func) (ls:List Loop) (t:Nat) (T0:TypeId) (e0:Ty) (τa:Ty) (x:τa.den):Tree (Option FR):=
 match fn.body with
 | some c=>fQ P E Γ 0 fn.ntmps .any c ls (xK τa x) (WK t T0 e0)
 | none=>.leaf none
def anC {e:Ty}:Option (Sl e.den)->Option (Sl e.den)->Option (Sl e.den)
 | some a,some b=>bif Nat.beq a.n 0 && Nat.beq b.n 0 then some ⟨0,fun _=>e.dflt⟩ else none
 | _,_=>none
def Tree.cQ (T:TypeId) (e:Ty):Tree (Option FR)->Option (Sl e.den)
 | .leaf a=>WI T e a
 | .br b l r=>bif b then l.cQ T e else r.cQ T e
 | .any l r=>anC (l.cQ T e) (r.cQ T e)
theorem LP {T:TypeId} {e:Ty} (b:Bool) (l r:Tree (Option FR)):(bif b then l else r).cQ T e=bif b then l.cQ T e else r.cQ T e:=by cases b <;> rfl
def Jg (T:TypeId) (e:Ty) (sl:Sl e.den) (z:Option FR):Prop:=∃ s:Sl e.den,z=some ⟨T,e,s⟩/\(s=sl\/s.n=0/\sl.n=0)
theorem nw {T:TypeId} {e:Ty}:∀ {t:Tree (Option FR)} {sl:Sl e.den},t.cQ T e=some sl->t.gJ (Jg T e sl)
 | .leaf a,sl,h=>by
  simp only [Tree.cQ] at h
  cases a with
  | none=>cases h
  | some fr =>
   obtain ⟨T',e',s'⟩:=fr
   simp only [WI] at h
   split at h
   case h_2=>cases h
   rename_i s2 hT hc
   cases h
   obtain ⟨heq,hsl⟩:=bY hc
   cases Nat.eq_of_beq_eq_true hT
   cases heq
   have hsl:sl=s':=hsl
   exact ⟨s',rfl,.inl hsl.symm⟩
 | .br b l r,sl,h=>by
  cases b with
  | true=>have:=nw (t:=l) (sl:=sl) h; simpa [Tree.gJ] using this
  | false=>have:=nw (t:=r) (sl:=sl) h; simpa [Tree.gJ] using this
 | .any l r,sl,h=>by
  simp only [Tree.cQ,anC] at h
  split at h
  case h_2=>cases h
  rename_i x y hx hy
  cases hb:(Nat.beq x.n 0 && Nat.beq y.n 0) with
  | false=>rw [hb] at h; cases h
  | true =>
   rw [hb] at h
   cases h
   rw [Bool.and_eq_true] at hb
   have h1:=Nat.eq_of_beq_eq_true hb.1
   have h2:=Nat.eq_of_beq_eq_true hb.2
   have mono:∀ {t:Tree (Option FR)} {z:Sl e.den},z.n=0->t.gJ (Jg T e z)->t.gJ (Jg T e ⟨0,fun _=>e.dflt⟩):=by
    intro t z hz
    induction t with
    | leaf a =>
     rintro ⟨s,rfl,hs⟩
     refine ⟨s,rfl,.inr ⟨?_,rfl⟩⟩
     rcases hs with rfl | hs
     ·exact hz
     ·exact hs.1
    | br b l r i1 i2 =>
     intro q
     cases b with
     | true=>have:=i1 (by simpa [Tree.gJ] using q); simpa [Tree.gJ] using this
     | false=>have:=i2 (by simpa [Tree.gJ] using q); simpa [Tree.gJ] using this
    | any l r i1 i2=>exact fun q=>⟨i1 q.1,i2 q.2⟩
   exact ⟨mono h1 (nw hx),mono h2 (nw hy)⟩
def lg (P:Program) (S:CS) (w0 w:World) (T:TypeId) (e:Ty) (s:Sl e.den) (v:Value) (ob:Option Nat):Prop:=
 R P (.sl e) S w s [v]/\((ob=none/\s.n=0/\∃ a,v = .slice a 0 0) \/
  ∃ b cap arr,ob=some b/\v = .slice (some ⟨b,0,none⟩) s.n cap/\s.n<=cap/\cap<=maxLen/\w.heap[b]? = some (.cells arr T (0,0))/\arr.size=cap * e.cells/\w0.heap.size<=b/\∀ o,S b o->o < s.n * e.cells)
theorem lg.like {T:TypeId} {e:Ty} {s sl:Sl e.den} {w0:World} {v:Value} {ob:Option Nat} (h:lg P S w0 w T e s v ob) (hs:s=sl\/s.n=0/\sl.n=0):lg P S w0 w T e sl v ob:=by
 rcases hs with rfl | ⟨h1,h2⟩
 ·exact h
 ·obtain ⟨hR,ho⟩:=h
  refine ⟨?_,?_⟩
  ·rcases hR with ⟨_,a,cap,hv⟩ | ⟨b,o,cap,hv,q1,q2,_⟩
   ·exact .inl ⟨h2,a,cap,hv⟩
   ·exact .inr ⟨b,o,cap,by rw [h2,<- h1]; exact hv,by omega,q2,fun i hi=>by omega⟩
  ·rw [h1] at ho
   rw [h2]
   exact ho
theorem Fj {wr:Bool} (hm:P.follows .mixedOrders=true) (hΓ:Sound P Γ) (hE:fB P E.eq) (hK:dN P E.key) {f:FuncId} {fn:Func} {c:Code} (hf:P.funcs[f]? = some fn) (hb:fn.body=some c) {ls:List Loop}
  {t:Nat} (hres:fn.results = #[.tmp t]) {τa:Ty} {T:TypeId} {e:Ty} (hfl:e.flat=true) (hwr:wr=true->e.plain=true/\0 < e.cells) (hl:∀ G':Gh,G'.lo=0->G'.iL->Env P E Γ G' Fence.wide->ff P fn.ntmps G' f Fence.wide 0 c ls)
  {R:τa.den->Option (Sl e.den)} (hR:∀ x,(adQ P E Γ fn ls t T e τa x).cQ T e=R x):dP P f (nQ wr fn.ntmps τa T e R):=by
 intro N G s a w ρ S F hG h args us bJ hlen hargs hlo hall _
 unfold nQ at hall ⊢
 split at hall
 case h_2=>exact (hall .bad rfl rfl).elim
 rename_i x hn hx hno
 cases hs:R x with
 | none=>rw [hs] at hall; exact absurd rfl (hall .bad rfl)
 | some sl =>
 have hfr:=hR x
 rw [hs] at hfr
 have hR':=fO hlen hargs hx
 have sB:us.length<=fn.ntmps:=by rw [<- hlen]; exact Nat.le_of_ble_eq_true hn
 have h0:=Jc (N:=fn.ntmps) (l:=G.l) h.bd hR' sB
 have BE:(Gh.inner (fun _=>False) S w G.l 0 fun _=>none).Ok P:=ri fun _ _ q=>by cases q
 have rj:Env P E Γ (Gh.inner (fun _=>False) S w G.l 0 fun _=>none) Fence.wide:=⟨hm,hΓ,hE,hK,BE,.wide,fun _=>rfl⟩
 have hx:=nw hfr
 unfold adQ at hx
 rw [hb] at hx
 refine (callsIn_wide (n:=0)).1 (fe hf hb trivial ?_)
 refine cN (cF (G:=Gh.inner (fun _=>False) S w G.l 0 fun _=>none) (K:=WK t T e) (ch:=Tree.any) (T:=fun tt:Tree (Option FR)=>tt.gJ (Jg T e sl)) rj (fun a b q=>q) ⟨(fun q=>by obtain ⟨_,q,_⟩:=q; cases q),(fun s' q=>by obtain ⟨_,q,_⟩:=q; cases q)⟩ hx (hl _ rfl cL rj) ⟨_,_,_,h0⟩) ?_
 rintro en a' w' ⟨o,ho,hT⟩
 have fin:∀ s',SX P fn.ntmps (Gh.inner (fun _=>False) S w G.l 0 fun _=>none) s' a' w'->(WK t T e (.ret s')).gJ (Jg T e sl) ->
   LeavesInM Fence.wide 0 P fn a'.tmps (fun en w'=>∃ r,(Tree.br (some sl).isSome (.leaf (.ok ⟨some (tT wr bJ e ((some sl).getD ⟨0,fun _=>e.dflt⟩)),[(bJ,dJ wr T e ((some sl).getD ⟨0,fun _=>e.dflt⟩))],[bJ],false,none⟩)) (.leaf .bad)).Has r/\vB P N G s a r en w') a'.defers .returning w':=by
  rintro s' ⟨ρ',S',F',hs⟩ hT
  have hmk:fS s'.bw=true:=by
   simp only [WK] at hT
   cases hm:fS s'.bw with
   | true=>rfl
   | false=>rw [hm] at hT; obtain ⟨_,q,_⟩:=hT; cases q
  refine eE BE (by simp) _ rfl hmk hs fun w'' q1 _=>?_
  -- what the row is
  have hrow:∃ ob:Option Nat,lg P S' w w'' T e sl (a'.tmps.getD t undef) ob:=by
   have hrc:=q1.env t
   simp only [WK,hmk] at hT
   split at hT
   ·rename_i id v e' sl' _ EN
    split at hT
    case h_2=>obtain ⟨_,q,_⟩:=hT; cases q
    rename_i v' T' k n Jh
    split at hT
    case h_2=>obtain ⟨_,q,_⟩:=hT; cases q
    rename_i hc
    obtain ⟨s0,hT,BF⟩:=hT
    have hT:some (⟨T',e',sl'⟩:FR)=some ⟨T,e,s0⟩:=hT
    cases hT
    cases Nat.eq_of_beq_eq_true hc
    have EN:({ s' with bw:=[] }:St).env t = .v (.own id v e s0):=EN
    have Jh:({ s' with bw:=[] }:St).heap id = .chain v T k n:=Jh
    rw [EN] at hrc
    obtain ⟨r1,_,cur,T0,k0,n0,r2,_,r4⟩:=hrc
    rw [Jh] at r2
    cases r2
    obtain ⟨r5,r6,r7⟩:=r4 rfl
    subst r5 r6
    have cK:=q1.obj id
    rw [Jh] at cK
    rcases r7 with ⟨g0,g1,g2⟩ | ⟨b,cap,arr,g1,g2,g3,g4,g5,g6⟩
    ·exact ⟨none,lg.like (s:=s0) ⟨r1,.inl ⟨rfl,g1,g2⟩⟩ BF⟩
    ·rcases cK with ⟨o1,_⟩ | ⟨b',o1,o2,o3,o4,o5⟩
     ·rw [g1] at o1; cases o1
     ·rw [g1] at o1; cases o1
      exact ⟨some b,lg.like (s:=s0) ⟨r1,.inr ⟨b,cap,arr,rfl,g2,g3,g4,g5,g6,o2.1.elim (fun x=>x) (fun x=>x.elim),o5⟩⟩ BF⟩
   ·rename_i _ EN
    obtain ⟨s0,hT,BF⟩:=hT
    have hT:some (⟨T,e,⟨0,fun _=>e.dflt⟩⟩:FR)=some ⟨T,e,s0⟩:=hT
    cases hT
    have EN:({ s' with bw:=[] }:St).env t = .v .mU:=EN
    rw [EN] at hrc
    obtain ⟨ad,hv⟩:=hrc
    exact ⟨none,lg.like (s:=⟨0,fun _=>e.dflt⟩) ⟨.inl ⟨rfl,ad,0,by rw [<- hv]⟩,.inl ⟨rfl,rfl,ad,hv⟩⟩ BF⟩
   ·obtain ⟨_,q,_⟩:=hT; cases q
  obtain ⟨ob,hv,hob⟩:=hrow
  cases wr with
  | true =>
   obtain ⟨ql,hpos⟩:=hwr rfl
   have Vl:SR P fn.ntmps (Gh.inner (fun _=>False) S w G.l 0 fun _=>none) ⟨fun _=>.top,fun i=>bif Nat.beq i bJ then .row 0 T e sl else .none,.none,0,[]⟩ { a' with defers:=[] } w''
     (fun i=>bif Nat.beq i bJ then ob else none) (fun b' o=>S' b' o/\ob≠some b') (fun _=>False):=by
    refine ⟨q1.size,trivial,fun _=>trivial,fun i=>?_,fun i j b' hi hj=>?_,⟨q1.ext.size,fun b' o q=>⟨q1.ext.sub b' o q,fun e=>?_⟩,q1.ext.same,q1.ext.maps,fun b' o q=>q1.ext.bd b' o q.1,q1.ext.pl⟩,fun b' o q=>q1.new b' o q.1,
     q1.same.mono fun b' q=>⟨q.1,q.2.1,q.2.2⟩,cL _ _ _,fun _ q=>q.elim,fun _ _ q=>q,fun _ q=>q,fun _ _ _ _=>trivial,fun _ _ q=>by cases q⟩
    ·by_cases hi:i=bJ
     ·subst hi
      simp only [Nat.beq_refl,cond_true]
      refine ⟨⟨hfl,hpos⟩,?_⟩
      rcases hob with ⟨g0,g1,_⟩ | ⟨b,cap,arr,g0,g1,g2,g3,g4,g5,g6,g7⟩
      ·exact .inl ⟨by simp [g0],g1⟩
      ·refine .inr ⟨b,arr,by simp [g0],⟨.inl g6,fun q=>q⟩,g4,by rw [g5]; exact Nat.mul_le_mul_right _ g2,fun k hk=>⟨encs e (sl.g k),(Go.Dm.R.plain ql).2 rfl,gZ _ _ ql,fun j u hu=>?_⟩,fun o q=>q.2 (by rw [g0])⟩
       rcases hv with ⟨r0,_⟩ | ⟨b',o',cap',m1,m2,m3,m4⟩
       ·omega
       ·have m1:=(List.cons.inj m1).1
        rw [g1] at m1
        cases m1
        obtain ⟨us',m5,m6,m7⟩:=m4 k hk
        rw [(Go.Dm.R.plain ql).1 m5] at m7
        obtain ⟨_,m8⟩:=m7 j u hu
        rw [cell_of_row w'' b _ arr T _ g4] at m8
        rw [<- m8]; congr 1; omega
     ·simp only [bF hi,cond_false]; trivial
    ·by_cases hi':i=bJ
     ·by_cases hj':j=bJ
      ·rw [hi',hj']
      ·have hj:=hj.lv; simp only [bF hj',cond_false] at hj; exact hj.elim
     ·have hi:=hi.lv; simp only [bF hi',cond_false] at hi; exact hi.elim
    ·rcases hob with ⟨g0,_⟩ | ⟨b,cap,arr,g0,g1,g2,g3,g4,g5,g6,g7⟩
     ·rw [g0] at e; cases e
     ·rw [g0] at e; cases e
      have:=h.bd b' o q
      omega
   have iO:=h.back hG (D:=fun i=>Nat.beq i bJ) Vl (fun b hb=>hb.elim) (fun id hn=>by
     cases hb:Nat.beq id bJ with
     | true=>rfl
     | false=>simp only [hb,cond_false] at hn; exact absurd rfl hn)
    (fun id hid=>by rw [Nat.eq_of_beq_eq_true hid,hno]; trivial) (fun id b hid hb=>by have:=hG.ic id b hb; have:=Nat.eq_of_beq_eq_true hid; omega)
   have hr0:(results fn a'.tmps).run P w'' = .ok (a'.tmps.getD t undef) w'':=by
    simp [results,hres]
   refine ⟨_,hr0,.ok ⟨some (.v (.row bJ 0)),[(bJ,.row 0 T e sl)],[bJ],false,none⟩,rfl,_,_,_,_,rfl,iO.of_eq rfl ?_ rfl rfl,?_⟩
   ·funext i
    show cE s.heap [(bJ,.row 0 T e sl)] i=eI (fun i=>Nat.beq i bJ) (fun i=>bif Nat.beq i bJ then .row 0 T e sl else .none) s.heap i
    by_cases hi:i=bJ
    ·subst hi; simp [cE,aE,eI]
    ·simp [cE,aE,eI,bF hi]
   ·show RC P G.Y (fun b' o=>S' b' o/\ob≠some b') w'' (cE s.heap [(bJ,.row 0 T e sl)]) (dU (fun i=>Nat.beq i bJ) (fun i=>bif Nat.beq i bJ then ob else none) ρ) (.row bJ 0) (a'.tmps.getD t undef)
    have hh:cE s.heap [(bJ,.row 0 T e sl)] bJ = .row 0 T e sl:=by simp [cE,aE]
    refine ⟨by rw [hh]; simp,?_,fun cu1 T1 e1 s1 hd=>?_⟩
    ·rcases hob with ⟨_,_,ad,g2⟩ | ⟨b,cap,arr,g0,g1,_⟩
     ·exact ⟨_,_,_,g2⟩
     ·exact ⟨_,_,_,g1⟩
    ·rw [hh] at hd
     cases hd
     refine ⟨Nat.le_refl _,fun _=>?_⟩
     rcases hob with ⟨g0,g1,ad,g2⟩ | ⟨b,cap,arr,g0,g1,g2,g3,g4,g5,g6,g7⟩
     ·exact .inl ⟨g1,ad,g2⟩
     ·exact .inr ⟨b,cap,by simp [dU,g0],g1,g2,g3,(Array.getElem?_eq_some_iff.1 g4).1,fun KZ T1 f1 ha=>by rw [g4] at ha; cases ha; exact g5⟩
  | false =>
   have Vl:SR P fn.ntmps (Gh.inner (fun _=>False) S w G.l 0 fun _=>none) ⟨fun _=>.top,fun i=>bif Nat.beq i bJ then .chain 0 T e.cells sl.n else .none,.none,0,[]⟩ { a' with defers:=[] } w''
     (fun i=>bif Nat.beq i bJ then ob else none) S' (fun _=>False):=by
    refine ⟨q1.size,trivial,fun _=>trivial,fun i=>?_,fun i j b' hi hj=>?_,q1.ext,q1.new,
     q1.same.mono fun b' q=>⟨q.1,q.2.1,q.2.2⟩,cL _ _ _,fun _ q=>q.elim,fun _ _ q=>q,fun _ q=>q,fun _ _ _ _=>trivial,fun _ _ q=>by cases q⟩
    ·by_cases hi:i=bJ
     ·subst hi
      simp only [Nat.beq_refl,cond_true]
      rcases hob with ⟨g0,g1,_⟩ | ⟨b,cap,arr,g0,g1,g2,g3,g4,g5,g6,g7⟩
      ·exact .inl ⟨by simp [g0],g1⟩
      ·exact .inr ⟨b,by simp [g0],⟨.inl g6,fun q=>q⟩,(Array.getElem?_eq_some_iff.1 g4).1,⟨_,_,_,g4⟩,g7⟩
     ·simp only [bF hi,cond_false]; trivial
    ·by_cases hi':i=bJ
     ·by_cases hj':j=bJ
      ·rw [hi',hj']
      ·have hj:=hj.lv; simp only [bF hj',cond_false] at hj; exact hj.elim
     ·have hi:=hi.lv; simp only [bF hi',cond_false] at hi; exact hi.elim
   have iO:=h.back hG (D:=fun i=>Nat.beq i bJ) Vl (fun b hb=>hb.elim) (fun id hn=>by
     cases hb:Nat.beq id bJ with
     | true=>rfl
     | false=>simp only [hb,cond_false] at hn; exact absurd rfl hn)
    (fun id hid=>by rw [Nat.eq_of_beq_eq_true hid,hno]; trivial) (fun id b hid hb=>by have:=hG.ic id b hb; have:=Nat.eq_of_beq_eq_true hid; omega)
   have hr0:(results fn a'.tmps).run P w'' = .ok (a'.tmps.getD t undef) w'':=by
    simp [results,hres]
   refine ⟨_,hr0,.ok ⟨some (.v (.own bJ 0 e sl)),[(bJ,.chain 0 T e.cells sl.n)],[bJ],false,none⟩,rfl,_,_,_,_,rfl,iO.of_eq rfl ?_ rfl rfl,?_⟩
   ·funext i
    show cE s.heap [(bJ,.chain 0 T e.cells sl.n)] i=eI (fun i=>Nat.beq i bJ) (fun i=>bif Nat.beq i bJ then .chain 0 T e.cells sl.n else .none) s.heap i
    by_cases hi:i=bJ
    ·subst hi; simp [cE,aE,eI]
    ·simp [cE,aE,eI,bF hi]
   ·show RC P G.Y S' w'' (cE s.heap [(bJ,.chain 0 T e.cells sl.n)]) (dU (fun i=>Nat.beq i bJ) (fun i=>bif Nat.beq i bJ then ob else none) ρ) (.own bJ 0 e sl) (a'.tmps.getD t undef)
    have hh:cE s.heap [(bJ,.chain 0 T e.cells sl.n)] bJ = .chain 0 T e.cells sl.n:=by simp [cE,aE]
    refine ⟨hv,hfl,0,T,e.cells,sl.n,hh,Nat.le_refl _,fun _=>⟨rfl,rfl,?_⟩⟩
    rcases hob with ⟨g0,g1,ad,g2⟩ | ⟨b,cap,arr,g0,g1,g2,g3,g4,g5,g6,g7⟩
    ·exact .inl ⟨by simp [dU,g0],g1,ad,g2⟩
    ·exact .inr ⟨b,cap,arr,by simp [dU,g0],g1,g2,g3,g4,g5⟩
 cases o with
 | norm s=>cases en <;> first | exact ho.elim | exact fin s ho hT
 | ret s=>cases en <;> first | exact ho.elim | exact fin s ho hT
 | exit id s=>obtain ⟨_,q,_⟩:=hT; cases q
 | bP d s=>obtain ⟨_,q,_⟩:=hT; cases q
 | bad=>obtain ⟨_,q,_⟩:=hT; cases q
end Go.Dm
namespace Go.Dm
open Go.RowKit
def cl {α β:Type} (d:α) (m:Option α) (f:α->β) (g:β):β:=bif m.isSome then f (m.getD d) else g
theorem aC {γ:Type} {α:Type} (d:α) (m:Option α) (f:α->Tree (Option γ)) (g:Tree (Option γ)):Tree.sure (cl d m f g)=cl d m (fun y=>Tree.sure (f y)) (Tree.sure g):=by unfold cl; cases m.isSome <;> rfl
theorem WL {T0:TypeId} {e0:Ty} {α:Type} (d:α) (m:Option α) (f:α->Tree (Option FR)) (g:Tree (Option FR)):Tree.cQ T0 e0 (cl d m f g)=cl d m (fun y=>Tree.cQ T0 e0 (f y)) (Tree.cQ T0 e0 g):=by unfold cl; cases m.isSome <;> rfl
theorem gH {γ:Type} (bad:γ) {α:Type} (d:α) (m:Option α) (f:α->Tree γ) (g:Tree γ):Tree.cT bad (cl d m f g)=cl d m (fun y=>Tree.cT bad (f y)) (Tree.cT bad g):=by unfold cl; cases m.isSome <;> rfl
theorem bz {kf:List bg} {gx:bk} {α:Type} (d:α) (m:Option α) (f:α->Tree (RQ kf gx)) (g:Tree (RQ kf gx)):bE (cl d m f g)=cl d m (fun y=>bE (f y)) (bE g):=by unfold cl; cases m.isSome <;> rfl
theorem bA {C:Type} {oz kf:List bg} {iC gx:bk} {join:C->(aa oz).den->(aa kf).den} {je:(id:Nat)->C->(aa (ct iC id)).den->(aa (ct gx id)).den} {jr:C->(aa iC.ret).den->(aa gx.ret).den} {jp:C->(aa iC.bP).den->(aa gx.bP).den} {c:C} {α:Type} (d:α) (m:Option α) (f:α->RQ oz iC) (g:RQ oz iC):RQ.lift join je jr jp c (cl d m f g)=cl d m (fun y=>RQ.lift join je jr jp c (f y)) (RQ.lift join je jr jp c g):=by unfold cl; cases m.isSome <;> rfl
def bp {wy:bk} {β:Type} (q:LQ wy) (id:Nat) (f:(aa (ct wy id)).den->β) (g:β):β:=bif (q.gM id) then f (q.mh id) else g
theorem af {γ:Type} {wy:bk} (q:LQ wy) (id:Nat) (f:(aa (ct wy id)).den->Tree (Option γ)) (g:Tree (Option γ)):Tree.sure (bp q id f g)=bp q id (fun y=>Tree.sure (f y)) (Tree.sure g):=by unfold bp; cases (q.gM id) <;> rfl
theorem Fk {T0:TypeId} {e0:Ty} {wy:bk} (q:LQ wy) (id:Nat) (f:(aa (ct wy id)).den->Tree (Option FR)) (g:Tree (Option FR)):Tree.cQ T0 e0 (bp q id f g)=bp q id (fun y=>Tree.cQ T0 e0 (f y)) (Tree.cQ T0 e0 g):=by unfold bp; cases (q.gM id) <;> rfl
theorem cZ {γ:Type} (bad:γ) {wy:bk} (q:LQ wy) (id:Nat) (f:(aa (ct wy id)).den->Tree γ) (g:Tree γ):Tree.cT bad (bp q id f g)=bp q id (fun y=>Tree.cT bad (f y)) (Tree.cT bad g):=by unfold bp; cases (q.gM id) <;> rfl
theorem aF {kf:List bg} {gx:bk} {wy:bk} (q:LQ wy) (id:Nat) (f:(aa (ct wy id)).den->Tree (RQ kf gx)) (g:Tree (RQ kf gx)):bE (bp q id f g)=bp q id (fun y=>bE (f y)) (bE g):=by unfold bp; cases (q.gM id) <;> rfl
theorem aG {C:Type} {oz kf:List bg} {iC gx:bk} {join:C->(aa oz).den->(aa kf).den} {je:(id:Nat)->C->(aa (ct iC id)).den->(aa (ct gx id)).den} {jr:C->(aa iC.ret).den->(aa gx.ret).den} {jp:C->(aa iC.bP).den->(aa gx.bP).den} {c:C} {wy:bk} (q:LQ wy) (id:Nat) (f:(aa (ct wy id)).den->RQ oz iC) (g:RQ oz iC):RQ.lift join je jr jp c (bp q id f g)=bp q id (fun y=>RQ.lift join je jr jp c (f y)) (RQ.lift join je jr jp c g):=by unfold bp; cases (q.gM id) <;> rfl
def bK {wy:bk} {β:Type} (q:LQ wy) (f:(aa wy.ret).den->β) (g:β):β:=bif q.jF then f q.WG else g
theorem aq {γ:Type} {wy:bk} (q:LQ wy) (f:(aa wy.ret).den->Tree (Option γ)) (g:Tree (Option γ)):Tree.sure (bK q f g)=bK q (fun y=>Tree.sure (f y)) (Tree.sure g):=by unfold bK; cases q.jF <;> rfl
theorem Ji {T0:TypeId} {e0:Ty} {wy:bk} (q:LQ wy) (f:(aa wy.ret).den->Tree (Option FR)) (g:Tree (Option FR)):Tree.cQ T0 e0 (bK q f g)=bK q (fun y=>Tree.cQ T0 e0 (f y)) (Tree.cQ T0 e0 g):=by unfold bK; cases q.jF <;> rfl
theorem dK {γ:Type} (bad:γ) {wy:bk} (q:LQ wy) (f:(aa wy.ret).den->Tree γ) (g:Tree γ):Tree.cT bad (bK q f g)=bK q (fun y=>Tree.cT bad (f y)) (Tree.cT bad g):=by unfold bK; cases q.jF <;> rfl
theorem aR {kf:List bg} {gx:bk} {wy:bk} (q:LQ wy) (f:(aa wy.ret).den->Tree (RQ kf gx)) (g:Tree (RQ kf gx)):bE (bK q f g)=bK q (fun y=>bE (f y)) (bE g):=by unfold bK; cases q.jF <;> rfl
theorem aS {C:Type} {oz kf:List bg} {iC gx:bk} {join:C->(aa oz).den->(aa kf).den} {je:(id:Nat)->C->(aa (ct iC id)).den->(aa (ct gx id)).den} {jr:C->(aa iC.ret).den->(aa gx.ret).den} {jp:C->(aa iC.bP).den->(aa gx.bP).den} {c:C} {wy:bk} (q:LQ wy) (f:(aa wy.ret).den->RQ oz iC) (g:RQ oz iC):RQ.lift join je jr jp c (bK q f g)=bK q (fun y=>RQ.lift join je jr jp c (f y)) (RQ.lift join je jr jp c g):=by unfold bK; cases q.jF <;> rfl
def gB {wy:bk} {β:Type} (q:LQ wy) (T:TypeId) (τ:Ty) (f:τ.den×(aa wy.bP).den->β) (g:β):β:=bif (q.eF T τ) then f (q.lf τ,q.Fh) else g
theorem ah {γ:Type} {wy:bk} (q:LQ wy) (T:TypeId) (τ:Ty) (f:τ.den×(aa wy.bP).den->Tree (Option γ)) (g:Tree (Option γ)):Tree.sure (gB q T τ f g)=gB q T τ (fun y=>Tree.sure (f y)) (Tree.sure g):=by unfold gB; cases (q.eF T τ) <;> rfl
theorem Fl {T0:TypeId} {e0:Ty} {wy:bk} (q:LQ wy) (T:TypeId) (τ:Ty) (f:τ.den×(aa wy.bP).den->Tree (Option FR)) (g:Tree (Option FR)):Tree.cQ T0 e0 (gB q T τ f g)=gB q T τ (fun y=>Tree.cQ T0 e0 (f y)) (Tree.cQ T0 e0 g):=by unfold gB; cases (q.eF T τ) <;> rfl
theorem de {γ:Type} (bad:γ) {wy:bk} (q:LQ wy) (T:TypeId) (τ:Ty) (f:τ.den×(aa wy.bP).den->Tree γ) (g:Tree γ):Tree.cT bad (gB q T τ f g)=gB q T τ (fun y=>Tree.cT bad (f y)) (Tree.cT bad g):=by unfold gB; cases (q.eF T τ) <;> rfl
theorem aH {kf:List bg} {gx:bk} {wy:bk} (q:LQ wy) (T:TypeId) (τ:Ty) (f:τ.den×(aa wy.bP).den->Tree (RQ kf gx)) (g:Tree (RQ kf gx)):bE (gB q T τ f g)=gB q T τ (fun y=>bE (f y)) (bE g):=by unfold gB; cases (q.eF T τ) <;> rfl
theorem aI {C:Type} {oz kf:List bg} {iC gx:bk} {join:C->(aa oz).den->(aa kf).den} {je:(id:Nat)->C->(aa (ct iC id)).den->(aa (ct gx id)).den} {jr:C->(aa iC.ret).den->(aa gx.ret).den} {jp:C->(aa iC.bP).den->(aa gx.bP).den} {c:C} {wy:bk} (q:LQ wy) (T:TypeId) (τ:Ty) (f:τ.den×(aa wy.bP).den->RQ oz iC) (g:RQ oz iC):RQ.lift join je jr jp c (gB q T τ f g)=gB q T τ (fun y=>RQ.lift join je jr jp c (f y)) (RQ.lift join je jr jp c g):=by unfold gB; cases (q.eF T τ) <;> rfl
def eo {mps:List bg} {β:Type} (o:RO mps) (f:(aa mps).den->β) (g:β):β:=bif o.rA then f o.Fi else g
theorem ai {γ:Type} {mps:List bg} (o:RO mps) (f:(aa mps).den->Tree (Option γ)) (g:Tree (Option γ)):Tree.sure (eo o f g)=eo o (fun y=>Tree.sure (f y)) (Tree.sure g):=by unfold eo; cases o.rA <;> rfl
theorem Fm {T0:TypeId} {e0:Ty} {mps:List bg} (o:RO mps) (f:(aa mps).den->Tree (Option FR)) (g:Tree (Option FR)):Tree.cQ T0 e0 (eo o f g)=eo o (fun y=>Tree.cQ T0 e0 (f y)) (Tree.cQ T0 e0 g):=by unfold eo; cases o.rA <;> rfl
theorem dg {γ:Type} (bad:γ) {mps:List bg} (o:RO mps) (f:(aa mps).den->Tree γ) (g:Tree γ):Tree.cT bad (eo o f g)=eo o (fun y=>Tree.cT bad (f y)) (Tree.cT bad g):=by unfold eo; cases o.rA <;> rfl
theorem aJ {kf:List bg} {gx:bk} {mps:List bg} (o:RO mps) (f:(aa mps).den->Tree (RQ kf gx)) (g:Tree (RQ kf gx)):bE (eo o f g)=eo o (fun y=>bE (f y)) (bE g):=by unfold eo; cases o.rA <;> rfl
theorem aK {C:Type} {oz kf:List bg} {iC gx:bk} {join:C->(aa oz).den->(aa kf).den} {je:(id:Nat)->C->(aa (ct iC id)).den->(aa (ct gx id)).den} {jr:C->(aa iC.ret).den->(aa gx.ret).den} {jp:C->(aa iC.bP).den->(aa gx.bP).den} {c:C} {mps:List bg} (o:RO mps) (f:(aa mps).den->RQ oz iC) (g:RQ oz iC):RQ.lift join je jr jp c (eo o f g)=eo o (fun y=>RQ.lift join je jr jp c (f y)) (RQ.lift join je jr jp c g):=by unfold eo; cases o.rA <;> rfl
def lp {mps:List bg} {β:Type} (o:RO mps) (id:Nat) (f:(aa mps).den->β) (g:β):β:=bif (o.yQ id) then f o.Fi else g
theorem au {γ:Type} {mps:List bg} (o:RO mps) (id:Nat) (f:(aa mps).den->Tree (Option γ)) (g:Tree (Option γ)):Tree.sure (lp o id f g)=lp o id (fun y=>Tree.sure (f y)) (Tree.sure g):=by unfold lp; cases (o.yQ id) <;> rfl
theorem Jj {T0:TypeId} {e0:Ty} {mps:List bg} (o:RO mps) (id:Nat) (f:(aa mps).den->Tree (Option FR)) (g:Tree (Option FR)):Tree.cQ T0 e0 (lp o id f g)=lp o id (fun y=>Tree.cQ T0 e0 (f y)) (Tree.cQ T0 e0 g):=by unfold lp; cases (o.yQ id) <;> rfl
theorem dL {γ:Type} (bad:γ) {mps:List bg} (o:RO mps) (id:Nat) (f:(aa mps).den->Tree γ) (g:Tree γ):Tree.cT bad (lp o id f g)=lp o id (fun y=>Tree.cT bad (f y)) (Tree.cT bad g):=by unfold lp; cases (o.yQ id) <;> rfl
theorem aT {kf:List bg} {gx:bk} {mps:List bg} (o:RO mps) (id:Nat) (f:(aa mps).den->Tree (RQ kf gx)) (g:Tree (RQ kf gx)):bE (lp o id f g)=lp o id (fun y=>bE (f y)) (bE g):=by unfold lp; cases (o.yQ id) <;> rfl
theorem aU {C:Type} {oz kf:List bg} {iC gx:bk} {join:C->(aa oz).den->(aa kf).den} {je:(id:Nat)->C->(aa (ct iC id)).den->(aa (ct gx id)).den} {jr:C->(aa iC.ret).den->(aa gx.ret).den} {jp:C->(aa iC.bP).den->(aa gx.bP).den} {c:C} {mps:List bg} (o:RO mps) (id:Nat) (f:(aa mps).den->RQ oz iC) (g:RQ oz iC):RQ.lift join je jr jp c (lp o id f g)=lp o id (fun y=>RQ.lift join je jr jp c (f y)) (RQ.lift join je jr jp c g):=by unfold lp; cases (o.yQ id) <;> rfl
def eM {mps:List bg} {β:Type} (o:RO mps) (f:(aa mps).den->β) (g:β):β:=bif o.jF then f o.Fi else g
theorem aj {γ:Type} {mps:List bg} (o:RO mps) (f:(aa mps).den->Tree (Option γ)) (g:Tree (Option γ)):Tree.sure (eM o f g)=eM o (fun y=>Tree.sure (f y)) (Tree.sure g):=by unfold eM; cases o.jF <;> rfl
theorem Fo {T0:TypeId} {e0:Ty} {mps:List bg} (o:RO mps) (f:(aa mps).den->Tree (Option FR)) (g:Tree (Option FR)):Tree.cQ T0 e0 (eM o f g)=eM o (fun y=>Tree.cQ T0 e0 (f y)) (Tree.cQ T0 e0 g):=by unfold eM; cases o.jF <;> rfl
theorem dh {γ:Type} (bad:γ) {mps:List bg} (o:RO mps) (f:(aa mps).den->Tree γ) (g:Tree γ):Tree.cT bad (eM o f g)=eM o (fun y=>Tree.cT bad (f y)) (Tree.cT bad g):=by unfold eM; cases o.jF <;> rfl
theorem aL {kf:List bg} {gx:bk} {mps:List bg} (o:RO mps) (f:(aa mps).den->Tree (RQ kf gx)) (g:Tree (RQ kf gx)):bE (eM o f g)=eM o (fun y=>bE (f y)) (bE g):=by unfold eM; cases o.jF <;> rfl
theorem aM {C:Type} {oz kf:List bg} {iC gx:bk} {join:C->(aa oz).den->(aa kf).den} {je:(id:Nat)->C->(aa (ct iC id)).den->(aa (ct gx id)).den} {jr:C->(aa iC.ret).den->(aa gx.ret).den} {jp:C->(aa iC.bP).den->(aa gx.bP).den} {c:C} {mps:List bg} (o:RO mps) (f:(aa mps).den->RQ oz iC) (g:RQ oz iC):RQ.lift join je jr jp c (eM o f g)=eM o (fun y=>RQ.lift join je jr jp c (f y)) (RQ.lift join je jr jp c g):=by unfold eM; cases o.jF <;> rfl
def lq {mps:List bg} {β:Type} (o:RO mps) (T:TypeId) (τ:Ty) (f:τ.den×(aa mps).den->β) (g:β):β:=bif (o.eF T τ) then f (o.lf τ,o.Fi) else g
theorem ax {γ:Type} {mps:List bg} (o:RO mps) (T:TypeId) (τ:Ty) (f:τ.den×(aa mps).den->Tree (Option γ)) (g:Tree (Option γ)):Tree.sure (lq o T τ f g)=lq o T τ (fun y=>Tree.sure (f y)) (Tree.sure g):=by unfold lq; cases (o.eF T τ) <;> rfl
theorem Jk {T0:TypeId} {e0:Ty} {mps:List bg} (o:RO mps) (T:TypeId) (τ:Ty) (f:τ.den×(aa mps).den->Tree (Option FR)) (g:Tree (Option FR)):Tree.cQ T0 e0 (lq o T τ f g)=lq o T τ (fun y=>Tree.cQ T0 e0 (f y)) (Tree.cQ T0 e0 g):=by unfold lq; cases (o.eF T τ) <;> rfl
theorem dM {γ:Type} (bad:γ) {mps:List bg} (o:RO mps) (T:TypeId) (τ:Ty) (f:τ.den×(aa mps).den->Tree γ) (g:Tree γ):Tree.cT bad (lq o T τ f g)=lq o T τ (fun y=>Tree.cT bad (f y)) (Tree.cT bad g):=by unfold lq; cases (o.eF T τ) <;> rfl
theorem aV {kf:List bg} {gx:bk} {mps:List bg} (o:RO mps) (T:TypeId) (τ:Ty) (f:τ.den×(aa mps).den->Tree (RQ kf gx)) (g:Tree (RQ kf gx)):bE (lq o T τ f g)=lq o T τ (fun y=>bE (f y)) (bE g):=by unfold lq; cases (o.eF T τ) <;> rfl
theorem aW {C:Type} {oz kf:List bg} {iC gx:bk} {join:C->(aa oz).den->(aa kf).den} {je:(id:Nat)->C->(aa (ct iC id)).den->(aa (ct gx id)).den} {jr:C->(aa iC.ret).den->(aa gx.ret).den} {jp:C->(aa iC.bP).den->(aa gx.bP).den} {c:C} {mps:List bg} (o:RO mps) (T:TypeId) (τ:Ty) (f:τ.den×(aa mps).den->RQ oz iC) (g:RQ oz iC):RQ.lift join je jr jp c (lq o T τ f g)=lq o T τ (fun y=>RQ.lift join je jr jp c (f y)) (RQ.lift join je jr jp c g):=by unfold lq; cases (o.eF T τ) <;> rfl
def gF {τr:Ty} {qs:List bg} {β:Type} (o:GO τr qs) (f:τr.den×(aa qs).den->β) (g:β):β:=bif o.isOk then f (o.adP,o.Jf) else g
theorem aA {γ:Type} {τr:Ty} {qs:List bg} (o:GO τr qs) (f:τr.den×(aa qs).den->Tree (Option γ)) (g:Tree (Option γ)):Tree.sure (gF o f g)=gF o (fun y=>Tree.sure (f y)) (Tree.sure g):=by unfold gF; cases o.isOk <;> rfl
theorem LR {T0:TypeId} {e0:Ty} {τr:Ty} {qs:List bg} (o:GO τr qs) (f:τr.den×(aa qs).den->Tree (Option FR)) (g:Tree (Option FR)):Tree.cQ T0 e0 (gF o f g)=gF o (fun y=>Tree.cQ T0 e0 (f y)) (Tree.cQ T0 e0 g):=by unfold gF; cases o.isOk <;> rfl
theorem ez {γ:Type} (bad:γ) {τr:Ty} {qs:List bg} (o:GO τr qs) (f:τr.den×(aa qs).den->Tree γ) (g:Tree γ):Tree.cT bad (gF o f g)=gF o (fun y=>Tree.cT bad (f y)) (Tree.cT bad g):=by unfold gF; cases o.isOk <;> rfl
theorem aZ {kf:List bg} {gx:bk} {τr:Ty} {qs:List bg} (o:GO τr qs) (f:τr.den×(aa qs).den->Tree (RQ kf gx)) (g:Tree (RQ kf gx)):bE (gF o f g)=gF o (fun y=>bE (f y)) (bE g):=by unfold gF; cases o.isOk <;> rfl
theorem bf {C:Type} {oz kf:List bg} {iC gx:bk} {join:C->(aa oz).den->(aa kf).den} {je:(id:Nat)->C->(aa (ct iC id)).den->(aa (ct gx id)).den} {jr:C->(aa iC.ret).den->(aa gx.ret).den} {jp:C->(aa iC.bP).den->(aa gx.bP).den} {c:C} {τr:Ty} {qs:List bg} (o:GO τr qs) (f:τr.den×(aa qs).den->RQ oz iC) (g:RQ oz iC):RQ.lift join je jr jp c (gF o f g)=gF o (fun y=>RQ.lift join je jr jp c (f y)) (RQ.lift join je jr jp c g):=by unfold gF; cases o.isOk <;> rfl
def gj {τr:Ty} {qs:List bg} {β:Type} (o:GO τr qs) (T:TypeId) (τ:Ty) (f:τ.den×(aa qs).den->β) (g:β):β:=bif (o.eF T τ) then f (o.lf τ,o.Jf) else g
theorem ak {γ:Type} {τr:Ty} {qs:List bg} (o:GO τr qs) (T:TypeId) (τ:Ty) (f:τ.den×(aa qs).den->Tree (Option γ)) (g:Tree (Option γ)):Tree.sure (gj o T τ f g)=gj o T τ (fun y=>Tree.sure (f y)) (Tree.sure g):=by unfold gj; cases (o.eF T τ) <;> rfl
theorem Fp {T0:TypeId} {e0:Ty} {τr:Ty} {qs:List bg} (o:GO τr qs) (T:TypeId) (τ:Ty) (f:τ.den×(aa qs).den->Tree (Option FR)) (g:Tree (Option FR)):Tree.cQ T0 e0 (gj o T τ f g)=gj o T τ (fun y=>Tree.cQ T0 e0 (f y)) (Tree.cQ T0 e0 g):=by unfold gj; cases (o.eF T τ) <;> rfl
theorem dm {γ:Type} (bad:γ) {τr:Ty} {qs:List bg} (o:GO τr qs) (T:TypeId) (τ:Ty) (f:τ.den×(aa qs).den->Tree γ) (g:Tree γ):Tree.cT bad (gj o T τ f g)=gj o T τ (fun y=>Tree.cT bad (f y)) (Tree.cT bad g):=by unfold gj; cases (o.eF T τ) <;> rfl
theorem aN {kf:List bg} {gx:bk} {τr:Ty} {qs:List bg} (o:GO τr qs) (T:TypeId) (τ:Ty) (f:τ.den×(aa qs).den->Tree (RQ kf gx)) (g:Tree (RQ kf gx)):bE (gj o T τ f g)=gj o T τ (fun y=>bE (f y)) (bE g):=by unfold gj; cases (o.eF T τ) <;> rfl
theorem aO {C:Type} {oz kf:List bg} {iC gx:bk} {join:C->(aa oz).den->(aa kf).den} {je:(id:Nat)->C->(aa (ct iC id)).den->(aa (ct gx id)).den} {jr:C->(aa iC.ret).den->(aa gx.ret).den} {jp:C->(aa iC.bP).den->(aa gx.bP).den} {c:C} {τr:Ty} {qs:List bg} (o:GO τr qs) (T:TypeId) (τ:Ty) (f:τ.den×(aa qs).den->RQ oz iC) (g:RQ oz iC):RQ.lift join je jr jp c (gj o T τ f g)=gj o T τ (fun y=>RQ.lift join je jr jp c (f y)) (RQ.lift join je jr jp c g):=by unfold gj; cases (o.eF T τ) <;> rfl
@[simp] theorem bU {α β:Type} (d r:α) (f:α->β) (g:β):cl d (some r) f g=f r:=rfl
@[simp] theorem Jl {wy:bk} {β:Type} (id:Nat) (y:(aa (ct wy id)).den) (f:(aa (ct wy id)).den->β) (g:β):bp (LQ.exit id y) id f g=f y:=by
 unfold bp
 rw [LQ.ov,LQ.yP,Nat.beq_refl]
 rfl
theorem Fq {wy:bk} {β:Type} {id id':Nat} (h:Nat.beq id id'=false) (y:(aa (ct wy id)).den) (f:(aa (ct wy id')).den->β) (g:β):bp (LQ.exit id y) id' f g=g:=by
 unfold bp
 rw [LQ.yP,h]
 rfl
@[simp] theorem adS {τr:Ty} {qs:List bg} {β:Type} (r:τr.den) (y:(aa qs).den) (f:τr.den×(aa qs).den->β) (g:β):gF (GO.ok r y) f g=f (r,y):=rfl
end Go.Dm
namespace Go.Dm
open Go.RowKit
variable {P:Program} {N:Nat} {G:Gh} {w w':World} {s:St} {a:Act} {E:cg} {Γ:Ctx} {Fw:Fence} {r:Nat} {lo:Nat} {bw:List fu} {fid:FuncId}
theorem Tree.gJ.imp {α:Type} {p q:α->Prop}:∀ {t:Tree α},t.gJ p->(∀ a,p a->q a)->t.gJ q
 | .leaf _,h,hi=>hi _ h
 | .br b l r,h,hi=>by
  cases b with
  | true=>have:=Tree.gJ.imp (t:=l) (by simpa [Tree.gJ] using h) hi; simpa [Tree.gJ] using this
  | false=>have:=Tree.gJ.imp (t:=r) (by simpa [Tree.gJ] using h) hi; simpa [Tree.gJ] using this
 | .any _ _,h,hi=>⟨Tree.gJ.imp h.1 hi,Tree.gJ.imp h.2 hi⟩
section
variable {ps:List bg} {wy:bk} {step:(aa ps).den->RQ ps wy}
def YOk {e:Ty} (ex:Nat) (Ic:(aa ps).den->Sl e.den) (Ie:(aa (ct wy ex)).den->Sl e.den) (rq:List bg) (sy:(aa rq).den) (q:RQ ps wy) (r:Tb ps):Prop:=match q with
 | .next x'=>r = .next x'\/∃ o,r = .out o/\(LO.le o (.iP e (Ic x') rq sy)\/LO.le o (.bD e (Ic x')))
 | .out q=>q.gM ex=true/\∃ o,r = .out o/\(o = .exit ex (ct wy ex) (q.mh ex)\/LO.le o (.iP e (Ie (q.mh ex)) rq sy)\/LO.le o (.bD e (Ie (q.mh ex))))
 | .bad=>False
end
inductive YR (ps qs rq:List bg) (e:Ty) where
 | next (x:(aa ps).den)
 | exit (y:(aa qs).den)
 | stop (z:Sl e.den) (y:(aa rq).den)
 | bD (z:Sl e.den)
 | bad
def YR.res {ps qs rq:List bg} {e:Ty} (id:Nat):YR ps qs rq e->Tb ps
 | .next x=>.next x
 | .exit y=>.out (.exit id qs y)
 | .stop z y=>.out (.iP e z rq y)
 | .bD z=>.out (.bD e z)
 | .bad=>.out .bad
def GY.opt {e τr:Ty} {qs:List bg}:GY e τr qs->Option (Ty.den (.cons (.sl e) (aa qs)))
 | .ok _ z y=>some (z,y)
 | _=>none
def yT {e:Ty} {qs:List bg} (o:Option (Ty.den (.cons (.sl e) (aa qs)))):Tree (GY e (.cons .bool .nil) qs):=
  .br o.isSome (.any (.leaf (.ok (true,()) (o.getD (Ty.dflt (.cons (.sl e) (aa qs)))).1 (o.getD (Ty.dflt (.cons (.sl e) (aa qs)))).2))
    (.any (.leaf (.stop (false,()) (o.getD (Ty.dflt (.cons (.sl e) (aa qs)))).1)) (.leaf (.bD (o.getD (Ty.dflt (.cons (.sl e) (aa qs)))).1)))) (.leaf .bad)
section
variable {ps:List bg} {wy:bk} {e:Ty} {ex:Nat} {Ic:(aa ps).den->Sl e.den} {Ie:(aa (ct wy ex)).den->Sl e.den} {rq:List bg} {sy:(aa rq).den} {b:Sl e.den}
def YGb (ex:Nat) (Ic:(aa ps).den->Sl e.den) (Ie:(aa (ct wy ex)).den->Sl e.den) (b:Sl e.den) (q:RQ ps wy):Prop:=match q with
 | .next x'=>b.list <+: (Ic x').list
 | .out q=>q.gM ex=true->b.list <+: (Ie (q.mh ex)).list
 | .bad=>True
def KR (Ic:(aa ps).den->Sl e.den) (Ie:(aa (ct wy ex)).den->Sl e.den) (rq:List bg) (sy:(aa rq).den) (b:Sl e.den) (a:RQ ps wy) (t:Tree (Tb ps)):Prop:=
 (a ≠ .bad->t.gJ (YOk ex Ic Ie rq sy a))/\YGb ex Ic Ie b a
theorem KR.bad {t:Tree (Tb ps)}:KR Ic Ie rq sy b .bad t:=⟨fun h=>absurd rfl h,trivial⟩
theorem KR.next {x:(aa ps).den} (h:b.list <+: (Ic x).list):KR Ic Ie rq sy b (.next x) (.leaf (.next x)):=⟨fun _=>.inl rfl,h⟩
theorem KR.exit {y:(aa (ct wy ex)).den} (h:b.list <+: (Ie y).list):KR Ic Ie rq sy b (.out (.exit ex y)) (.leaf (.out (.exit ex (ct wy ex) y))):=
 ⟨fun _=>⟨Nat.beq_refl ex,_,rfl,.inl (by rw [LQ.ov])⟩,fun _=>by rw [LQ.ov]; exact h⟩
theorem KR.any {a:RQ ps wy} {t:Tree (Tb ps)} {z:Sl e.den} (hrq:lZ rq=false) (hz:b.list <+: z.list) (h:KR Ic Ie rq sy z a t):KR Ic Ie rq sy b a (.any t (.any (.leaf (.out (.iP e z rq sy))) (.leaf (.out (.bD e z))))):=by
 obtain ⟨h1,h2⟩:=h
 refine ⟨fun hne=>⟨h1 hne,?_,?_⟩,?_⟩
 ·show YOk ex Ic Ie rq sy a (.out (.iP e z rq sy))
  have:=h1 hne
  cases a with
  | next x'=>exact .inr ⟨_,rfl,.inl (.iP hrq h2)⟩
  | out q =>
   have hq:q.gM ex=true:=by
    have:∀ {t:Tree (Tb ps)},t.gJ (YOk ex Ic Ie rq sy (.out q))->q.gM ex=true:=by
     intro t
     induction t with
     | leaf r=>exact fun h=>h.1
     | br b l r i1 i2=>intro h; cases b with
      | true=>exact i1 (by simpa [Tree.gJ] using h)
      | false=>exact i2 (by simpa [Tree.gJ] using h)
     | any l r i1 i2=>exact fun h=>i1 h.1
    exact this (h1 hne)
   exact ⟨hq,_,rfl,.inr (.inl (.iP hrq (h2 hq)))⟩
  | bad=>exact absurd rfl hne
 ·show YOk ex Ic Ie rq sy a (.out (.bD e z))
  cases a with
  | next x'=>exact .inr ⟨_,rfl,.inr (.bD h2)⟩
  | out q =>
   have hq:q.gM ex=true:=by
    have:∀ {t:Tree (Tb ps)},t.gJ (YOk ex Ic Ie rq sy (.out q))->q.gM ex=true:=by
     intro t
     induction t with
     | leaf r=>exact fun h=>h.1
     | br b l r i1 i2=>intro h; cases b with
      | true=>exact i1 (by simpa [Tree.gJ] using h)
      | false=>exact i2 (by simpa [Tree.gJ] using h)
     | any l r i1 i2=>exact fun h=>i1 h.1
    exact this (h1 hne)
   exact ⟨hq,_,rfl,.inr (.inr (.bD (h2 hq)))⟩
  | bad=>exact absurd rfl hne
 ·cases a with
  | next x'=>exact hz.trans h2
  | out q=>exact fun hq=>hz.trans (h2 hq)
  | bad=>trivial
end
section
variable {e:Ty} {qs:List bg} {b:Sl e.den}
def KG (b:Sl e.den) (a:Option (Ty.den (.cons (.sl e) (aa qs)))) (t:Tree (GY e (.cons .bool .nil) qs)):Prop:=∀ z y,a=some (z,y)->b.list <+: (show Sl e.den from z).list/\t.gJ (adI (yT a))
theorem KG.bad {t:Tree (GY e (.cons .bool .nil) qs)}:KG b none t:=fun _ _ h=>by cases h
theorem adT {z:Sl e.den} {y:(aa qs).den}:adI (yT (some (z,y))) (.ok (true,()) z y):=⟨.ok (true,()) z y,.inl rfl,.refl (by simp)⟩
theorem Tm {z z':Sl e.den} {y:(aa qs).den} (h:z'.list <+: z.list):adI (qs:=qs) (yT (some (z,y))) (.stop (false,()) z'):=⟨.stop (false,()) z,.inr (.inl rfl),.stop h⟩
theorem Fs {z z':Sl e.den} {y:(aa qs).den} (h:z'.list <+: z.list):adI (qs:=qs) (yT (some (z,y))) (.bD z'):=⟨.bD z,.inr (.inr rfl),.bD h⟩
theorem KG.ok {c:Bool} {z:Sl e.den} {y:(aa qs).den} (h:b.list <+: z.list):KG b (GY.opt (bif c then .ok (true,()) z y else (.bad:GY e (.cons .bool .nil) qs))) (.leaf (bif c then .ok (true,()) z y else .bad)):=by
 cases c with
 | false=>exact KG.bad
 | true =>
  intro z' y' hh
  have hh:some (z,y)=some (z',y'):=hh
  cases hh
  exact ⟨h,adT⟩
theorem KG.any {a:Option (Ty.den (.cons (.sl e) (aa qs)))} {t:Tree (GY e (.cons .bool .nil) qs)} {z:Sl e.den} (hz:b.list <+: z.list) (h:KG z a t):KG b a (.any t (.any (.leaf (.stop (false,()) z)) (.leaf (.bD z)))):=by
 intro z' y' hh
 obtain ⟨h1,h2⟩:=h z' y' hh
 refine ⟨hz.trans h1,h2,?_,?_⟩
 ·rw [hh]; exact Tm h1
 ·rw [hh]; exact Fs h1
end
section
variable {e:Ty}
def Tf.opt (e:Ty):Tf->Option (Sl e.den)
 | .full ⟨e',true,z⟩=>cH (σ:=.sl e') (.sl e) z
 | _=>none
def KI (a:Option (Sl e.den)) (t:Tree Tf):Prop:=∀ z,a=some z->t.gJ (Tf.Ok e z)
theorem KI.bad {t:Tree Tf}:KI (none:Option (Sl e.den)) t:=fun _ h=>by cases h
theorem KI.any {z:Sl e.den}:KI (Tf.opt e (.full ⟨e,true,z⟩)) (.any (.leaf (.full ⟨e,true,z⟩)) (.any (.leaf (.stop ⟨e,false,z⟩)) (.leaf (.bD ⟨e,false,z⟩)))):=by
 intro z' h
 have h:cH (σ:=.sl e) (.sl e) z=some z':=h
 rw [jG] at h
 cases h
 exact ⟨⟨z,rfl,rfl⟩,⟨z,rfl,List.prefix_refl _⟩,⟨z,rfl,List.prefix_refl _⟩⟩
end
end Go.Dm
namespace Go.Dm
open Go.RowKit
variable {P:Program} {N N':Nat} {G:Gh} {S S':CS} {w w':World} {s s':St} {a a2:Act} {ρ ρ':fA} {F F':Nat->Prop} {E:cg} {Γ:Ctx} {Fw:Fence} {r:Nat} {lo:Nat} {bw:List fu} {fid:FuncId}
theorem dz.marks {n0:Nat} {heap heap':Nat->bu}:∀ {ds:List fu} {dd:List Deferred},fS ds=true->dz n0 w heap ρ F ds dd->dz n0 w heap' ρ F ds dd
 | [],[],_,_=>trivial
 | .mark :: r,d :: ds,hm,⟨h1,h2⟩=>⟨h1,dz.marks (ds:=r) hm h2⟩
 | .iM _ _ :: _,_,hm,_=>by cases hm
 | .marks :: r,dd,hm,⟨ms,ds,e,h1,h2⟩=>⟨ms,ds,e,h1,dz.marks (ds:=r) hm h2⟩
 | [],_ :: _,_,h=>h.elim
 | .mark :: _,[],_,h=>h.elim
end Go.Dm
namespace Go.Dm
open Go.RowKit
variable {P:Program} {N N':Nat} {G:Gh} {S S' S2:CS} {w w' w2:World} {s s' s2:St} {a a2:Act} {ρ ρ' ρ2:fA} {F F' F2:Nat->Prop} {heap heap' H' H2:Nat->bu} {Y:Value} {E:cg} {Γ:Ctx} {Fw:Fence} {r:Nat} {ops:Array Oper} {lo lo' base:Nat} {bw:List fu} {vr DU:Nat->Nat} {n:Nat} {fid:FuncId} {e:Ty}
def iD:List bg->Bool
 | []=>true
 | .slot _ c :: ps=>yK [c] && iD ps
 | .agg _ _ :: ps=>iD ps
 | .cells _ _ :: ps=>iD ps
 | .mp _ _ _ :: ps=>iD ps
 | _=>false
theorem ny:∀ {ps:List bg} {y:(aa (aD ps)).den},iD ps=true->bC vr (aD ps) y=bC DU (aD ps) y
 | [],_,_=>rfl
 | .slot _ c :: ps,y,h=>by
  simp only [iD,Bool.and_eq_true] at h
  exact ny (ps:=ps) (y:=y) h.2
 | .agg _ _ :: ps,y,h=>ny (ps:=ps) (y:=y) h
 | .cells _ _ :: ps,y,h=>ny (ps:=ps) (y:=y) h
 | .mp id k v :: ps,y,h=>congrArg (List.cons _) (ny (ps:=ps) (y:=y.2) h)
 | .box _ _ :: _,_,h=>by cases h
 | .row _ _ _ :: _,_,h=>by cases h
 | .rows _ _ _ :: _,_,h=>by cases h
 | .tr _ :: _,_,h=>by cases h
section
variable {h0 h1:Nat->bu} (hle:∀ i,h0 i ≠ .none->h1 i=h0 i)
include hle
theorem WM {ids:List Nat} (h:(ids.all fun i=>IS (h0 i))=true):(ids.all fun i=>IS (h1 i))=true:=by
 rw [List.all_eq_true] at h ⊢
 intro i hi
 have hb:=h i hi
 rw [hle i (fun q=>by rw [q] at hb; cases hb)]
 exact hb
theorem WN {c:eT} (hc:yK [c]=true) {d:DC} {x:c.ty.den} (h:lQ lo h0 c d=some x):lQ lo h1 c d=some x:=by
 cases c with
 | own id T e=>cases hc
 | rw id T e=>cases hc
 | pc τ=>simp only [lQ] at h ⊢; exact h
 | ptr id =>
  cases d with
  | ptr id' off =>
   simp only [lQ] at h ⊢
   split at h
   ·rename_i hb
    simp only [Bool.and_eq_true] at hb
    rw [hle id' (fun q=>by rw [q] at hb; cases hb.2),hb.1.1,hb.1.2,hb.2]
    exact h
   ·cases h
  | _=>cases h
 | row id =>
  cases d with
  | row id' bG =>
   simp only [lQ] at h ⊢
   split at h
   ·rename_i hb
    simp only [Bool.and_eq_true] at hb
    rw [hle id' (fun q=>by rw [q] at hb; cases hb.2),hb.1,hb.2]
    exact h
   ·cases h
  | _=>cases h
 | mp id =>
  cases d with
  | mp id' =>
   simp only [lQ] at h ⊢
   split at h
   ·rename_i hb
    simp only [Bool.and_eq_true] at hb
    rw [hle id' (fun q=>by rw [q] at hb; cases hb.2),hb.1,hb.2]
    exact h
   ·cases h
  | _=>cases h
 | rows id =>
  cases d with
  | rows id' =>
   simp only [lQ] at h ⊢
   split at h
   ·rename_i hb
    simp only [Bool.and_eq_true] at hb
    rw [hle id' (fun q=>by rw [q] at hb; cases hb.2),hb.1,hb.2]
    exact h
   ·cases h
  | _=>cases h
 | iM f ids =>
  cases d with
  | iM f' ids' =>
   simp only [lQ] at h ⊢
   split at h
   ·rename_i hb
    simp only [Bool.and_eq_true] at hb
    rw [hb.1.1,hb.1.2,WM hle hb.2]
    exact h
   ·cases h
  | _=>cases h
 | lR f τ ids =>
  cases d with
  | lR f' τ' y ids' =>
   simp only [lQ] at h ⊢
   split at h
   ·rename_i hb
    simp only [Bool.and_eq_true] at hb
    rw [hb.1.1,hb.1.2,WM hle hb.2]
    exact h
   ·cases h
  | _=>cases h
 | jI=>cases d <;> first | exact h | cases h
 | top=>cases d <;> first | exact h | cases h
 | k n =>
  cases d with
  | pc τ y =>
   cases τ with
   | int kk=>cases kk <;> exact h
   | _=>exact h
  | _=>cases h
theorem PR:∀ {cs:List eT},yK cs=true->∀ {ds:List DC} {x:(bM cs).den},sW lo h0 cs ds=some x->sW lo h1 cs ds=some x
 | [],_,ds,x,h=>by cases ds <;> exact h
 | c :: cs,hc,ds,x,h=>by
  obtain ⟨d,ds',rfl,q1,q2⟩:=nr h
  simp only [yK,List.all_cons,Bool.and_eq_true] at hc
  have e1:=WN hle (lo:=lo) (c:=c) (by simp only [yK,List.all_cons,List.all_nil,Bool.and_true]; exact hc.1) q1
  have e2:=PR (cs:=cs) hc.2 q2
  simp only [sW,e1,e2]
theorem Jm {env:Nat->Slot} {t t':Tr} {b b':Nat} {df df':List fu}:∀ {ps:List bg},iD ps=true->∀ {x:(aa ps).den},rd lo ⟨env,h0,t,b,df⟩ ps=some x->rd lo ⟨env,h1,t',b',df'⟩ ps=some x
 | [],_,_,h=>h
 | p :: ps,hm,x,h=>by
  obtain ⟨q1,q2⟩:=sD h
  cases p with
  | slot u c =>
   simp only [iD,Bool.and_eq_true] at hm
   have e2:rd lo ⟨env,h1,t',b',df'⟩ ps=some x.2:=Jm (ps:=ps) hm.2 q2
   have e1:uq lo ⟨env,h1,t',b',df'⟩ (.slot u c)=some x.1:=by
    simp only [uq] at q1 ⊢
    split at q1
    ·exact WN hle hm.1 q1
    ·cases q1
   simp only [rd,e1,e2]
  | agg u τ =>
   have e2:rd lo ⟨env,h1,t',b',df'⟩ ps=some x.2:=Jm (ps:=ps) hm q2
   have e1:uq lo ⟨env,h1,t',b',df'⟩ (.agg u τ)=some x.1:=q1
   simp only [rd,e1,e2]
  | cells u cs =>
   have e2:rd lo ⟨env,h1,t',b',df'⟩ ps=some x.2:=Jm (ps:=ps) hm q2
   have e1:uq lo ⟨env,h1,t',b',df'⟩ (.cells u cs)=some x.1:=by
    simp only [uq] at q1 ⊢
    split at q1
    ·rename_i hno
     exact PR hle hno q1
    ·cases q1
   simp only [rd,e1,e2]
  | mp id k v =>
   have e2:rd lo ⟨env,h1,t',b',df'⟩ ps=some x.2:=Jm (ps:=ps) hm q2
   have e1:uq lo ⟨env,h1,t',b',df'⟩ (.mp id k v)=some x.1:=by
    have q0:=Wj q1
    have q0:h0 id = .mp k v x.1:=q0
    simp only [uq,hle id (by rw [q0]; simp),q0]
    exact jG _
   simp only [rd,e1,e2]
  | _=>cases hm
end
theorem Eb {heap:Nat->bu}:∀ (ids:List Nat) (i:Nat),bR (ids.zip (ids.map heap)) i ≠ .none->heap i=bR (ids.zip (ids.map heap)) i
 | [],i,h=>absurd rfl h
 | j :: ids,i,h=>by
  simp only [List.map_cons,List.zip_cons_cons,bR] at h ⊢
  by_cases hi:i=j
  ·subst hi; simp
  ·rw [bF hi,cond_false] at h ⊢
   exact Eb ids i h
def BO (n:Nat) (τr:Ty) (ps:List bg) (U:(aa ps).den->GO τr (aD ps)) (args:List Slot) (os:List bu) (bJ:Nat):Br:=
 match Nat.ble args.length n,rd bJ ⟨fun t=>args.getD t .top,bR ((cz ps).zip os.tail),.none,0,[]⟩ ps with
 | true,some x=>.br (U x).isOk (er (jk τr (U x).adP) (bC (fun _=>0) (aD ps) (U x).Jf) []) bad
 | _,_=>bad
theorem vZ {f:FuncId} {τr:Ty} {ps:List bg} {U:(aa ps).den->GO τr (aD ps)} (hm:iD ps=true) (h:dP P f (fT n τr ps [] U)):(Ent.loc (fun _=>cz ps) (BO n τr ps U)).Ok P f:=by
 intro N G s a w ρ S F hG hs args us bJ hlen hargs hlo hall _
 have hup:=fun i=>Eb (heap:=s.heap) (cz ps) i
 unfold Vv BO at hall ⊢
 simp only [List.map_cons,List.tail_cons] at hall ⊢
 cases h1:Nat.ble args.length n with
 | false=>rw [h1] at hall; exact (hall .bad rfl rfl).elim
 | true =>
  rw [h1] at hall
  cases h2:rd bJ ⟨fun t=>args.getD t .top,bR ((cz ps).zip ((cz ps).map s.heap)),.none,0,[]⟩ ps with
  | none=>rw [h2] at hall; exact (hall .bad rfl rfl).elim
  | some x =>
   rw [h2] at hall
   simp only [Br.fix,Br.tree,er,bad] at hall ⊢
   cases hU:(U x).isOk with
   | false=>rw [hU] at hall; exact (hall .bad rfl rfl).elim
   | true =>
    have hx:rd bJ ⟨fun t=>args.getD t .top,s.heap,s.tr,0,[]⟩ ps=some x:=Jm hup hm h2
    have oc:fT n τr ps [] U args s.heap s.tr bJ = .br true (.leaf (GO.or s.heap (.ok (U x).adP (U x).Jf))) (.leaf .bad):=by
     unfold fT Wu
     rw [h1,hx]
     simp only [ox,Tree.map,hU]
     rfl
    have hc:=h N G s a w ρ S F hG hs args us bJ hlen hargs hlo (fun r hr=>by rw [oc] at hr; rw [show r=_ from hr]; simp [GO.or]) (fun q hq=>by rw [oc] at hq; cases (show OR.bP .jI q=_ from hq))
    refine hc.mono fun en w' hr=>?_
    obtain ⟨r,hr,hpost⟩:=hr
    rw [oc] at hr
    obtain rfl:r=_:=hr
    refine ⟨_,rfl,?_⟩
    have ho:=ny (vr:=cx s.heap) (DU:=fun _=>0) (y:=(U x).Jf) hm
    simp only [GO.or] at hpost
    rw [ho] at hpost
    exact hpost
structure MO where
 k:Ty
 v:Ty
 m:k.den->Option v.den
def adV (heap:Nat->bu) (ds:List DC) (j:Nat):Option MO:=match ds[j]? with
 | some (.mp id)=>match heap id with
  | .mp k v m=>some ⟨k,v,m⟩
  | _=>none
 | _=>none
def adW (P:Program) (t:Nat) (T:TypeId) (rs:List ResultVar) (e τ2:Ty) (j:Nat):Out->Tree (Option (e.den×τ2.den×Option MO))
 | .ret s | .norm s=>match fS s.bw,s.env t with
  | true,.v (.ptr id 0)=>match s.heap id with
   | .box ds=>match cy P T,cv P T with
    | some n,some true=>match decide (ds.length=n),eV e ds,iA P rs τ2 s with
     | true,some x,some y=>.leaf (some (x,y,adV s.heap ds j))
     | _,_,_=>.leaf none
    | _,_=>.leaf none
   | _=>.leaf none
  | _,_=>.leaf none
 | _=>.leaf none
def runM (P:Program) (E:cg) (Γ:Ctx) (fn:Func) (ls:List Loop) (t:Nat) (T:TypeId) (rs:List ResultVar) (e τ2:Ty) (j:Nat) (τa:Ty) (x:τa.den):Tree (Option (e.den×τ2.den×Option MO)):=
 match fn.body with
 | some c=>fQ P E Γ 0 fn.ntmps .any c ls (xK τa x) (adW P t T rs e τ2 j)
 | none=>.leaf none
def we (τ2:Ty) (ds:List DC) (y:τ2.den):Slot:=match τ2,y with
 | .nil,_=>.agg ds
 | .cons h t,y=>.pr ds (.cons h t) y
 | _,_=>.top
def Ft (n κ j : Nat) (k v τa e τ2 : Ty) (pre : τa.den → Bool) (fn : τa.den → e.den × τ2.den) (cond : e.den × τ2.den → Bool) (args : List Slot) (os : List bu) (bJ : Nat) : Br :=
  match Nat.ble args.length n && Nat.ble bJ κ, ef τa args, os with
  | true, some x, [_, .none] => .br (pre x) (.br (cond (fn x))
      (er (we τ2 ((ee e (fn x).1).set j (.mp κ)) (fn x).2) [(κ, .mp k v fun _ => none)] [])
      (er (we τ2 (ee e (fn x).1) (fn x).2) [] [])) bad
  | _, _, _ => bad
theorem BP {τ2:Ty} {y:τ2.den} {ds:List DC} {us vs:List Value} (h1:RL (RC P Y S w heap ρ) ds us) (h2:R P τ2 S w y vs):RS P Y S w heap ρ (we τ2 ds y) (pack (.agg us.toArray :: vs)):=by
 cases τ2 with
 | nil=>rw [show vs=[] from h2]; exact ⟨us,rfl,h1⟩
 | cons h t =>
  have hh:=h2
  obtain ⟨u,ws,rfl,_,_⟩:=h2
  exact ⟨us,_,rfl,h1,hh⟩
 | _=>exact True.intro
theorem LS {fn:Func} {tmps:Array Value} {us:List Value} (h:(fn.results.toList.mapM (m:=Sem) (BA tmps)).run P w = .ok us w):(results fn tmps).run P w = .ok (pack us) w:=by
 have al4:results fn tmps=(do let vs <- fn.results.mapM (BA tmps); pure (if h:vs.size=1 then vs[0] else .tuple vs)):=by
  unfold results
  congr 2
 rw [al4,Array.mapM_eq_mapM_toList,Sem.run_bind,Sem.run_map,h]
 simp only [Result.andThen_ok,Sem.run_pure]
 cases us with
 | nil=>rfl
 | cons u us=>cases us <;> rfl
theorem WO (hm:P.follows .mixedOrders=true) (hΓ:Sound P Γ) (hE:fB P E.eq) (hK:dN P E.key) {f:FuncId} {fn:Func} {c:Code} (hf:P.funcs[f]? = some fn) (hb:fn.body=some c) {ls:List Loop}
  {t:Nat} {T:TypeId} {rs:List ResultVar} (hres:fn.results.toList = .cell t T :: rs) {τa e τ2 k v:Ty} {j κ:Nat} (hfl:e.flat=true)
  (hl:∀ G':Gh,G'.lo=0->G'.iL->G'.Ok P->ff P fn.ntmps G' f Fence.wide 0 c ls) {pre:τa.den->Bool} {fv:τa.den->e.den×τ2.den} {cond:e.den×τ2.den->Bool}
  (hrun:∀ x,pre x=true->(runM P E Γ fn ls t T rs e τ2 j τa x).gJ (· = some ((fv x).1,(fv x).2,bif cond (fv x) then some (⟨k,v,fun _=>none⟩:MO) else none))) :
  (Ent.loc (fun _=>[κ]) (Ft fn.ntmps κ j k v τa e τ2 pre fv cond)).Ok P f:=by
 intro N G s a w ρ S F hG h args us bJ hlen hargs hlo hall _
 unfold Vv Ft at hall ⊢
 simp only [List.map_cons,List.map_nil] at hall ⊢
 split at hall
 case h_2=>exact (hall .bad rfl rfl).elim
 rename_i x o1 hn hx hos
 simp only [Bool.and_eq_true] at hn
 obtain ⟨hn,hκ⟩:=hn
 have hκ:=Nat.le_of_ble_eq_true hκ
 have hno:s.heap κ = .none:=by
  injection hos with _ q
  injection q with q _
 cases hpre:pre x with
 | false=>simp only [hpre,Br.fix,Br.tree,bad] at hall; exact (hall .bad rfl rfl).elim
 | true =>
 have hR:=fO hlen hargs hx
 have sB:us.length<=fn.ntmps:=by rw [<- hlen]; exact Nat.le_of_ble_eq_true hn
 have h0:=Jc (N:=fn.ntmps) (l:=G.l) h.bd hR sB
 have BE:(Gh.inner (fun _=>False) S w G.l 0 fun _=>none).Ok P:=ri fun _ _ q=>by cases q
 have rj:Env P E Γ (Gh.inner (fun _=>False) S w G.l 0 fun _=>none) Fence.wide:=⟨hm,hΓ,hE,hK,BE,.wide,fun _=>rfl⟩
 have hx:=hrun x hpre
 generalize hfx:fv x=z at hx ⊢
 unfold runM at hx
 rw [hb] at hx
 refine (callsIn_wide (n:=0)).1 (fe hf hb trivial ?_)
 refine cN (cF (G:=Gh.inner (fun _=>False) S w G.l 0 fun _=>none) (K:=adW P t T rs e τ2 j) (ch:=Tree.any) (T:=fun tt:Tree (Option (e.den×τ2.den×Option MO))=>tt.gJ (fun q=>q=some (z.1,z.2,bif cond z then some (⟨k,v,fun _=>none⟩:MO) else none))) rj (fun a b q=>q) ⟨(fun q=>by cases (show none=some _ from q)),(fun s' q=>by cases (show none=some _ from q))⟩ hx (hl _ rfl cL BE) ⟨_,_,_,h0⟩) ?_
 rintro en a' w' ⟨o,ho,hT⟩
 have fin:∀ s',SX P fn.ntmps (Gh.inner (fun _=>False) S w G.l 0 fun _=>none) s' a' w'->(adW P t T rs e τ2 j (.ret s')).gJ (· = some (z.1,z.2,bif cond z then some (⟨k,v,fun _=>none⟩:MO) else none)) ->
   LeavesInM Fence.wide 0 P fn a'.tmps (fun en w'=>∃ r,(Br.tree (Br.fix [bJ,κ] (.br true (.br (cond z) (er (we τ2 ((ee e z.1).set j (.mp κ)) z.2) [(κ,.mp k v fun _=>none)] []) (er (we τ2 (ee e z.1) z.2) [] [])) bad))).Has r/\vB P N G s a r en w') a'.defers .returning w':=by
  rintro s' ⟨ρ',S',F',hs⟩ hT
  simp only [adW] at hT
  split at hT
  case h_2=>cases (show none=some _ from hT)
  rename_i id hmk EN
  split at hT
  case h_2=>cases (show none=some _ from hT)
  rename_i ds Jh
  split at hT
  case h_2=>cases (show none=some _ from hT)
  rename_i sz hsz hag
  split at hT
  case h_2=>cases (show none=some _ from hT)
  rename_i xv yv hds cP hyv
  have hT:some (xv,yv,adV s'.heap ds j)=some (z.1,z.2,bif cond z then some (⟨k,v,fun _=>none⟩:MO) else none):=hT
  have hT:=Option.some.inj hT
  have e1:xv=z.1:=congrArg (fun q=>q.1) hT
  have e2:yv=z.2:=congrArg (fun q=>q.2.1) hT
  have e3:adV s'.heap ds j=bif cond z then some (⟨k,v,fun _=>none⟩:MO) else none:=congrArg (fun q=>q.2.2) hT
  subst e1 e2
  have hds:=of_decide_eq_true hds
  refine eE BE (by simp) _ rfl hmk hs fun w'' q1 _=>?_
  have EN:({ s' with bw:=[] }:St).env t = .v (.ptr id 0):=EN
  have Jh:({ s' with bw:=[] }:St).heap id = .box ds:=Jh
  have hp:=q1.env t
  rw [EN] at hp
  obtain ⟨b,arr,T',xh,hv,hh,hr⟩:=vI q1 Jh hp
  have hal:arr.toList.length=sz:=by rw [<- hr.1]; exact hds
  have Wp:(Instr.loadAt T (.pointer (some ⟨b,0,none⟩))).run P w'' = .ok (.agg arr.toList.toArray) w'':=AY hag hsz (fun j v hj=>by rw [Nat.zero_add]; exact qI hh j v hj) hal
  have hld:(loadVar T ⟨b,0,none⟩).run P w'' = .ok (.agg arr.toList.toArray) w'':=by simpa [Instr.loadAt,Instr.sureAddr] using Wp
  obtain ⟨vs,r1,r2⟩:=zR q1 (rs:=rs) (τ:=τ2) (y:=z.2) ((nv ..).trans hyv)
  have aiQ:(results fn a'.tmps).run P w'' = .ok (pack (.agg arr.toList.toArray :: vs)) w'':=by
   refine LS ?_
   rw [hres]
   have hg:(BA a'.tmps (.cell t T)).run P w'' = .ok (.agg arr.toList.toArray) w'':=by
    have hv:a'.tmps.getD t undef = .pointer (some ⟨b,0,none⟩):=hv
    simp only [BA,Sem.run_bind,hv,asAddr,Sem.run_pure,Result.andThen_ok,hld]
   have r1:(rs.mapM (m:=Sem) (BA a'.tmps)).run P w'' = .ok vs w'':=r1
   simp only [List.mapM_cons,Sem.run_bind,hg,Result.andThen_ok,r1,Sem.run_pure]
  have hRe:=fN hr cP
  cases hcd:cond z with
  | false =>
   have Vl:SR P fn.ntmps (Gh.inner (fun _=>False) S w G.l 0 fun _=>none) ⟨fun _=>.top,fun _=>.none,.none,0,[]⟩ { a' with defers:=[] } w'' (fun _=>none) S' (fun _=>False):=
    ⟨q1.size,trivial,fun _=>trivial,fun _=>trivial,fun i j b' hi=>hi.elim,q1.ext,q1.new,q1.same,cL _ _ _,fun _ q=>q.elim,fun _ _ q=>q,fun _ q=>q,fun _ _ _ _=>trivial,fun _ _ q=>by cases q⟩
   have iO:=h.back hG (D:=fun _=>false) Vl (fun b hb=>hb.elim) (fun id hn=>absurd rfl hn) (fun id hid=>by cases hid) (fun id b hid _=>by cases hid)
   exact ⟨_,aiQ,_,rfl,_,_,_,_,rfl,iO.of_eq rfl rfl rfl rfl,BP (eH hfl hRe) r2⟩
  | true =>
   rw [hcd,cond_true] at e3
   unfold adV at e3
   split at e3
   case h_2=>cases e3
   rename_i tS hdj
   split at e3
   case h_2=>cases e3
   rename_i k' v' m' Bm
   have e3:=Option.some.inj e3
   cases e3
   have hob:=q1.obj tS
   rw [show ({ s' with bw:=[] }:St).heap tS=_ from Bm] at hob
   obtain ⟨b2,es,ck,p1,p2,p3,p4,p5,p6⟩:=hob
   have hjl:j < arr.toList.length:=by rw [<- hr.1]; exact (List.getElem?_eq_some_iff.1 hdj).1
   have hrj:=hr.2 j _ _ hdj (List.getElem?_eq_getElem hjl)
   obtain ⟨_,_,VU⟩:=hrj
   obtain ⟨b3,hb3,hval⟩:=VU _ _ _ Bm
   rw [p1] at hb3
   cases hb3
   have Vl:SR P fn.ntmps (Gh.inner (fun _=>False) S w G.l 0 fun _=>none) ⟨fun _=>.top,fun i=>bif Nat.beq i κ then .mp k v (fun _=>none) else .none,.none,0,[]⟩ { a' with defers:=[] } w''
     (fun i=>bif Nat.beq i κ then some b2 else none) S' (fun _=>False):=by
    refine ⟨q1.size,trivial,fun _=>trivial,fun i=>?_,fun i j b' hi hj=>?_,q1.ext,q1.new,q1.same,cL _ _ _,fun _ q=>q.elim,fun _ _ q=>q,fun _ q=>q,fun _ _ _ _=>trivial,fun _ _ q=>by cases q⟩
    ·by_cases hi:i=κ
     ·subst hi
      simp only [Nat.beq_refl,cond_true]
      exact ⟨b2,es,ck,by simp,⟨p2.1,fun q=>q⟩,p3,p4,p5,p6⟩
     ·simp only [bF hi,cond_false]; trivial
    ·by_cases hi':i=κ
     ·by_cases hj':j=κ
      ·rw [hi',hj']
      ·have hj:=hj.lv; simp only [bF hj',cond_false] at hj; exact hj.elim
     ·have hi:=hi.lv; simp only [bF hi',cond_false] at hi; exact hi.elim
   have iO:=h.back hG (D:=fun i=>Nat.beq i κ) Vl (fun b hb=>hb.elim) (fun id hn=>by
     cases hb:Nat.beq id κ with
     | true=>rfl
     | false=>simp only [hb,cond_false] at hn; exact absurd rfl hn)
    (fun id hid=>by rw [Nat.eq_of_beq_eq_true hid,hno]; trivial) (fun id b hid hb=>by have:=hG.ic id b hb; have:=Nat.eq_of_beq_eq_true hid; omega)
   have hh2:cE s.heap [(κ,.mp k v fun _=>none)] κ = .mp k v fun _=>none:=by simp [cE,aE]
   refine ⟨_,aiQ,_,rfl,_,_,_,_,rfl,iO.of_eq rfl ?_ rfl rfl,BP (us:=arr.toList) ?_ r2⟩
   ·funext i
    show cE s.heap [(κ,.mp k v fun _=>none)] i=eI (fun i=>Nat.beq i κ) (fun i=>bif Nat.beq i κ then .mp k v (fun _=>none) else .none) s.heap i
    by_cases hi:i=κ
    ·subst hi; simp [cE,aE,eI]
    ·simp [cE,aE,eI,bF hi]
   ·have hRL:=eH (P:=P) (Y:=G.Y) (S:=S') (w:=w'') (heap:=cE s.heap [(κ,.mp k v fun _=>none)]) (ρ:=dU (fun i=>Nat.beq i κ) (fun i=>bif Nat.beq i κ then some b2 else none) ρ) hfl hRe
    refine ⟨by rw [List.length_set]; exact hRL.1,fun i d u h1 h2=>?_⟩
    rw [List.getElem?_set] at h1
    split at h1
    ·rename_i hij
     subst hij
     split at h1
     case isFalse=>cases h1
     cases h1
     rw [List.getElem?_eq_getElem hjl] at h2
     cases h2
     rw [hval]
     exact ⟨by rw [hh2]; simp,⟨_,rfl⟩,fun _ _ _ _=>⟨b2,by simp [dU],rfl⟩⟩
    ·exact hRL.2 i d u h1 h2
 cases o with
 | norm s=>cases en <;> first | exact ho.elim | exact fin s ho hT
 | ret s=>cases en <;> first | exact ho.elim | exact fin s ho hT
 | exit id s=>cases (show none=some _ from hT)
 | bP d s=>cases (show none=some _ from hT)
 | bad=>cases (show none=some _ from hT)
def mkS (s:St):St:=match s.bw with
 | []=>{ s with bw:=[.marks] }
 | _=>s
def Jn (s:St):St:=match s.bw with
 | .mark :: .marks :: r=>{ s with bw:=.marks :: r }
 | _=>s
def Jo:Out->Out
 | .norm s=>.norm (Jn s)
 | .exit id s=>.exit id (Jn s)
 | .ret s=>.ret (Jn s)
 | o=>o
theorem awa (h:SX P N G s a w):SX P N G (mkS s) a w:=by
 unfold mkS
 split
 ·rename_i hd
  obtain ⟨ρ,S,F,h⟩:=h
  refine ⟨ρ,S,F,h.size,?_,h.env,h.obj,h.inj,h.ext,h.new,h.same,h.tr,h.fb,h.f0,h.sub,h.fs,h.pins⟩
  have q:=h.bw
  rw [hd] at q
  exact ⟨[],a.defers,rfl,trivial,q⟩
 ·exact h
theorem Fu (h:SX P N G s a w):SX P N G (Jn s) a w:=by
 unfold Jn
 split
 ·rename_i r hd
  obtain ⟨ρ,S,F,h⟩:=h
  refine ⟨ρ,S,F,h.size,?_,h.env,h.obj,h.inj,h.ext,h.new,h.same,h.tr,h.fb,h.f0,h.sub,h.fs,h.pins⟩
  have q:=h.bw
  rw [hd] at q
  cases ng:a.defers with
  | nil=>rw [ng] at q; exact q.elim
  | cons d ds =>
   rw [ng] at q
   obtain ⟨⟨D,h1,h2,h3,h4,h5⟩,ms,ds2,e,h6,h7⟩:=q
   subst e
   exact ⟨d :: ms,ds2,rfl,⟨⟨D,h1,h2,h3,h4,h5⟩,h6⟩,h7⟩
 ·exact h
theorem adX {c:Code} {f:St->Tree Out} (hf:dF P N G fid Fw r c f):dF P N G fid Fw r c (fun s=>f (mkS s)):=fun s a w hs bT=>hf (mkS s) a w (awa hs) bT
theorem Tn {c:Code} {f:St->Tree Out} (hf:dF P N G fid Fw r c f):dF P N G fid Fw r c (fun s=>(f s).map Jo):=by
 intro s a w hs bT
 refine cN (hf s a w hs fun o ho=>?_) ?_
 ·have:=bT _ (Tree.dA (f:=Jo) ho)
  cases o <;> first | exact this | trivial
 ·rintro e a' w' ⟨o,ho,hok⟩
  refine ⟨_,Tree.dA (f:=Jo) ho,?_⟩
  cases o with
  | norm s=>cases e <;> first | exact hok.elim | exact Fu hok
  | exit id s=>cases e <;> first | exact hok.elim | exact ⟨hok.1,Fu hok.2⟩
  | ret s=>cases e <;> first | exact hok.elim | exact Fu hok
  | _=>exact hok
end Go.Dm
namespace Go.Dm
open Go.RowKit
section
variable {P:Program} {E:cg} {Γ:Ctx} {N:Nat} {wy:bk} {b:Code} {ls:List Loop} {qs:List bg} {e:Ty} {go ok:(aa qs).den->Bool} {it:(aa qs).den->Option e.den} {nx:(aa qs).den->(aa qs).den} {m:(aa qs).den->Nat} {PS:Nat}
def gN (tr:Sl e.den) (v:e.den):Sl e.den:=cj tr ⟨1,fun _=>v⟩
def oA (it:(aa qs).den->Option e.den) (x:(aa qs).den) (tr:Sl e.den):Sl e.den:=match it x with
 | some v=>gN tr v
 | none=>tr
def nA (it:(aa qs).den->Option e.den) (nx:(aa qs).den->(aa qs).den):Nat->(aa qs).den->Sl e.den->Sl e.den
 | 0,_,tr=>tr
 | k + 1,x,tr=>nA it nx k (nx x) (oA it x tr)
def adY (PS:Nat) (e:Ty) (T:Sl e.den):Tree LO:=.any (.leaf (.exit PS [.tr e] (T,()))) (.any (.leaf (.stop e T)) (.leaf (.bD e T)))
def To (ok:(aa qs).den->Bool) (it:(aa qs).den->Option e.den) (nx:(aa qs).den->(aa qs).den) (m:(aa qs).den->Nat) (PS:Nat):(aa (.tr e :: qs)).den->Tree LO:=fun y =>
 .br (ok y.2) (adY PS e (nA it nx (m y.2) y.2 y.1)) (.leaf .bad)
def itM (m:(aa qs).den->Nat):(aa (.tr e :: qs)).den->Nat:=fun y=>m y.2
theorem LU (x:(aa qs).den) (tr:Sl e.den):tr.list <+: (oA it x tr).list:=by
 unfold oA
 split
 ·show _ <+: (cj tr ⟨1,fun _=>_⟩).list
  rw [fy]; exact List.prefix_append _ _
 ·exact List.prefix_refl _
theorem Ec:∀ (k:Nat) (x:(aa qs).den) (tr:Sl e.den),tr.list <+: (nA it nx k x tr).list
 | 0,_,_=>List.prefix_refl _
 | k + 1,x,tr=>(LU x tr).trans (Ec k (nx x) _)
structure ItR (T:Sl e.den->(aa qs).den->Tree (Tb (.tr e :: qs))) (go ok:(aa qs).den->Bool) (it:(aa qs).den->Option e.den) (nx:(aa qs).den->(aa qs).den) (m:(aa qs).den->Nat) (PS:Nat):Prop where
 inv:∀ x,ok x=true->go x=true->ok (nx x)=true/\m x=m (nx x) + 1
 hit:∀ tr x v,ok x=true->go x=true->it x=some v->T tr x = .any (.leaf (.next (gN tr v,nx x))) (.any (.leaf (.out (.stop e (gN tr v)))) (.leaf (.out (.bD e (gN tr v)))))
 amh:∀ tr x,ok x=true->go x=true->it x=none->T tr x = .leaf (.next (tr,nx x))
 fin:∀ tr x,ok x=true->go x=false->m x=0/\T tr x = .leaf (.out (.exit PS [.tr e] (tr,())))
theorem Jp {T:Sl e.den->(aa qs).den->Tree (Tb (.tr e :: qs))} (h:ItR T go ok it nx m PS) (y:(aa (.tr e :: qs)).den) (hf:zx (To ok it nx m PS y)):(T y.1 y.2).gJ (kW (itM m) (To ok it nx m PS) y):=by
 obtain ⟨tr,x⟩:=y
 have hok:ok x=true:=by
  cases hb:ok x with
  | true=>rfl
  | false=>exact absurd rfl (hf .bad (by unfold To; simp only [hb]; rfl))
 have hne:∀ T:Sl e.den,∀ o,(adY PS e T).Has o->o ≠ .bad:=fun T o ho=>by
  rcases ho with q | q | q <;> (rw [show o=_ from q]; simp)
 have e0:∀ o,xJ (adY PS e (nA it nx (m x) x tr)) o->xJ (To ok it nx m PS (tr,x)) o:=fun o ⟨o',h1,h2⟩=>⟨o',by unfold To; simp only [hok]; exact h1,h2⟩
 show (T tr x).gJ _
 cases hg:go x with
 | false =>
  obtain ⟨hm,hT⟩:=h.fin tr x hok hg
  rw [hT]
  refine e0 _ ⟨_,.inl rfl,?_⟩
  rw [hm]
  exact .refl (by simp)
 | true =>
  obtain ⟨LV,hm⟩:=h.inv x hok hg
  have next:∀ CZ,oA it x tr=CZ->kW (itM m) (To ok it nx m PS) (tr,x) (.next (CZ,nx x)):=fun CZ PC=>by
   refine ⟨by show m (nx x) < m x; omega,fun o ho=>?_⟩
   have ho:(adY PS e (nA it nx (m (nx x)) (nx x) CZ)).Has o:=by
    unfold To at ho
    simp only [LV] at ho
    exact ho
   have ea:nA it nx (m x) x tr=nA it nx (m (nx x)) (nx x) CZ:=by rw [hm,<- PC]; rfl
   exact e0 o ⟨o,by rw [ea]; exact ho,.refl (hne _ o ho)⟩
  cases hi:it x with
  | none =>
   rw [h.amh tr x hok hg hi]
   exact next tr (by unfold oA; rw [hi])
  | some v =>
   rw [h.hit tr x v hok hg hi]
   have hs:oA it x tr=gN tr v:=by unfold oA; rw [hi]
   have hp:(gN tr v).list <+: (nA it nx (m x) x tr).list:=by
    rw [hm,<- hs]; exact Ec _ _ _
   exact ⟨next _ hs,e0 _ ⟨_,.inr (.inl rfl),.stop hp⟩,e0 _ ⟨_,.inr (.inr rfl),.bD hp⟩⟩
end
end Go.Dm

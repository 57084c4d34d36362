/-
 The framework: an interpreter over typed data,and why what it says of a call is true.
-/
import Derived.Test.YtgkaoimndglnoaaGreatFwC
set_option linter.unusedVariables false
set_option linter.unusedSimpArgs false
namespace Go.Dm
open Go.RowKit
variable {P:Program} {N:Nat} {G:Gh} {S S':CS} {w w':World} {s:St} {a:Act} {ρ ρ':fA} {F F':Nat->Prop} {heap heap' H':Nat->bu} {Y:Value} {E:cg} {Γ:Ctx} {Fw:Fence} {r:Nat} {ops:Array Oper} {lo base:Nat} {bw:List fu} {fid:FuncId}
inductive LO where
 | exit (id:Nat) (qs:List bg) (y:(aa qs).den)
 | ret (qs:List bg) (y:(aa qs).den)
 | stop (e:Ty) (x:Sl e.den)
 | iP (e:Ty) (x:Sl e.den) (qs:List bg) (y:(aa qs).den)
 | bP (T:TypeId) (τ:Ty) (x:τ.den) (qs:List bg) (y:(aa qs).den)
 | bD (e:Ty) (x:Sl e.den)
 | bad
def LO.out (lo:Nat) (bw:List fu):LO->Out
 | .exit id qs y=>.exit id (wr lo .none bw qs y)
 | .ret qs y=>.ret (wr lo .none bw qs y)
 | .stop e x=>.ret (wr lo ⟨e,false,x⟩ bw [] ())
 | .iP e x qs y=>.ret (wr lo ⟨e,false,x⟩ bw qs y)
 | .bP T τ x qs y=>.bP (.zg T τ x) (wr lo .none bw qs y)
 | .bD e x=>.bP .jI (wr lo ⟨e,false,x⟩ bw [] ())
 | .bad=>.bad
inductive LO.le:LO->LO->Prop
 | refl {o:LO} (h:o ≠ .bad):LO.le o o
 | stop {e:Ty} {x y:Sl e.den} (h:x.list <+: y.list):LO.le (.stop e x) (.stop e y)
 | iP {e:Ty} {x y:Sl e.den} {qs:List bg} {z:(aa qs).den} (hn:lZ qs=false) (h:x.list <+: y.list):LO.le (.iP e x qs z) (.iP e y qs z)
 | bD {e:Ty} {x y:Sl e.den} (h:x.list <+: y.list):LO.le (.bD e x) (.bD e y)
theorem LO.le_trans {a b c:LO} (h:LO.le a b) (h':LO.le b c):LO.le a c:=by
 cases h with
 | refl _=>exact h'
 | stop h1=>cases h' with
  | refl _=>exact .stop h1
  | stop h2=>exact .stop (h1.trans h2)
 | iP hn h1=>cases h' with
  | refl _=>exact .iP hn h1
  | iP _ h2=>exact .iP hn (h1.trans h2)
 | bD h1=>cases h' with
  | refl _=>exact .bD h1
  | bD h2=>exact .bD (h1.trans h2)
theorem LO.avO {o o':LO} {e:Exit} (h:LO.le o o') (ho:nj P N G (o.out lo bw) e a w):nj P N G (o'.out lo bw) e a w:=by
 cases h with
 | refl _=>exact ho
 | stop h =>
  rename_i e0 x y
  cases e <;> try exact ho.elim
  obtain ⟨ρ,S,F,q⟩:=ho
  refine ⟨ρ,S,F,q.size,q.bw,q.env,q.obj,q.inj,q.ext,q.new,q.same,?_,q.fb,q.f0,q.sub,q.fs,q.pins⟩
  obtain ⟨lv,z,hz,hJ⟩:=q.tr
  have hz:(⟨e0,false,x⟩:Tr)=⟨G.e,lv,z⟩:=hz
  cases hz
  obtain ⟨l',h1,h2⟩:=hJ
  exact ⟨false,y,rfl,l',h1.trans h,h2⟩
 | iP hn h =>
  rename_i e0 x y qs zz
  cases e <;> try exact ho.elim
  obtain ⟨ρ,S,F,q⟩:=ho
  refine ⟨ρ,S,F,q.size,q.bw,q.env,q.obj,q.inj,q.ext,q.new,q.same,?_,q.fb,q.f0,q.sub,q.fs,q.pins⟩
  obtain ⟨lv,z,hz,hJ⟩:=q.tr
  have hz:xG (⟨e0,false,x⟩:Tr) qs zz=⟨G.e,lv,z⟩:=hz
  rw [fR hn] at hz
  cases hz
  obtain ⟨l',h1,h2⟩:=hJ
  exact ⟨false,y,fR hn,l',h1.trans h,h2⟩
 | bD h =>
  rename_i e0 x y
  cases e <;> try exact ho.elim
  obtain ⟨F,S,z,l',hz,h1,h2,h3⟩:=ho
  have hz:(⟨e0,false,x⟩:Tr)=⟨G.e,false,z⟩:=hz
  cases hz
  exact ⟨F,S,y,l',rfl,h1.trans h,h2,h3⟩
def xJ (t:Tree LO) (o:LO):Prop:=∃ o',t.Has o'/\LO.le o o'
def zx (t:Tree LO):Prop:=∀ o,t.Has o->o ≠ .bad
theorem xJ.ne {t:Tree LO} {o:LO} (h:xJ t o):o ≠ .bad:=by
 obtain ⟨o',_,h⟩:=h
 cases h with
 | refl h=>exact h
 | stop _=>simp
 | iP _ _=>simp
 | bD _=>simp
theorem xJ.trans {t t':Tree LO} {o:LO} (h:xJ t o) (h':∀ o,t.Has o->xJ t' o):xJ t' o:=by
 obtain ⟨o',h1,h2⟩:=h
 obtain ⟨o'',h3,h4⟩:=h' o' h1
 exact ⟨o'',h3,LO.le_trans h2 h4⟩
inductive Tb (ps:List bg) where
 | next (x:(aa ps).den)
 | out (o:LO)
 | bad
def fu.beq:fu->fu->Bool
 | .mark,.mark=>true
 | .marks,.marks=>true
 | .iM f ids,.iM f' ids'=>Nat.beq f f' && uo ids ids'
 | _,_=>false
def kV:List fu->List fu->Bool
 | [],[]=>true
 | a :: as,b :: bs=>a.beq b && kV as bs
 | _,_=>false
theorem cY:∀ {a b:List fu},kV a b=true->a=b
 | [],[],_=>rfl
 | x :: xs,y :: ys,h=>by
  simp only [kV,Bool.and_eq_true] at h
  rw [cY h.2]
  congr 1
  cases x with
  | mark=>cases y with
   | mark=>rfl
   | _=>cases h.1
  | marks=>cases y with
   | marks=>rfl
   | _=>cases h.1
  | iM f ids=>cases y with
   | mark=>cases h.1
   | marks=>cases h.1
   | iM f' ids' =>
    have:=h.1
    simp only [fu.beq,Bool.and_eq_true] at this
    rw [Nat.eq_of_beq_eq_true this.1,gQ this.2]
 | [],_ :: _,h=>by cases h
 | _ :: _,[],h=>by cases h
structure bk where
 dY:List (Nat×List bg)
 ret:List bg
 bP:List bg
def om:List (Nat×List bg)->Nat->Option (List bg)
 | [],_=>none
 | (i,p) :: l,j=>bif Nat.beq j i then some p else om l j
def al1:List bg->List bg
 | []=>[]
 | .tr _ :: ps=>al1 ps
 | p :: ps=>p :: al1 ps
def tj (tr:Bool) (lo:Nat) (bw:List fu) (wy:bk):Out->LO
 | .exit id s=>match kV s.bw bw,om wy.dY id with
  | true,some qs=>match rd lo s qs with
   | some y=>.exit id qs y
   | none=>.bad
  | _,_=>.bad
 | .ret s=>match kV s.bw bw with
  | true=>match !tr || s.tr.live with
   | true=>match rd lo s wy.ret with
    | some y=>.ret wy.ret y
    | none=>.bad
   | false=>match al1 wy.ret with
    | []=>match qo [] bw with
     | true=>.stop s.tr.e s.tr.s
     | false=>.bad
    | q :: qs=>match kU (q :: qs) && qo (fh (q :: qs)) bw && !lZ (q :: qs),rd lo s (q :: qs) with
     | true,some y=>.iP s.tr.e s.tr.s (q :: qs) y
     | _,_=>.bad
  | false=>.bad
 | .bP (.zg T τ x) s=>match kV s.bw bw with
  | true=>match rd lo s wy.bP with
   | some y=>.bP T τ x wy.bP y
   | none=>.bad
  | false=>.bad
 | .bP .jI s=>match kV s.bw bw with
  | true=>.bD s.tr.e s.tr.s
  | false=>.bad
 | _=>.bad
def Bz (tr:Bool) (lo:Nat) (bw:List fu) (ps:List bg) (wy:bk):Out->Tb ps
 | .norm s=>match kV s.bw bw with
  | true=>match rd lo s ps with
   | some x=>.next x
   | none=>.bad
  | false=>.bad
 | o=>.out (tj tr lo bw wy o)
def Vp (bw:List fu) (tr:Bool) (qs:List bg):Bool:=kU qs && qo (fh qs) bw && (!tr || lZ qs)
def bk.wf (bw:List fu) (tr:Bool) (wy:bk):Bool:=(wy.dY.all fun p=>Vp bw tr p.2) && Vp bw tr wy.ret && Vp bw tr wy.bP
theorem qY:∀ {l:List (Nat×List bg)} {i:Nat} {p:List bg},om l i=some p->(i,p)∈l
 | (j,q) :: l,i,p,h=>by
  simp only [om] at h
  by_cases e:i=j
  ·subst e; simp at h; subst h; exact .head _
  ·rw [bF e,cond_false] at h; exact .tail _ (qY h)
theorem qZ (hG:G.Ok P) (h:SX P N G s a w) {tr:Bool} (ht:tr=true\/G.iL) {qs:List bg} {y:(aa qs).den} (hw:Vp bw tr qs=true) (hd:s.bw=bw) (hy:rd G.lo s qs=some y):SX P N G (wr G.lo .none bw qs y) a w:=by
 simp only [Vp,Bool.and_eq_true,Bool.or_eq_true,Bool.not_eq_true'] at hw
 obtain ⟨⟨h1,h2⟩,h3⟩:=hw
 subst hd
 refine avN hG h h1 h2 ?_ hy
 rcases ht with rfl | ht
 ·exact .inl (h3.resolve_left (by simp))
 ·exact .inr ht
theorem Wn (hG:G.Ok P) {tr:Bool} (ht:tr=true\/G.iL) {wy:bk} (hwf:wy.wf bw tr=true) {o:Out} {e:Exit} (h:nj P N G o e a w) (hb:tj tr G.lo bw wy o ≠ .bad) :
  nj P N G ((tj tr G.lo bw wy o).out G.lo bw) e a w:=by
 simp only [bk.wf,Bool.and_eq_true] at hwf
 obtain ⟨⟨w1,w2⟩,w3⟩:=hwf
 cases o with
 | norm s=>exact absurd rfl hb
 | bad=>exact absurd rfl hb
 | exit id s =>
  cases e <;> try exact h.elim
  obtain ⟨rfl,h⟩:=h
  simp only [tj] at hb ⊢
  split at hb
  case h_2=>exact absurd rfl hb
  rename_i qs hd hq
  split at hb
  case h_2=>exact absurd rfl hb
  rename_i y hy
  try simp only [hd,hq,hy]
  have:=List.all_eq_true.1 w1 _ (qY hq)
  exact ⟨rfl,qZ hG h ht this (cY hd) hy⟩
 | ret s =>
  cases e <;> try exact h.elim
  simp only [tj] at hb ⊢
  split at hb
  case h_2=>exact absurd rfl hb
  rename_i hd
  try simp only [hd]
  split at hb
  ·rename_i hl
   try simp only [hl]
   split at hb
   case h_2=>exact absurd rfl hb
   rename_i y hy
   try simp only [hy]
   exact qZ hG h ht w2 (cY hd) hy
  ·rename_i hl
   try simp only [hl]
   obtain ⟨ρ,S,F,h⟩:=h
   have hd:=cY hd
   subst hd
   have PC:=h.tr
   have hst:(⟨s.tr.e,false,s.tr.s⟩:Tr)=s.tr:=by
    cases ht:s.tr with
    | mk e lv x=>rw [ht] at hl; simp only [Bool.or_eq_false_iff] at hl; obtain ⟨_,rfl⟩:=hl; rfl
   split at hb
   ·rename_i hnt
    try simp only [hnt]
    split at hb
    case h_2=>exact absurd rfl hb
    rename_i KT
    try simp only [KT]
    refine ⟨_,S,F,qX hG h (ps:=[]) (x:=()) (t:=⟨s.tr.e,false,s.tr.s⟩) rfl KT (.inr ?_) rfl⟩
    rw [hst]; exact PC
   ·rename_i q0 qs0 hnt
    try simp only [hnt]
    split at hb
    case h_2=>exact absurd rfl hb
    rename_i y KT hy
    try simp only [KT,hy]
    simp only [Bool.and_eq_true] at KT
    exact ⟨_,S,F,qX hG h (ps:=q0 :: qs0) (x:=y) (t:=⟨s.tr.e,false,s.tr.s⟩) KT.1.1 KT.1.2 (.inr (by rw [hst]; exact PC)) hy⟩
 | bP d s =>
  cases e <;> try exact h.elim
  cases d with
  | zg T τ x =>
   simp only [tj] at hb ⊢
   split at hb
   case h_2=>exact absurd rfl hb
   rename_i hd
   try simp only [hd]
   split at hb
   case h_2=>exact absurd rfl hb
   rename_i y hy
   try simp only [hy]
   obtain ⟨u,ρ,S,F,h1,h2,h3⟩:=h
   simp only [Vp,Bool.and_eq_true,Bool.or_eq_true,Bool.not_eq_true'] at w3
   obtain ⟨⟨q1,q2⟩,q3⟩:=w3
   have hd:=cY hd
   subst hd
   refine ⟨u,_,S,F,h1,qX hG h2 q1 q2 ?_ hy,h3⟩
   rcases ht with rfl | ht
   ·exact .inl (q3.resolve_left (by simp))
   ·exact .inr (ht F S w)
  | jI =>
   simp only [tj] at hb ⊢
   split at hb
   case h_2=>exact absurd rfl hb
   rename_i hd
   have hd:=cY hd
   obtain ⟨F,S,x,l',h1,h2,h3,h4,h5⟩:=h
   refine ⟨F,S,x,l',?_,h2,h3,h4,fun q=>h5 (hd.trans q)⟩
   show (⟨s.tr.e,false,s.tr.s⟩:Tr)=_
   rw [h1]
  | _=>exact absurd rfl hb
def kW {ps:List bg} (μ:(aa ps).den->Nat) (f:(aa ps).den->Tree LO) (x:(aa ps).den):Tb ps->Prop
 | .next x'=>μ x' < μ x/\∀ o,(f x').Has o->xJ (f x) o
 | .out o=>xJ (f x) o
 | .bad=>False
def mc (lo:Nat) (bw:List fu) (ps:List bg) (f:(aa ps).den->Tree LO) (s:St):Tree Out:=
 match kV s.bw bw with
 | true=>match rd lo s ps with
  | some x=>(f x).map (LO.out lo bw)
  | none=>.leaf .bad
 | false=>.leaf .bad
def iz (tr:Bool) (P:Program) (E:cg) (Γ:Ctx) (lo N:Nat) (bw:List fu) (ps:List bg) (wy:bk) (body:Code) (ls:List Loop) (x:(aa ps).den):Tree (Tb ps):=
 fQ P E Γ lo N .any body ls (wr lo .none bw ps x) fun o=>.leaf (Bz tr lo bw ps wy o)
theorem Tree.dA {α β:Type} {f:α->β} {a:α}:∀ {t:Tree α},t.Has a->(t.map f).Has (f a)
 | .leaf b,h=>by rw [show a=b from h]; rfl
 | .br b l r0,h=>by
  cases b with
  | true=>have:=Tree.dA (f:=f) (t:=l) (a:=a) (by simpa [Tree.Has] using h); simpa [Tree.map,Tree.Has] using this
  | false=>have:=Tree.dA (f:=f) (t:=r0) (a:=a) (by simpa [Tree.Has] using h); simpa [Tree.map,Tree.Has] using this
 | .any l r0,h=>h.elim (fun h=>.inl (Tree.dA h)) (fun h=>.inr (Tree.dA h))
theorem LO.LA {e:Ty} {x:Sl e.den} {o:LO} (h:LO.le (.bD e x) o):∃ y,o = .bD e y/\x.list <+: y.list:=by
 cases h with
 | refl _=>exact ⟨x,rfl,List.prefix_refl _⟩
 | bD h=>exact ⟨_,rfl,h⟩
theorem al2 {e1:Ty} {x1 y:Sl e1.den} {e2:Ty} {z:Sl e2.den} {items:List e2.den} (hp:x1.list <+: y.list) (h3:(⟨e1,false,x1⟩:Tr)=⟨e2,false,z⟩) (hy:∀ z':Sl e2.den,(⟨e1,false,y⟩:Tr)=⟨e2,false,z'⟩->z'.list <+: items):z.list <+: items:=by
 cases h3
 exact hp.trans (hy y rfl)
theorem vR (hE:Env P E Γ G Fw) {tr:Bool} (ht:tr=true\/G.iL) {ps:List bg} {wy:bk} {body:Code} {ls:List Loop} (hls:ff P N G fid Fw r body ls)
  (hps:Vp bw tr ps=true) (hwy:wy.wf bw tr=true) (f:(aa ps).den->Tree LO) (μ:(aa ps).den->Nat)
  (al3:∀ x,zx (f x)->(iz tr P E Γ G.lo N bw ps wy body ls x).gJ (kW μ f x)):dF P N G fid Fw r (.loop body) (mc G.lo bw ps f):=by
 intro s a w h bT
 unfold mc at bT ⊢
 split at bT
 case h_2=>exact (bT .bad rfl).elim
 rename_i hd
 try simp only [hd]
 split at bT
 case h_2=>exact (bT .bad rfl).elim
 rename_i x hx
 try simp only [hx]
 have hfx:zx (f x):=fun o ho e=>by subst e; exact (bT _ (Tree.dA (f:=LO.out G.lo bw) ho)).elim
 have h0:=qZ hE.gh h ht hps (cY hd) hx
 have hyl:∀ e z,(f x).Has (.bD e z)->∀ z':Sl G.e.den,(⟨e,false,z⟩:Tr)=⟨G.e,false,z'⟩->z'.list <+: G.items:=fun e z ho=>bT _ (Tree.dA (f:=LO.out G.lo bw) ho)
 -- in terms of f alone
 suffices key:∀ (n:Nat) (x:(aa ps).den) (a:Act) (w:World),μ x=n->zx (f x)->(∀ e z,(f x).Has (.bD e z)->∀ z':Sl G.e.den,(⟨e,false,z⟩:Tr)=⟨G.e,false,z'⟩->z'.list <+: G.items)->SX P N G (wr G.lo .none bw ps x) a w ->
   yJ fid Fw r P (.loop body) (fun e a' w'=>∃ o,(f x).Has o/\nj P N G (o.out G.lo bw) e a' w') a w from
  cN (key _ x a w rfl hfx hyl h0) fun e a' w' ⟨o,h1,h2⟩=>⟨_,Tree.dA h1,h2⟩
 intro n x0 a w hn Wo hyl hs0
 have hyg:∀ (x:(aa ps).den),(∀ o,(f x).Has o->xJ (f x0) o)->∀ s',Tree.gJ (kW μ f x) (.leaf (Bz tr G.lo bw ps wy (.bP .jI s')))->YG G s':=fun x hc s' q z hz=>by
  have q:xJ (f x) (tj tr G.lo bw wy (.bP .jI s')):=q
  simp only [tj] at q
  split at q
  case h_2=>exact (q.ne rfl).elim
  obtain ⟨o',h1,h2⟩:=q.trans hc
  have h3:(⟨s'.tr.e,false,s'.tr.s⟩:Tr)=⟨G.e,false,z⟩:=by rw [hz]
  obtain ⟨y,rfl,hp⟩:=LO.LA h2
  exact al2 hp h3 (hyl _ _ h1)
 have key:∀ (m:Nat) (x:(aa ps).den) (a:Act) (w:World),μ x < m->(∀ o,(f x).Has o->xJ (f x0) o)->SX P N G (wr G.lo .none bw ps x) a w ->
   jZ fid Fw r P body (fun e a' w'=>∃ o,xJ (f x0) o/\nj P N G (o.out G.lo bw) e a' w') m a w:=by
  intro m
  induction m with
  | zero=>intro x a w hm; omega
  | succ m ih =>
   intro x a w hm hc hs
   unfold jZ
   have hT:=al3 x fun o ho=>(hc o ho).ne
   refine cN (cF (T:=fun t:Tree (Tb ps)=>t.gJ (kW μ f x)) (ch:=Tree.any) (K:=fun o=>.leaf (Bz tr G.lo bw ps wy o)) hE (fun a b q=>q) ⟨fun q=>xJ.ne (o:=.bad) q rfl,hyg x hc⟩ hT hls hs) ?_
   rintro e a' w' ⟨o,ho,jA⟩
   have out:∀ l,Bz tr G.lo bw ps wy o = .out l->e ≠ .normal->l=tj tr G.lo bw wy o->∃ o,xJ (f x0) o/\nj P N G (o.out G.lo bw) e a' w':=fun l hl _ e=>by
    have jA:kW μ f x (Bz tr G.lo bw ps wy o):=jA
    rw [hl] at jA
    have avP:xJ (f x) l:=jA
    subst e
    exact ⟨_,avP.trans hc,Wn hE.gh ht hwy ho avP.ne⟩
   cases o with
   | norm s' =>
    cases e <;> try exact ho.elim
    have jA:kW μ f x (Bz tr G.lo bw ps wy (.norm s')):=jA
    simp only [Bz] at jA
    split at jA
    case h_2=>exact jA.elim
    rename_i hd
    split at jA
    case h_2=>exact jA.elim
    rename_i x' hx'
    obtain ⟨h1,h2⟩:=jA
    exact ih x' a' w' (by omega) (fun o ho=>(h2 o ho).trans hc) (qZ hE.gh ho ht hps (cY hd) hx')
   | exit id s'=>cases e <;> first | exact ho.elim | exact out _ rfl (by simp) rfl
   | ret s'=>cases e <;> first | exact ho.elim | exact out _ rfl (by simp) rfl
   | bP d s'=>cases e <;> first | exact ho.elim | exact out _ rfl (by simp) rfl
   | bad=>cases e <;> exact ho.elim
 refine cN (jL _ (key (μ x0 + 1) x0 a w (by omega) (fun o ho=>⟨o,ho,.refl (Wo o ho)⟩) hs0)) ?_
 rintro e a' w' ⟨o,⟨o',h1,h2⟩,h3⟩
 exact ⟨o',h1,LO.avO h2 h3⟩
end Go.Dm
namespace Go.Dm
open Go.RowKit
variable {P:Program} {N:Nat} {G:Gh} {S S':CS} {w w':World} {s:St} {a:Act} {ρ ρ':fA} {F F':Nat->Prop} {heap heap' H':Nat->bu} {Y:Value} {E:cg} {Γ:Ctx} {Fw:Fence} {r:Nat} {ops:Array Oper} {lo base:Nat} {bw:List fu}
def Gh.start (S:CS) (w:World):Gh:=Gh.inner (fun _=>False) S w 0 0 fun _=>none
theorem cL {M:Nat->Prop} {l lo:Nat} {ic:Nat->Option Nat}:(Gh.inner M S w l lo ic).iL:=fun _ _ _=>⟨false,⟨0,fun _=>()⟩,rfl,[],List.nil_prefix,trivial⟩
theorem ri {M:Nat->Prop} {l lo:Nat} {ic:Nat->Option Nat} (hp:∀ id b,ic id=some b->id < lo):(Gh.inner M S w l lo ic).Ok P:=⟨Cons.PA _,Bp,hp⟩
theorem jB:(Gh.start S w).Ok P:=ri fun _ _ h=>by cases h
def cW:(τ:Ty)->τ.den->List Slot
 | .cons h t,x=>AJ h (show h.den×t.den from x).1 :: cW t (show h.den×t.den from x).2
 | _,_=>[]
def xK (τ:Ty) (x:τ.den):St:=⟨fun t=>(cW τ x).getD t .top,fun _=>.none,.none,0,[]⟩
def sE:List ResultVar->List Nat
 | []=>[]
 | .tmp t :: rs=>t :: sE rs
 | .cell _ _ :: rs=>sE rs
def iA (P:Program):List ResultVar->(τ:Ty)->St->Option τ.den
 | [],.nil,_=>some ()
 | .tmp t :: rs,.cons h tl,s=>match ej h (s.env t),iA P rs tl s with
  | some x,some y=>some (x,y)
  | _,_=>none
 | .cell t T :: rs,.cons h tl,s=>match s.env t with
  | .v (.ptr id 0)=>match s.heap id,cy P T with
   | .box ds,some n=>match decide (ds.length=n) with
    | true=>match ej h (match cv P T,ds with | some true,ds=>.agg ds | some false,[d]=>.v d | _,_=>.top),iA P rs tl s with
     | some x,some y=>some (x,y)
     | _,_=>none
    | false=>none
   | _,_=>none
  | _=>none
 | _,_,_=>none
def vS (fn:Func) (s:St):St:=dO s (sE fn.results.toList)
theorem gR:∀ {τ:Ty} {x:τ.den} {vs:List Value},R P τ S w x vs->∀ t,RS P Y S w heap ρ ((cW τ x).getD t .top) (vs.getD t undef)
 | .cons h t,x,vs,hr,k=>by
  obtain ⟨u,ws,rfl,h2,h3⟩:=hr
  cases k with
  | zero=>exact xA h2
  | succ k=>simpa [cW] using gR (τ:=t) h3 k
 | .int _,_,_,_,_=>trivial
 | .bool,_,_,_,_=>trivial
 | .sl _,_,_,_,_=>trivial
 | .ptr _,_,_,_,_=>trivial
 | .agg _,_,_,_,_=>trivial
 | .nil,_,_,_,_=>trivial
 | .fn _ _,_,_,_,_=>trivial
 | .seq _,_,_,_,_=>trivial
 | .map _ _,_,_,_,_=>trivial
 | .vl,_,_,_,_=>trivial
def kX (N:Nat) (vs:List Value):Act:={ tmps:=vs.toArray ++ Array.replicate (N - vs.toArray.size) undef,defers:=[] }
theorem nu (vs:List Value) (t:Nat):(kX N vs).tmps.getD t undef=vs.getD t undef:=by
 unfold kX
 rw [Array.getD_eq_getD_getElem?,List.getD_eq_getElem?_getD,Array.getElem?_append]
 split
 ·simp
 ·rename_i ht
  rw [List.getElem?_eq_none (by simpa using ht),Array.getElem?_replicate]
  split <;> rfl
theorem kY {vs:List Value} (hn:vs.length<=N):(kX N vs).tmps.size=N:=by
 unfold kX; simp; omega
theorem PJ {τ:Ty} {x:τ.den} {vs:List Value} (hb:Bd S w) (hr:R P τ S w x vs) (hn:vs.length<=N) :
  SR P N (Gh.start S w) (xK τ x) (kX N vs) w (fun _=>none) S (fun _=>False):=by
 refine ⟨kY hn,trivial,fun t=>?_,fun id=>trivial,fun i j b hi=>hi.elim,.refl hb,fun _ _ q=>.inl q,.refl _ _,cL _ _ _,fun _ q=>q.elim,fun _ _ q=>q,fun _ q=>q,fun _ _ _ _=>trivial,fun _ _ q=>by cases q⟩
 rw [nu]
 exact gR hr t
def BA (tmps:Array Value):ResultVar->Sem Value
 | .tmp t=>pure (tmps.getD t undef)
 | .cell c t=>do loadVar t (<- asAddr (tmps.getD c undef))
theorem zR (h:SR P N G s a w ρ S F):∀ {rs:List ResultVar} {τ:Ty} {y:τ.den},iA P rs τ s=some y ->
    ∃ us,(rs.mapM (m:=Sem) (BA a.tmps)).run P w = .ok us w/\R P τ S w y us
  | [],τ,y,hy=>by
    cases τ with
    | nil=>exact ⟨[],rfl,rfl⟩
    | _=>cases hy
  | .tmp t :: rs,τ,y,hy=>by
    cases τ with
    | cons h1 tl =>
      simp only [iA] at hy
      cases h2:ej h1 (s.env t) with
      | none=>rw [h2] at hy; simp at hy
      | some x =>
        cases h3:iA P rs tl s with
        | none=>rw [h2,h3] at hy; simp at hy
        | some z =>
          rw [h2,h3] at hy
          simp only [Option.some.injEq] at hy
          subst hy
          obtain ⟨us,q1,q2⟩:=zR h h3
          exact ⟨_ :: us,by simp only [List.mapM_cons,Sem.run_bind,BA,Sem.run_pure,Result.andThen_ok] at q1 ⊢; rw [q1]; rfl,_,us,rfl,kO (h.env t) h2,q2⟩
    | _=>cases hy
  | .cell c t :: rs,τ,y,hy=>by
    cases τ with
    | cons h1 tl =>
      simp only [iA] at hy
      cases hs:s.env c with
      | v d =>
        cases d with
        | ptr id off =>
          rw [hs] at hy
          cases off with
          | succ off=>simp at hy
          | zero =>
          simp only at hy
          cases ho:s.heap id with
          | box ds =>
            cases hn:cy P t with
            | none=>rw [ho,hn] at hy; simp at hy
            | some n =>
              rw [ho,hn] at hy
              simp only at hy
              cases hc:decide (ds.length=n) with
              | false=>rw [hc] at hy; simp at hy
              | true =>
                rw [hc] at hy
                simp only [decide_eq_true_eq] at hc
                simp only at hy
                have hp:=h.env c
                rw [hs] at hp
                obtain ⟨b,arr,T,hb,hv,hh,hr⟩:=vI h ho hp
                have hal:arr.toList.length=n:=by rw [<- hr.1]; exact hc
                have main:∀ (sl:Slot) (v:Value),RS P G.Y S w s.heap ρ sl v->(Instr.loadAt t (.pointer (some ⟨b,0,none⟩))).run P w = .ok v w ->
                    (match ej h1 sl,iA P rs tl s with
                      | some x,some y=>some (x,y)
                      | _,_=>none)=some y->∃ us,((ResultVar.cell c t :: rs).mapM (m:=Sem) (BA a.tmps)).run P w = .ok us w/\R P (.cons h1 tl) S w y us:=by
                  intro sl v hsl Wp hy
                  cases h2:ej h1 sl with
                  | none=>rw [h2] at hy; simp at hy
                  | some x =>
                    cases h3:iA P rs tl s with
                    | none=>rw [h2,h3] at hy; simp at hy
                    | some z =>
                      rw [h2,h3] at hy
                      simp only [Option.some.injEq] at hy
                      subst hy
                      obtain ⟨us,q1,q2⟩:=zR h h3
                      refine ⟨v :: us,?_,v,us,rfl,kO hsl h2,q2⟩
                      have hl:(loadVar t ⟨b,0,none⟩).run P w = .ok v w:=by
                        simpa [Instr.loadAt,Instr.sureAddr] using Wp
                      have hg:(BA a.tmps (.cell c t)).run P w = .ok v w:=by
                        simp only [BA,Sem.run_bind,hv,asAddr,Sem.run_pure,Result.andThen_ok,hl]
                      simp only [List.mapM_cons,Sem.run_bind,hg,Result.andThen_ok,q1,Sem.run_pure]
                cases ha:cv P t with
                | none=>rw [ha] at hy; simp only at hy; cases h1 <;> simp [ej] at hy
                | some ag =>
                  rw [ha] at hy
                  cases ag with
                  | true =>
                    exact main (.agg ds) (.agg arr.toList.toArray) ⟨arr.toList,rfl,hr⟩ (AY ha hn (fun j v hj=>by rw [Nat.zero_add]; exact qI hh j v hj) hal) hy
                  | false =>
                    cases ds with
                    | nil=>simp only at hy; cases h1 <;> simp [ej] at hy
                    | cons d ds =>
                      cases ds with
                      | nil =>
                        obtain ⟨u,hu⟩:∃ u,arr.toList=[u]:=by
                          have:=hr.1
                          cases hq:arr.toList with
                          | nil=>rw [hq] at this; simp at this
                          | cons u us =>
                            cases us with
                            | nil=>exact ⟨u,rfl⟩
                            | cons _ _=>rw [hq] at this; simp at this
                        rw [hu] at hr
                        exact main (.v d) u (hr.of_cons.1) (Ip ha (qI hh 0 u (by rw [hu]; rfl))) hy
                      | cons d2 ds=>simp only at hy; cases h1 <;> simp [ej] at hy
          | none=>rw [ho] at hy; simp at hy
          | gone=>rw [ho] at hy; simp at hy
          | chain _ _ _ _=>rw [ho] at hy; simp at hy
          | row _ _ _ _=>rw [ho] at hy; simp at hy
          | mp _ _ _=>rw [ho] at hy; simp at hy
          | rows _ _ _ _=>rw [ho] at hy; simp at hy
        | _=>rw [hs] at hy; simp at hy
      | _=>rw [hs] at hy; simp at hy
    | _=>cases hy
theorem jC {fn:Func} (h:SR P N G s a w ρ S F) {τ:Ty} {y:τ.den} (hy:iA P fn.results.toList τ s=some y) :
  ∃ us,(results fn a.tmps).run P w = .ok (pack us) w/\R P τ S w y us:=by
 obtain ⟨us,h1,h2⟩:=zR h hy
 refine ⟨us,?_,h2⟩
 have al4:results fn a.tmps=(do let vs <- fn.results.mapM (BA a.tmps); pure (if h:vs.size=1 then vs[0] else .tuple vs)):=by
  unfold results
  congr 2
 rw [al4,Array.mapM_eq_mapM_toList,Sem.run_bind,Sem.run_map,h1]
 simp only [Result.andThen_ok,Sem.run_pure]
 cases us with
 | nil=>rfl
 | cons u us=>cases us <;> rfl
theorem dz.put {n0 D:Nat}:∀ {ds:List fu} {dd:List Deferred},dz n0 w heap ρ F ds dd->D ∉ marksOf dd->dz n0 (w.putObj D (.deferred none)) heap ρ F ds dd
 | [],[],_,_=>trivial
 | .mark :: r,d :: ds,⟨⟨D',h1,h2,h3,h4,h5⟩,h⟩,hn=>by
  subst h1
  simp only [marksOf,List.filterMap_cons,List.mem_cons,not_or] at hn
  exact ⟨⟨D',rfl,h2,h3,(World.putObj_heap_other (fun e=>hn.1 e.symm)).trans h4,h5⟩,dz.put h hn.2⟩
 | .iM f ids :: r,d :: ds,⟨⟨us,h1,h2⟩,h⟩,hn=>by
  subst h1
  exact ⟨⟨us,rfl,h2⟩,dz.put h (by simpa [marksOf] using hn)⟩
 | .marks :: r,dd,⟨ms,ds,e,h1,h⟩,hn=>by
  subst e
  have hm:marksOf (ms ++ ds)=marksOf ms ++ marksOf ds:=by simp [marksOf]
  refine ⟨ms,ds,rfl,h1.imp fun D' hD' q1 q2 q3=>⟨q1,q2,(World.putObj_heap_other (fun q=>hn (by rw [<- q]; exact hD'))).trans q3⟩,dz.put h (fun q=>hn (by rw [hm]; exact List.mem_append_right _ q))⟩
 | [],_ :: _,h,_=>h.elim
 | .mark :: _,[],h,_=>h.elim
 | .iM _ _ :: _,[],h,_=>h.elim
theorem SR.take (hG:G.Ok P) (h:SR P N G s a w ρ S F) {D:Nat} (h0:G.w0.heap.size<=D) (hF:¬ F D) (hD:w.heap[D]? = some (.deferred (some []))) {r:List fu} {ds:List Deferred} (hd:dz G.w0.heap.size (w.putObj D (.deferred none)) s.heap ρ F r ds) :
  SR P N G { s with bw:=r } { a with defers:=ds } (w.putObj D (.deferred none)) ρ S F:=by
 have hlt:=(Array.getElem?_eq_some_iff.1 hD).1
 have hne:∀ b,w.heap[b]? ≠ some (Obj.deferred (some []))->(w.putObj D (.deferred none)).heap[b]? = w.heap[b]? := fun b hb=>World.putObj_heap_other fun e=>hb (e ▸ hD)
 have hsz:(w.putObj D (.deferred none)).heap.size=w.heap.size:=by simp [World.putObj]
 have hcell:∀ b o,(w.putObj D (.deferred none)).cell? ⟨b,o,none⟩=w.cell? ⟨b,o,none⟩:=fun b o=>by
  by_cases hb:b=D
  ·subst hb
   have h2:(w.putObj b (.deferred none)).heap[b]? = some (.deferred none):=World.putObj_heap_same hlt
   simp [World.cell?,h2,hD]
  ·exact World.cell?_of_block (a:=⟨b,o,none⟩) (World.putObj_heap_other hb)
 have hsame:∀ Dm:Nat->Prop,¬ Dm D->dX Dm w (w.putObj D (.deferred none)):=fun Dm hn=>⟨rfl,rfl,rfl,by omega,fun k hk=>World.putObj_heap_other fun e=>hn (e ▸ hk)⟩
 have ex:Ext0 S w S (w.putObj D (.deferred none)):=⟨by omega,fun _ _ q=>q,fun b o _=>hcell b o,fun b o es c _ q=>(hne b (by rw [q]; simp)).trans q,fun b o q=>by rw [hsz]; exact h.bd b o q,.putObj hlt (fun _ _ _=>by simp)⟩
 have hk:∀ id,Kept w (w.putObj D (.deferred none)) ρ ρ id (s.heap id) (s.heap id):=fun id=>.refl rfl fun b hb hl=>hne b (h.eG hl hb).2.2
 refine ⟨h.size,hd,fun t=>(h.env t).tr ex hk,fun id=>(h.obj id).tr ex hk rfl fun b hb=>⟨hne b (h.jy hb).2.2,fun i q=>q,fun x=>x⟩,fun i j b hi hj=>h.inj i j b (hi.back rfl fun b q1 q2=>hne b (h.eG q2 q1).2.2) (hj.back rfl fun b q1 q2=>hne b (h.eG q2 q1).2.2),h.ext.trans ex,h.new,
  h.same.trans (hsame _ fun q=>by omega),h.tr.tr hG.c h.fb (hsame _ hF) ex,fun b x=>by rw [hsz]; exact h.fb b x,h.f0,h.sub,h.fs,h.pins⟩
def fS:List fu->Bool
 | []=>true
 | .mark :: r=>fS r
 | .marks :: r=>fS r
 | _ :: _=>false
theorem eE (hG:G.Ok P) {fn:Func} {n:Nat} {K:Ending->World->Prop} {u:FrameMode} (hu:u ≠ .run):∀ (r:List fu) {s:St} {a:Act} {w:World},s.bw=r->fS r=true->SR P N G s a w ρ S F ->
  (∀ w',SR P N G { s with bw:=[] } { a with defers:=[] } w' ρ S F->(∀ τ x v,R P τ S w x v->R P τ S w' x v)->LeavesInM Fence.wide n P fn a.tmps K [] u w')->LeavesInM Fence.wide n P fn a.tmps K a.defers u w
 | [],s,a,w,hr,_,h,hK=>by
  have hd:=h.bw
  rw [hr] at hd
  cases ng:a.defers with
  | cons d ds=>rw [ng] at hd; exact hd.elim
  | nil =>
   refine hK w ?_ fun _ _ _ q=>q
   have:({ a with defers:=[] }:Act)=a:=by cases a; simp only at ng; subst ng; rfl
   rw [this]
   exact h.of_eq rfl rfl rfl hr.symm
 | .iM f ids :: r,s,a,w,hr,hm,h,hK=>by cases hm
 | .marks :: r,s,a,w,hr,hm,h,hK=>by
  have hd:=h.bw
  rw [hr] at hd
  obtain ⟨ms,ds,ng,h1,h2⟩:=hd
  have key:∀ (ms:List Deferred) {s:St} {a:Act} {w:World},a.defers=ms ++ ds->lV G.w0.heap.size w F ms ds->dz G.w0.heap.size w s.heap ρ F r ds->SR P N G { s with bw:=.marks :: r } a w ρ S F ->
    (∀ w',SR P N G { s with bw:=[] } { a with defers:=[] } w' ρ S F->(∀ τ x v,R P τ S w x v->R P τ S w' x v)->LeavesInM Fence.wide n P fn a.tmps K [] u w')->LeavesInM Fence.wide n P fn a.tmps K a.defers u w:=by
   intro ms
   induction ms with
   | nil =>
    intro s a w ng h1 h2 h hK
    have hs:SR P N G { s with bw:=r } a w ρ S F:=⟨h.size,by rw [show a.defers=ds from ng]; exact h2,h.env,h.obj,h.inj,h.ext,h.new,h.same,h.tr,h.fb,h.f0,h.sub,h.fs,h.pins⟩
    exact eE hG hu r (s:={ s with bw:=r }) (a:=a) rfl hm hs hK
   | cons d ms ih =>
    intro s a w ng h1 h2 h hK
    obtain ⟨⟨D,rfl,p2,p3,p4,p5⟩,h1⟩:=h1
    have hmm:marksOf (ms ++ ds)=marksOf ms ++ marksOf ds:=by simp [marksOf]
    have hD5:D ∉ marksOf ds:=fun q=>p5 (by rw [hmm]; exact List.mem_append_right _ q)
    have hM:lV G.w0.heap.size (w.putObj D (.deferred none)) F ms ds:=h1.imp fun D' hD' q1 q2 q3=>⟨q1,q2,(World.putObj_heap_other (fun q=>p5 (by rw [<- q]; exact hD'))).trans q3⟩
    have hd2:dz G.w0.heap.size (w.putObj D (.deferred none)) s.heap ρ F (.marks :: r) (ms ++ ds):=⟨ms,ds,rfl,hM,h2.put hD5⟩
    have ht:=h.take hG p2 p3 p4 hd2
    rw [ng]
    refine ⟨hu,.inl ⟨D,_,rfl,run_takeDeferred p4,?_⟩⟩
    refine ih (s:=s) (a:={ a with defers:=ms ++ ds }) rfl hM (h2.put hD5) ht fun w' q1 q2=>hK w' q1 fun τ x v q=>q2 τ x v (q.mono ?_)
    have hlt:=(Array.getElem?_eq_some_iff.1 p4).1
    have hsz:(w.putObj D (.deferred none)).heap.size=w.heap.size:=by simp [World.putObj]
    refine ⟨by omega,fun _ _ q=>q,fun b o _=>?_,fun b o es c _ q=>(World.putObj_heap_other fun e=>by rw [e,p4] at q; cases q).trans q,fun b o q=>by rw [hsz]; exact h.bd b o q,.putObj hlt (fun _ _ _=>by simp)⟩
    by_cases hb:b=D
    ·subst hb
     have h2:(w.putObj b (.deferred none)).heap[b]? = some (.deferred none):=World.putObj_heap_same hlt
     simp [World.cell?,h2,p4]
    ·exact World.cell?_of_block (a:=⟨b,o,none⟩) (World.putObj_heap_other hb)
  exact key ms (s:=s) ng h1 h2 (h.of_eq rfl rfl rfl hr.symm) hK
 | .mark :: r,s,a,w,hr,hm,h,hK=>by
  have hd:=h.bw
  rw [hr] at hd
  cases ng:a.defers with
  | nil=>rw [ng] at hd; exact hd.elim
  | cons d ds =>
   rw [ng] at hd
   obtain ⟨⟨D,rfl,h2,h3,h4,h5⟩,jD⟩:=hd
   have ht:=h.take hG h2 h3 h4 (jD.put h5)
   refine ⟨hu,.inl ⟨D,_,rfl,run_takeDeferred h4,?_⟩⟩
   refine eE hG hu r (s:={ s with bw:=r }) (a:={ a with defers:=ds }) rfl hm ht fun w' q1 q2=>hK w' q1 fun τ x v q=>q2 τ x v (q.mono ?_)
   have hlt:=(Array.getElem?_eq_some_iff.1 h4).1
   have hsz:(w.putObj D (.deferred none)).heap.size=w.heap.size:=by simp [World.putObj]
   refine ⟨by omega,fun _ _ q=>q,fun b o _=>?_,fun b o es c _ q=>(World.putObj_heap_other fun e=>by rw [e,h4] at q; cases q).trans q,fun b o q=>by rw [hsz]; exact h.bd b o q,.putObj hlt (fun _ _ _=>by simp)⟩
   by_cases hb:b=D
   ·subst hb
    have h2:(w.putObj b (.deferred none)).heap[b]? = some (.deferred none):=World.putObj_heap_same hlt
    simp [World.cell?,h2,h4]
   ·exact World.cell?_of_block (a:=⟨b,o,none⟩) (World.putObj_heap_other hb)
def Wq (P:Program) (fn:Func) (τ:Ty):Out->Tree (Option τ.den)
 | .ret s | .norm s=>match fS s.bw with
  | true=>.leaf (iA P fn.results.toList τ (vS fn s))
  | false=>.leaf none
 | _=>.leaf none
def me (P:Program) (E:cg) (Γ:Ctx) (fn:Func) (ls:List Loop) (τa τr:Ty) (x:τa.den):Tree (Option τr.den):=
 match fn.body with
 | some c=>fQ P E Γ 0 fn.ntmps .any c ls (xK τa x) (Wq P fn τr)
 | none=>.leaf none
theorem LB (s:St) (t:Nat):(tV s t).bw=s.bw:=by
 unfold tV; split
 ·split
  ·split <;> rfl
  ·rfl
 ·split <;> rfl
 ·rfl
theorem gS:∀ (ts:List Nat) (s:St),(dO s ts).bw=s.bw
 | [],_=>rfl
 | t :: ts,s=>(gS ts _).trans (LB s t)
theorem SR.IV {M:Nat->Prop} (h:SR P N (Gh.start S w) s a w' ρ S' F):Ext S w S' w'/\Below w.heap.size w w':=
 ⟨⟨h.ext,fun b o q=>(h.new b o q).elim .inl fun q=>q.elim .inr fun q=>q.elim⟩,((show dX _ w w' from h.same).mono fun k hk=>⟨hk,fun q=>q,fun q=>q⟩).below⟩
theorem nv:∀ (rs:List ResultVar) (τ:Ty) (s:St) (d:List fu),iA P rs τ { s with bw:=d }=iA P rs τ s
 | [],.nil,_,_=>rfl
 | .tmp t :: rs,.cons h tl,s,d=>by simp only [iA,nv rs tl s d]
 | .cell t T :: rs,.cons h tl,s,d=>by simp only [iA,nv rs tl s d]
 | [],.cons _ _,_,_=>rfl
 | [],.int _,_,_=>rfl
 | [],.bool,_,_=>rfl
 | [],.sl _,_,_=>rfl
 | [],.ptr _,_,_=>rfl
 | [],.agg _,_,_=>rfl
 | [],.fn _ _,_,_=>rfl
 | [],.seq _,_,_=>rfl
 | [],.map _ _,_,_=>rfl
 | [],.vl,_,_=>rfl
 | r :: _,.nil,_,_=>by cases r <;> rfl
 | r :: _,.int _,_,_=>by cases r <;> rfl
 | r :: _,.bool,_,_=>by cases r <;> rfl
 | r :: _,.sl _,_,_=>by cases r <;> rfl
 | r :: _,.ptr _,_,_=>by cases r <;> rfl
 | r :: _,.agg _,_,_=>by cases r <;> rfl
 | r :: _,.fn _ _,_,_=>by cases r <;> rfl
 | r :: _,.seq _,_,_=>by cases r <;> rfl
 | r :: _,.map _ _,_,_=>by cases r <;> rfl
 | r :: _,.vl,_,_=>by cases r <;> rfl
theorem Dp {S:CS} {w:World} (hm:P.follows .mixedOrders=true) (hΓ:Sound P Γ) (hE:fB P E.eq) (hK:dN P E.key) {f:FuncId} {fn:Func} {c:Code} (hf:P.funcs[f]? = some fn) (hb:fn.body=some c) {ls:List Loop}
    (hl:ff P fn.ntmps (Gh.start S w) f Fence.wide 0 c ls)
    (lS:Con) (hn:lS.args.cells<=fn.ntmps) (h:∀ x,lS.pre x=true->(me P E Γ fn ls lS.args lS.res x).gJ (· = some (lS.fn x))) (hbd:Bd S w):∀ (x:lS.args.den) (vs:List Value),lS.pre x=true->R P lS.args S w x vs ->
    Calls P f vs.toArray w (fun e w'=>∃ S' rs,e = .returned (pack rs)/\R P lS.res S' w' (lS.fn x) rs/\Ext S w S' w'/\Below w.heap.size w w'):=by
  intro x vs hp hr
  have hx:=h x hp
  unfold me at hx
  rw [hb] at hx
  refine (callsIn_wide (n:=0)).1 (fe hf hb trivial ?_)
  have hi:=PJ (N:=fn.ntmps) hbd hr (by rw [hr.len]; exact hn)
  have rj:Env P E Γ (Gh.start S w) Fence.wide:=⟨hm,hΓ,hE,hK,jB,.wide,fun _=>rfl⟩
  refine cN (cF (G:=Gh.start S w) (K:=Wq P fn lS.res) (ch:=Tree.any) (T:=fun t:Tree (Option lS.res.den)=>t.gJ (· = some (lS.fn x))) rj (fun a b q=>q) ⟨(fun q=>by cases (show none=some _ from q)),(fun s' q=>by cases (show none=some _ from q))⟩ hx hl ⟨_,_,_,hi⟩) ?_
  rintro e a' w' ⟨o,ho,hT⟩
  have fin:∀ s,SX P fn.ntmps (Gh.start S w) s a' w'->(match fS s.bw with
        | true=>Tree.leaf (iA P fn.results.toList lS.res (vS fn s))
        | false=>.leaf none).gJ (· = some (lS.fn x)) ->
      LeavesInM Fence.wide 0 P fn a'.tmps (fun e w'=>∃ S' rs,e = .returned (pack rs)/\R P lS.res S' w' (lS.fn x) rs/\Ext S w S' w'/\Below w.heap.size w w') a'.defers .returning w':=by
    intro s hs hT
    cases hall:fS s.bw with
    | false=>rw [hall] at hT; cases (show none=some _ from hT)
    | true =>
      rw [hall] at hT
      have hT:iA P fn.results.toList lS.res (vS fn s)=some (lS.fn x):=hT
      obtain ⟨ρ,S',F,hs⟩:=hs.dO jB (sE fn.results.toList)
      refine eE jB (by simp) _ rfl (by rw [gS]; exact hall) hs fun w'' q1 _=>?_
      obtain ⟨us,r1,r2⟩:=jC (s:={ vS fn s with bw:=[] }) (fn:=fn) (τ:=lS.res) (y:=lS.fn x) q1 ((nv ..).trans hT)
      obtain ⟨e1,e2⟩:=q1.IV (M:=fun _=>False)
      exact ⟨_,r1,S',us,rfl,r2,e1,e2⟩
  cases o with
  | norm s=>cases e <;> first | exact ho.elim | exact fin s ho hT
  | ret s=>cases e <;> first | exact ho.elim | exact fin s ho hT
  | exit id s=>cases (show none=some _ from hT)
  | bP d s=>cases (show none=some _ from hT)
  | bad=>cases (show none=some _ from hT)
theorem EZ (hm:P.follows .mixedOrders=true) (hΓ:Sound P Γ) (hE:fB P E.eq) (hK:dN P E.key) {f:FuncId} {fn:Func} {c:Code} (hf:P.funcs[f]? = some fn) (hb:fn.body=some c) {ls:List Loop}
  (hl:∀ S w,ff P fn.ntmps (Gh.start S w) f Fence.wide 0 c ls)
  (lS:Con) (hn:lS.args.cells<=fn.ntmps) (h:∀ x,lS.pre x=true->(me P E Γ fn ls lS.args lS.res x).gJ (· = some (lS.fn x))):aQ P f lS:=
 fun _ _ hbd=>Dp hm hΓ hE hK hf hb (hl _ _) lS hn h hbd
end Go.Dm
namespace Go.Dm
open Go.RowKit
variable {P:Program} {N:Nat} {G:Gh} {S S':CS} {w w':World} {s:St} {a:Act} {ρ ρ':fA} {F F':Nat->Prop} {heap heap' H':Nat->bu} {Y:Value} {E:cg} {Γ:Ctx} {Fw:Fence} {r:Nat} {ops:Array Oper} {lo base:Nat} {bw:List fu} {fid:FuncId}
inductive Plain:List Loop->Prop
 | nil:Plain []
 | cons {n:Nat} {inner ls:List Loop} (h:Plain inner) (t:Plain ls):Plain (.ia n inner :: ls)
theorem Plain.take:∀ {ls:List Loop} (n:Nat),Plain ls->Plain (ls.take n)
 | [],n,_=>by simpa using Plain.nil
 | l :: ls,0,_=>.nil
 | l :: ls,n + 1,h=>by cases h with | cons a b=>exact .cons a (Plain.take n b)
theorem Plain.drop:∀ {ls:List Loop} (n:Nat),Plain ls->Plain (ls.drop n)
 | [],n,_=>by simpa using Plain.nil
 | l :: ls,0,h=>h
 | l :: ls,n + 1,h=>by cases h with | cons a b=>exact Plain.drop n b
def Tree.sure {α:Type}:Tree (Option α)->Option α
 | .leaf r=>r
 | .br b l r=>bif b then l.sure else r.sure
 | .any _ _=>none
theorem Tree.rm {α:Type} {y:α}:∀ {t:Tree (Option α)},t.sure=some y->t.gJ (· = some y)
 | .leaf r,h=>h
 | .br b l r,h=>by
  cases b with
  | true=>exact (by simpa [Tree.gJ] using Tree.rm (t:=l) h)
  | false=>exact (by simpa [Tree.gJ] using Tree.rm (t:=r) h)
 | .any _ _,h=>by cases h
end Go.Dm
namespace Go.Dm
open Go.RowKit
def Ctx.of:List (FuncId×Ent)->Ctx
 | [],_=>none
 | p :: l,f=>match Nat.beq f p.1 with
  | true=>some p.2
  | false=>Ctx.of l f
theorem aB {P:Program}:∀ {l:List (FuncId×Ent)},(∀ p∈l,eY P p.1/\p.2.Ok P p.1)->Sound P (Ctx.of l)
 | [],_,f,c,h=>by cases h
 | p :: l,hl,f,c,h=>by
  simp only [Ctx.of] at h
  split at h
  ·rename_i hb
   cases h
   rw [Nat.eq_of_beq_eq_true hb]
   exact hl p (.head _)
  ·exact aB (fun p hp=>hl p (.tail _ hp)) f c h
end Go.Dm
namespace Go.Dm
open Go.RowKit
variable {P:Program} {N N':Nat} {G:Gh} {S S' S2:CS} {w w' w2:World} {s s2:St} {a a2:Act} {ρ ρ' ρ2:fA} {F F' F2:Nat->Prop} {heap heap' H' H2:Nat->bu} {Y:Value} {E:cg} {Γ:Ctx} {Fw:Fence} {r:Nat} {ops:Array Oper} {lo base:Nat} {bw:List fu}
end Go.Dm
namespace Go.Dm
open Go.RowKit
variable {P:Program} {N N':Nat} {G:Gh} {S S' S2:CS} {w w' w2:World} {s s2:St} {a a2:Act} {ρ ρ' ρ2:fA} {F F' F2:Nat->Prop} {heap heap' H' H2:Nat->bu} {Y:Value} {E:cg} {Γ:Ctx} {Fw:Fence} {r:Nat} {ops:Array Oper} {lo base:Nat} {bw:List fu} {vr DU:Nat->Nat}
def aD:List bg->List bg
 | []=>[]
 | .box id cs :: ps=>.box id cs :: aD ps
 | .row id T e :: ps=>.row id T e :: aD ps
 | .mp id k v :: ps=>.mp id k v :: aD ps
 | .rows id T e :: ps=>.rows id T e :: aD ps
 | .slot _ _ :: ps=>aD ps
 | .agg _ _ :: ps=>aD ps
 | .cells _ _ :: ps=>aD ps
 | .tr _ :: ps=>aD ps
def cB:(ps:List bg)->(aa ps).den->(aa (aD ps)).den->Bool
 | [],_,_=>true
 | .box _ cs :: ps,x,y=>cB ps (show (bM cs).den×(aa ps).den from x).2 (show (bM cs).den×(aa (aD ps)).den from y).2
 | .row _ _ e :: ps,x,y=>Nat.beq (show Sl e.den×(aa ps).den from x).1.n (show Sl e.den×(aa (aD ps)).den from y).1.n && cB ps (show Sl e.den×(aa ps).den from x).2 (show Sl e.den×(aa (aD ps)).den from y).2
 | .mp _ k v :: ps,x,y=>cB ps (show (k.den->Option v.den)×(aa ps).den from x).2 (show (k.den->Option v.den)×(aa (aD ps)).den from y).2
 | .rows _ _ e :: ps,x,y=>Nat.beq (show Sl (Sl e.den)×(aa ps).den from x).1.n (show Sl (Sl e.den)×(aa (aD ps)).den from y).1.n && cB ps (show Sl (Sl e.den)×(aa ps).den from x).2 (show Sl (Sl e.den)×(aa (aD ps)).den from y).2
 | .slot _ c :: ps,x,y=>cB ps (show c.ty.den×(aa ps).den from x).2 y
 | .agg _ τ :: ps,x,y=>cB ps (show τ.den×(aa ps).den from x).2 y
 | .cells _ cs :: ps,x,y=>cB ps (show (bM cs).den×(aa ps).den from x).2 y
 | .tr e :: ps,x,y=>cB ps (show Sl e.den×(aa ps).den from x).2 y
inductive Fa (v:Nat):bu->bu->Prop
 | box (ds ds':List DC):Fa v (.box ds) (.box ds')
 | row (u:Nat) (T:TypeId) (e:Ty) (a b:Sl e.den) (h:b.n=a.n):Fa v (.row u T e a) (.row v T e b)
 | mp (k e:Ty) (m m':k.den->Option e.den):Fa v (.mp k e m) (.mp k e m')
 | rows (u:Nat) (T:TypeId) (e:Ty) (a b:Sl (Sl e.den)) (h:b.n=a.n):Fa v (.rows u T e a) (.rows (v + 1) T e b)
 | chain (u:Nat) (T:TypeId) (k n n':Nat):Fa v (.chain u T k n) (.chain v T k n')
def adG (ps:List bg):Bool:=ps.all fun
 | .slot _ c=>(nk [c]).isEmpty
 | .box _ cs=>(nk cs).isEmpty
 | _=>true
theorem DV:∀ {cs:List eT} {x y:(bM cs).den},nk cs=[]->∀ p∈fJ vr cs y,∃ o,(p.1,o)∈fJ DU cs x/\Fa (vr p.1) o p.2
 | [],_,_,_,p,hp=>by simp [fJ] at hp
 | c :: cs,x,y,hw,p,hp=>by
  have tg:nk cs=[]:=by cases c <;> first | exact hw | cases hw
  rcases List.mem_append.1 hp with hp | hp
  ·cases c with
   | own id T e =>
    simp only [jM,List.mem_singleton] at hp
    subst hp
    exact ⟨_,List.mem_append_left _ (List.mem_singleton.2 rfl),.chain ..⟩
   | rw id T e=>cases hw
   | _=>simp [jM] at hp
  ·obtain ⟨o,h1,h2⟩:=DV (x:=x.2) tg p hp
   exact ⟨o,List.mem_append_right _ h1,h2⟩
theorem gD:∀ {ps:List bg} {x:(aa ps).den} {y:(aa (aD ps)).den},adG ps=true->cB ps x y=true->∀ p∈bC vr (aD ps) y,∃ o,(p.1,o)∈bC DU ps x/\Fa (vr p.1) o p.2
 | [],_,_,_,_,p,hp=>by simp [aD,bC] at hp
 | .box id cs :: ps,x,y,hw,hs,p,hp=>by
  have hw:=hw
  simp only [adG,List.all_cons,Bool.and_eq_true] at hw
  have hs:cB ps x.2 y.2=true:=hs
  simp only [aD,bC,List.cons_append,List.mem_cons,List.mem_append] at hp
  rcases hp with rfl | hp | hp
  ·exact ⟨_,by simp only [bC,List.cons_append]; exact .head _,.box ..⟩
  ·obtain ⟨o,h1,h2⟩:=DV (x:=(show (bM cs).den from x.1)) (by simpa using hw.1) p hp
   exact ⟨o,by simp only [bC,List.cons_append]; exact .tail _ (List.mem_append_left _ h1),h2⟩
  ·obtain ⟨o,h1,h2⟩:=gD hw.2 hs p hp
   exact ⟨o,by simp only [bC,List.cons_append]; exact .tail _ (List.mem_append_right _ h1),h2⟩
 | .row id T e :: ps,x,y,hw,hs,p,hp=>by
  have hs:(Nat.beq x.1.n y.1.n && cB ps x.2 y.2)=true:=hs
  rw [Bool.and_eq_true] at hs
  rcases List.mem_cons.1 hp with rfl | hp
  ·exact ⟨_,.head _,.row _ _ _ _ _ (Nat.eq_of_beq_eq_true hs.1).symm⟩
  ·obtain ⟨o,h1,h2⟩:=gD (ps:=ps) hw hs.2 p hp
   exact ⟨o,.tail _ h1,h2⟩
 | .mp id k v :: ps,x,y,hw,hs,p,hp=>by
  have hs:cB ps x.2 y.2=true:=hs
  rcases List.mem_cons.1 hp with rfl | hp
  ·exact ⟨_,.head _,.mp ..⟩
  ·obtain ⟨o,h1,h2⟩:=gD (ps:=ps) hw hs p hp
   exact ⟨o,.tail _ h1,h2⟩
 | .rows id T e :: ps,x,y,hw,hs,p,hp=>by
  have hs:(Nat.beq x.1.n y.1.n && cB ps x.2 y.2)=true:=hs
  rw [Bool.and_eq_true] at hs
  rcases List.mem_cons.1 hp with rfl | hp
  ·exact ⟨_,.head _,.rows _ _ _ _ _ (Nat.eq_of_beq_eq_true hs.1).symm⟩
  ·obtain ⟨o,h1,h2⟩:=gD (ps:=ps) hw hs.2 p hp
   exact ⟨o,.tail _ h1,h2⟩
 | .slot t c :: ps,x,y,hw,hs,p,hp=>by
  simp only [adG,List.all_cons,Bool.and_eq_true] at hw
  have hs:cB ps x.2 y=true:=hs
  obtain ⟨o,h1,h2⟩:=gD (ps:=ps) hw.2 hs p hp
  exact ⟨o,List.mem_append_right _ h1,h2⟩
 | .agg t τ :: ps,x,y,hw,hs,p,hp=>by
  have hs:cB ps x.2 y=true:=hs
  exact gD (ps:=ps) hw hs p hp
 | .cells t cs :: ps,x,y,hw,hs,p,hp=>by
  have hs:cB ps x.2 y=true:=hs
  exact gD (ps:=ps) hw hs p hp
 | .tr e :: ps,x,y,hw,hs,p,hp=>by
  have hs:cB ps x.2 y=true:=hs
  exact gD (ps:=ps) hw hs p hp
theorem Wr {lo lo':Nat} (hl:lo'<=lo):∀ {p:bg} {x:p.ty.den},uq lo s p=some x->uq lo' s p=some x:=by
 have hC:∀ {c:eT} {d:DC} {x:c.ty.den},lQ lo s.heap c d=some x->lQ lo' s.heap c d=some x:=by
  intro c d x h
  cases c <;> cases d <;> first | exact h | skip
  ·simp only [lQ] at h ⊢
   split at h
   ·rename_i h1 h2
    simp only [Bool.and_eq_true] at h2
    have h3:=Nat.le_of_ble_eq_true h2.2
    simp only [h1,h2.1,Nat.ble_eq_true_of_le (Nat.le_trans hl h3),Bool.and_self]
    exact h
   ·cases h
  ·simp only [lQ] at h ⊢
   split at h
   ·rename_i h1 h2
    simp only [Bool.and_eq_true] at h2
    have h3:=Nat.le_of_ble_eq_true h2.2
    simp only [h1,h2.1.1,h2.1.2,Nat.ble_eq_true_of_le (Nat.le_trans hl h3),Bool.and_self]
    exact h
   ·cases h
  ·rename_i n τ y
   cases τ with
   | int kk=>cases kk <;> exact h
   | _=>exact h
 have hCs:∀ {cs:List eT} {ds:List DC} {x:(bM cs).den},sW lo s.heap cs ds=some x->sW lo' s.heap cs ds=some x:=by
  intro cs
  induction cs with
  | nil=>intro ds x h; cases ds <;> exact h
  | cons c cs ih =>
   intro ds x h
   obtain ⟨d,ds',rfl,h1,h2⟩:=nr h
   simp only [sW,hC h1,ih h2]
 intro p x h
 cases p with
 | slot t c =>
  simp only [uq] at h ⊢
  split at h
  ·exact hC h
  ·cases h
 | box id cs =>
  simp only [uq] at h ⊢
  split at h
  ·exact hCs h
  ·cases h
 | cells t cs =>
  simp only [uq] at h ⊢
  split at h
  ·exact hCs h
  ·cases h
 | _=>exact h
theorem PK {lo lo':Nat} (hl:lo'<=lo):∀ {ps:List bg} {x:(aa ps).den},rd lo s ps=some x->rd lo' s ps=some x
 | [],_,h=>h
 | p :: ps,x,h=>by
  obtain ⟨h1,h2⟩:=sD h
  simp only [rd,Wr hl h1,PK hl h2]
theorem LC (d:List fu):∀ (ps:List bg),rd lo { s with bw:=d } ps=rd lo s ps
 | []=>rfl
 | p :: ps=>by
  simp only [rd,LC d ps]
  cases p <;> rfl
theorem adH (hG:G.Ok P) (h:SR P N G s a w ρ S F) {ps:List bg} {x:(aa ps).den} (hx:rd G.lo s ps=some x) (i b:Nat) (hl:live (bR (bC vr ps x) i)) (hb:iw G.ic s.heap ρ i=some b):live (s.heap i)/\ρ i=some b:=by
 have hr:=h.zw hG
 refine ⟨?_,hr.r2 i b hb⟩
 have hn:bR (bC vr ps x) i ≠ .none:=fun e=>by rw [e] at hl; exact hl
 have:=nt h hx (vr:=vr) _ (dG hn)
 cases ho:bR (bC vr ps x) i with
 | none=>exact absurd ho hn
 | gone=>rw [ho] at hl; exact hl.elim
 | box ds=>rw [ho] at this; obtain ⟨_,e⟩:=this; simp only at e; rw [e]; trivial
 | row v T e y =>
  rw [ho] at this
  obtain ⟨v,e⟩ | ⟨e1,e2,e3⟩:=this
  ·simp only at e; rw [e]; trivial
  ·simp only at e1 e3; rw [hr.r3 i e1 e3] at hb; cases hb
 | mp k v m=>rw [ho] at this; rw [show s.heap i=_ from this]; trivial
 | rows _ T e d=>rw [ho] at this; obtain ⟨_,e⟩:=this; simp only at e; rw [e]; trivial
 | chain bG T k n =>
  rw [ho] at this
  obtain ⟨v,e⟩ | ⟨e1,e2,e3⟩:=this
  ·simp only at e; rw [e]; trivial
  ·simp only at e1 e3; rw [hr.r3 i e1 e3] at hb; cases hb
theorem Ws (hG:G.Ok P) (h:SR P N G s a w ρ S F) {ps:List bg} {x:(aa ps).den} (hx:rd G.lo s ps=some x) (i b:Nat) (hi:Own w (iw G.ic s.heap ρ) i (bR (bC vr ps x) i) b):Own w ρ i (s.heap i) b:=by
 by_cases hr:tY (bR (bC vr ps x) i)=false
 ·obtain ⟨l1,r1⟩:=adH hG h hx i b hi.lv (hi.flat hr)
  exact .of l1 r1
 ·have hn:bR (bC vr ps x) i ≠ .none:=fun e=>by rw [e] at hi; exact hi
  have hrr:=h.zw hG
  have hlk:=nt h hx (vr:=vr) _ (dG hn)
  cases ho:bR (bC vr ps x) i with
  | rows v T e d =>
   rw [ho] at hi hlk
   obtain ⟨v0,e0⟩:=hlk
   simp only at e0
   rw [e0]
   rcases hi with q | ⟨k,n,cap,b0,arr,T0,q1,q2⟩
   ·exact .inl (hrr.r2 i b q)
   ·exact .inr ⟨k,n,cap,b0,arr,T0,hrr.r2 i b0 q1,q2⟩
  | _=>rw [ho] at hr; exact absurd rfl hr
inductive GO (τr:Ty) (qs:List bg) where
 | ok (r:τr.den) (y:(aa qs).den)
 | bP (T:TypeId) (τ:Ty) (d:τ.den) (y:(aa qs).den)
 | bad
def Wt (P:Program) (fn:Func) (lo:Nat) (τr:Ty) (ps:List bg) (x:(aa ps).den):Out->Tree (GO τr (aD ps))
 | .ret s | .norm s=>match fS s.bw,iA P fn.results.toList τr (vS fn s),rd lo (vS fn s) (aD ps) with
  | true,some r,some y=>match cB ps x y with
   | true=>.leaf (.ok r y)
   | false=>.leaf .bad
  | _,_,_=>.leaf .bad
 | .bP (.zg T τ d) s=>match fS s.bw,rd lo s (aD ps) with
  | true,some y=>match cB ps x y with
   | true=>.leaf (.bP T τ d y)
   | false=>.leaf .bad
  | _,_=>.leaf .bad
 | _=>.leaf .bad
def ur (P:Program) (E:cg) (Γ:Ctx) (fn:Func) (ls:List Loop) (lo:Nat) (τr:Ty) (ps:List bg) (x:(aa ps).den):Tree (GO τr (aD ps)):=
 match fn.body with
 | some c=>fQ P E Γ lo fn.ntmps .any c ls (wr lo .none [] ps x) (Wt P fn lo τr ps x)
 | none=>.leaf .bad
def cx (heap:Nat->bu) (id:Nat):Nat:=match heap id with
 | .chain v _ _ _=>v + 1
 | .row v _ _ _=>v
 | .rows v _ _ _=>v
 | _=>0
def GO.or {τr:Ty} {qs:List bg} (heap:Nat->bu):GO τr qs->OR
 | .ok r y=>.ok ⟨some (jk τr r),bC (cx heap) qs y,cz qs,false,none⟩
 | .bP T τ d y=>.bP (.zg T τ d) ⟨none,bC (cx heap) qs y,cz qs,false,none⟩
 | .bad=>.bad
def Wu (n:Nat) (τr:Ty) (ps:List bg) (run:(aa ps).den->Tree (GO τr (aD ps))) (args:List Slot) (heap:Nat->bu) (tr:Tr) (bJ:Nat):Tree OR:=
 match Nat.ble args.length n,rd bJ ⟨fun t=>args.getD t .top,heap,tr,0,[]⟩ ps with
 | true,some x=>(run x).map (GO.or heap)
 | _,_=>.leaf .bad
def LD (lo:Nat) (ps:List bg):Bool:=(fh ps).all (Nat.blt · lo) && (iX ps).all (Nat.blt · lo) && (nq ps).all (Nat.blt · lo)
def Dq (lo:Nat) (ps:List bg):Bool:=kU ps && kU (aD ps) && uo (cz (aD ps)) (cz ps) && LD lo ps && !lZ ps && !lZ (aD ps) && adG ps
theorem xL:∀ {l:List (Nat×bu)} {h:Nat->bu},(l.map (·.1)).Nodup->∀ i,cE h l i=bif (l.map (·.1)).any (Nat.beq i) then bR l i else h i
 | [],h,_,i=>rfl
 | p :: l,h,hn,i=>by
  rw [List.map_cons,List.nodup_cons] at hn
  obtain ⟨j,o⟩:=p
  show cE (aE h j o) l i=_
  rw [xL hn.2]
  simp only [List.map_cons,List.any_cons,bR]
  by_cases e:i=j
  ·subst e
   have:(l.map (·.1)).any (Nat.beq i)=false:=by
    cases hb:(l.map (·.1)).any (Nat.beq i) with
    | false=>rfl
    | true=>exact absurd (any_beq.1 hb) hn.1
   simp [this,aE]
  ·simp only [bF e,Bool.false_or,cond_false,aE]
theorem BB:∀ {ps:List bg} {x:(aa ps).den} {id:Nat} {ds:List DC},(id,bu.box ds)∈bC vr ps x->id∈fh ps:=by
 have hC:∀ {cs:List eT} {x:(bM cs).den} {id:Nat} {ds:List DC},(id,bu.box ds) ∉ fJ vr cs x:=by
  intro cs
  induction cs with
  | nil=>intro x id ds h; simp [fJ] at h
  | cons c cs ih =>
   intro x id ds h
   rcases List.mem_append.1 h with h | h
   ·cases c <;> simp [jM] at h
   ·exact ih h
 intro ps
 induction ps with
 | nil=>intro x id ds h; simp [bC] at h
 | cons p ps ih =>
  intro x id ds h
  cases p with
  | slot t c =>
   rcases List.mem_append.1 h with h | h
   ·cases c <;> simp [jM] at h
   ·exact ih h
  | agg t τ=>exact ih (x:=x.2) h
  | cells t cs=>exact ih (x:=x.2) h
  | box i cs =>
   simp only [bC,List.cons_append,List.mem_cons,List.mem_append,Prod.mk.injEq] at h
   rcases h with h | h | h
   ·rw [h.1]; exact .head _
   ·exact absurd h hC
   ·exact .tail _ (ih h)
  | row i T e =>
   simp only [bC,List.mem_cons,Prod.mk.injEq] at h
   rcases h with h | h
   ·cases h.2
   ·exact ih h
  | mp i k v =>
   simp only [bC,List.mem_cons,Prod.mk.injEq] at h
   rcases h with h | h
   ·cases h.2
   ·exact ih h
  | rows i T e =>
   simp only [bC,List.mem_cons,Prod.mk.injEq] at h
   rcases h with h | h
   ·cases h.2
   ·exact ih h
  | tr e=>exact ih (x:=x.2) h
theorem BC:∀ {ps:List bg} {x:(aa ps).den} {id v:Nat} {T:TypeId} {e:Ty} {y:Sl e.den},(id,bu.row v T e y)∈bC vr ps x->id∈iX ps:=by
 have hC:∀ {cs:List eT} {x:(bM cs).den} {id v:Nat} {T:TypeId} {e:Ty} {y:Sl e.den},(id,bu.row v T e y)∈fJ vr cs x->id∈nk cs:=by
  intro cs
  induction cs with
  | nil=>intro x id v T e y h; simp [fJ] at h
  | cons c cs ih =>
   intro x id v T e y h
   rcases List.mem_append.1 h with h | h
   ·cases c with
    | rw i T1 e1 =>
     simp only [jM,List.mem_singleton,Prod.mk.injEq] at h
     rw [h.1]; exact .head _
    | _=>simp [jM] at h
   ·cases c with
    | rw i T1 e1=>exact .tail _ (ih h)
    | _=>exact ih h
 intro ps
 induction ps with
 | nil=>intro x id v T e y h; simp [bC] at h
 | cons p ps ih =>
  intro x id v T e y h
  cases p with
  | slot t c =>
   rcases List.mem_append.1 h with h | h
   ·cases c with
    | rw i T1 e1 =>
     simp only [jM,List.mem_singleton,Prod.mk.injEq] at h
     rw [h.1]; exact .head _
    | _=>simp [jM] at h
   ·exact List.mem_append_right _ (ih h)
  | agg t τ=>exact ih (x:=x.2) h
  | cells t cs=>exact ih (x:=x.2) h
  | box i cs =>
   simp only [bC,List.cons_append,List.mem_cons,List.mem_append,Prod.mk.injEq] at h
   rcases h with h | h | h
   ·cases h.2
   ·exact List.mem_append_left _ (hC h)
   ·exact List.mem_append_right _ (ih h)
  | row i T e =>
   simp only [bC,List.mem_cons,Prod.mk.injEq] at h
   rcases h with h | h
   ·rw [h.1]; exact .head _
   ·exact .tail _ (ih h)
  | mp i k v =>
   simp only [bC,List.mem_cons,Prod.mk.injEq] at h
   rcases h with h | h
   ·cases h.2
   ·exact ih h
  | rows i T e =>
   simp only [bC,List.mem_cons,Prod.mk.injEq] at h
   rcases h with h | h
   ·cases h.2
   ·exact ih h
  | tr e=>exact ih (x:=x.2) h
theorem DW:∀ {ps:List bg} {x:(aa ps).den} {id:Nat} {k v:Ty} {y:k.den->Option v.den},(id,bu.mp k v y)∈bC vr ps x->id∈nq ps:=by
 have hC:∀ {cs:List eT} {x:(bM cs).den} {id:Nat} {k v:Ty} {y:k.den->Option v.den},(id,bu.mp k v y) ∉ fJ vr cs x:=by
  intro cs
  induction cs with
  | nil=>intro x id k v y h; simp [fJ] at h
  | cons c cs ih =>
   intro x id k v y h
   rcases List.mem_append.1 h with h | h
   ·cases c <;> simp [jM] at h
   ·exact ih h
 intro ps
 induction ps with
 | nil=>intro x id k v y h; simp [bC] at h
 | cons p ps ih =>
  intro x id k v y h
  cases p with
  | slot t c =>
   rcases List.mem_append.1 h with h | h
   ·cases c <;> simp [jM] at h
   ·exact ih h
  | agg t τ=>exact ih (x:=x.2) h
  | cells t cs=>exact ih (x:=x.2) h
  | box i cs =>
   simp only [bC,List.cons_append,List.mem_cons,List.mem_append,Prod.mk.injEq] at h
   rcases h with h | h | h
   ·cases h.2
   ·exact absurd h hC
   ·exact ih h
  | row i T e =>
   simp only [bC,List.mem_cons,Prod.mk.injEq] at h
   rcases h with h | h
   ·cases h.2
   ·exact ih h
  | mp i T e =>
   simp only [bC,List.mem_cons,Prod.mk.injEq] at h
   rcases h with h | h
   ·rw [h.1]; exact .head _
   ·exact .tail _ (ih h)
  | rows i T e =>
   simp only [bC,List.mem_cons,Prod.mk.injEq] at h
   rcases h with h | h
   ·cases h.2
   ·exact .tail _ (ih h)
  | tr e=>exact ih (x:=x.2) h
theorem BD:∀ {ps:List bg} {x:(aa ps).den} {id:Nat} {v:Nat} {T:TypeId} {e:Ty} {y:Sl (Sl e.den)},(id,bu.rows v T e y)∈bC vr ps x->id∈nq ps:=by
 have hC:∀ {cs:List eT} {x:(bM cs).den} {id:Nat} {v:Nat} {T:TypeId} {e:Ty} {y:Sl (Sl e.den)},(id,bu.rows v T e y) ∉ fJ vr cs x:=by
  intro cs
  induction cs with
  | nil=>intro x id v T e y h; simp [fJ] at h
  | cons c cs ih =>
   intro x id v T e y h
   rcases List.mem_append.1 h with h | h
   ·cases c <;> simp [jM] at h
   ·exact ih h
 intro ps
 induction ps with
 | nil=>intro x id v T e y h; simp [bC] at h
 | cons p ps ih =>
  intro x id v T e y h
  cases p with
  | slot t c =>
   rcases List.mem_append.1 h with h | h
   ·cases c <;> simp [jM] at h
   ·exact ih h
  | agg t τ=>exact ih (x:=x.2) h
  | cells t cs=>exact ih (x:=x.2) h
  | box i cs =>
   simp only [bC,List.cons_append,List.mem_cons,List.mem_append,Prod.mk.injEq] at h
   rcases h with h | h | h
   ·cases h.2
   ·exact absurd h hC
   ·exact ih h
  | row i T e =>
   simp only [bC,List.mem_cons,Prod.mk.injEq] at h
   rcases h with h | h
   ·cases h.2
   ·exact ih h
  | mp i k e' =>
   simp only [bC,List.mem_cons,Prod.mk.injEq] at h
   rcases h with h | h
   ·cases h.2
   ·exact .tail _ (ih h)
  | rows i T' e' =>
   simp only [bC,List.mem_cons,Prod.mk.injEq] at h
   rcases h with h | h
   ·rw [h.1]; exact .head _
   ·exact .tail _ (ih h)
  | tr e'=>exact ih (x:=x.2) h
def seen (w:World) (H:Nat->bu) (ρ:fA) (b:Nat):Prop:=∃ id,Own w ρ id (H id) b
def cM (H:Nat->bu) (ρ:fA) (id:Nat):Option Nat:=match H id with
 | .box _=>ρ id
 | .row _ _ _ _=>ρ id
 | .mp _ _ _=>ρ id
 | .rows _ _ _ _=>ρ id
 | _=>none
theorem SR.enter (h:SR P N G s a w ρ S F) {lo:Nat} {l:Nat} (hl:l=G.l):SR P N (Gh.inner (seen w s.heap ρ) S w l lo (cM s.heap ρ)) { s with tr:=.none,bw:=[] } { a with defers:=[] } w ρ S (fun _=>False):=by
 subst hl
 have avQ:∀ id b,Own w ρ id (s.heap id) b->vn (Gh.inner (seen w s.heap ρ) S w G.l lo (cM s.heap ρ)) (fun _=>False) b:=fun id b h1=>⟨.inr ⟨id,h1⟩,fun q=>q⟩
 have EK:∀ id b,live (s.heap id)->ρ id=some b->vn (Gh.inner (seen w s.heap ρ) S w G.l lo (cM s.heap ρ)) (fun _=>False) b:=fun id b h1 h2=>avQ id b (.of h1 h2)
 refine ⟨h.size,trivial,h.env,fun id=>?_,h.inj,.refl h.bd,fun _ _ q=>.inl q,.refl _ _,cL _ _ _,fun _ q=>q.elim,fun _ _ q=>q,fun _ q=>q,fun _ _ _ _=>trivial,fun id b hb=>?_⟩
 ·have:=h.obj id
  cases ho:s.heap id with
  | none=>simp only [ho]; trivial
  | gone=>simp only [ho]; trivial
  | box ds =>
   rw [ho] at this
   obtain ⟨b,arr,T,q1,q2,q3⟩:=this
   simp only [ho]
   exact ⟨b,arr,T,q1,EK id b (by rw [ho]; trivial) q1,q3⟩
  | chain cur T k n =>
   rw [ho] at this
   simp only [ho]
   rcases this with ⟨q1,q2⟩ | ⟨b,q1,q2,q3⟩
   ·exact .inl ⟨q1,q2⟩
   ·exact .inr ⟨b,q1,EK id b (by rw [ho]; trivial) q1,q3⟩
  | row cur T e x =>
   rw [ho] at this
   simp only [ho]
   obtain ⟨q0,⟨q1,q2⟩ | ⟨b,arr,q1,q2,q3⟩⟩:=this
   ·exact ⟨q0,.inl ⟨q1,q2⟩⟩
   ·exact ⟨q0,.inr ⟨b,arr,q1,EK id b (by rw [ho]; trivial) q1,q3⟩⟩
  | mp k v m =>
   rw [ho] at this
   obtain ⟨b,es,c,q1,q2,q3⟩:=this
   simp only [ho]
   exact ⟨b,es,c,q1,EK id b (by rw [ho]; trivial) q1,q3⟩
  | rows cur T e d =>
   rw [ho] at this
   simp only [ho]
   obtain ⟨q0,b,arr,T',q1,q2,q3,q4,q5,q6,q7⟩:=this
   refine ⟨q0,b,arr,T',q1,EK id b (by rw [ho]; trivial) q1,q3,q4,q5,q6,fun i hi=>?_⟩
   obtain ⟨ad,cap,z1,z2⟩:=q7 i hi
   refine ⟨ad,cap,z1,z2.imp (fun x=>x) fun ⟨z0,b',gA,T'',z3,z4,z5,z6⟩=>⟨z0,b',gA,T'',z3,z4,avQ id b' ?_,z6⟩⟩
   rw [ho]
   exact .inr ⟨i,(d.g i).n - 1,cap,b,arr,T',q1,q3,by rw [<- z3,Nat.sub_add_cancel (by omega)]; exact z1⟩
 ·have hb:cM s.heap ρ id=some b:=hb
  unfold cM at hb
  show ρ id=some b/\gp (s.heap id)=false
  split at hb
  ·rename_i ho; rw [ho]; exact ⟨hb,rfl⟩
  ·rename_i ho; rw [ho]; exact ⟨hb,rfl⟩
  ·rename_i ho; rw [ho]; exact ⟨hb,rfl⟩
  ·rename_i ho; rw [ho]; exact ⟨hb,rfl⟩
  ·cases hb
end Go.Dm
namespace Go.Dm
open Go.RowKit
variable {P:Program} {N N':Nat} {G:Gh} {S S' S2:CS} {w w' w2:World} {s s2:St} {a a2:Act} {ρ ρ' ρ2:fA} {F F' F2:Nat->Prop} {heap heap' H' H2:Nat->bu} {Y:Value} {E:cg} {Γ:Ctx} {Fw:Fence} {r:Nat} {ops:Array Oper} {lo base:Nat} {bw:List fu} {vr DU:Nat->Nat}
def Gh.callee (G:Gh) (S:CS) (w:World) (heap:Nat->bu) (ρ:fA) (lo:Nat) (ps:List bg) (x:(aa ps).den):Gh:=
 Gh.inner (seen w (bR (bC (fun _=>0) ps x)) (iw G.ic heap ρ)) S w G.l lo (cM (bR (bC (fun _=>0) ps x)) (iw G.ic heap ρ))
theorem xM {ps:List bg} {x:(aa ps).den} (hw:Dq lo ps=true):(G.callee S w heap ρ lo ps x).Ok P:=by
 simp only [Dq,Bool.and_eq_true] at hw
 obtain ⟨⟨⟨⟨⟨⟨w1,w2⟩,w3⟩,w4⟩,w5⟩,w6⟩,w7⟩:=hw
 simp only [LD,Bool.and_eq_true,List.all_eq_true,Nat.blt_eq] at w4
 refine ri fun id b hb=>?_
 have key:∀ o,bR (bC (fun _=>0) ps x) id=o->o ≠ .none->(id,o)∈bC (fun _=>0) ps x:=fun o ho hn=>by subst ho; exact dG hn
 unfold cM at hb
 split at hb
 ·rename_i ho; exact w4.1.1 id (BB (key _ ho (by simp)))
 ·rename_i ho; exact w4.1.2 id (BC (key _ ho (by simp)))
 ·rename_i ho; exact w4.2 id (DW (key _ ho (by simp)))
 ·rename_i ho; exact w4.2 id (BD (key _ ho (by simp)))
 ·cases hb
theorem xN (hG:G.Ok P) (h:SR P N G s a w ρ S F) {ps:List bg} {x:(aa ps).den} (hw:Dq lo ps=true) {sv:St} {av:Act} (hv:SR P N' G sv av w ρ S F) (hvh:sv.heap=s.heap) (hx:rd G.lo sv ps=some x)
  {s':St} (q:SR P N' (G.callee S w s.heap ρ lo ps x) s' a2 w' ρ' S' F') (hd:s'.bw=[]) {y:(aa (aD ps)).den} (hy:rd lo s' (aD ps)=some y) (hs:cB ps x y=true) :
  ∃ Tc,SR P N G { s with heap:=cE s.heap (bC (cx s.heap) (aD ps) y) } a w' Tc S' F:=by
 have tg:=hw
 simp only [Dq,Bool.and_eq_true,Bool.not_eq_true'] at hw
 obtain ⟨⟨⟨⟨⟨⟨w1,w2⟩,w3⟩,w4⟩,w5⟩,w6⟩,w7⟩:=hw
 have w3:=gQ w3
 have BE:(G.callee S w s.heap ρ lo ps x).Ok P:=xM tg
 obtain ⟨n1,n2⟩:qW (cz ps)=true/\qW (cz (aD ps))=true:=by
  simp only [kU,Bool.and_eq_true] at w1 w2
  exact ⟨w1.1,w2.1⟩
 have hn1:((bC (fun _=>0) ps x).map (·.1)).Nodup:=by rw [fk]; exact ga n1
 have hn2:((bC (cx s.heap) (aD ps) y).map (·.1)).Nodup:=by rw [fk]; exact ga n2
 have h3:=qX BE q (vr:=cx s.heap) (t:=.none) w2 (by rw [hd]; rfl) (.inr (cL _ _ _)) (show rd (G.callee S w s.heap ρ lo ps x).lo s' (aD ps)=some y from hy)
 have Td:=hv.zw hG
 rw [hvh] at Td
 let D:Nat->Bool:=fun id=>((bC (cx s.heap) (aD ps) y).map (·.1)).any (Nat.beq id)
 have avR:∀ id,D id=true->∃ o,(id,o)∈bC (cx s.heap) (aD ps) y/\bR (bC (cx s.heap) (aD ps) y) id=o:=fun id hid=>by
  obtain ⟨p,hp,rfl⟩:=List.mem_map.1 (any_beq.1 hid)
  exact ⟨p.2,hp,gv hn2 p hp⟩
 have BF:=nt hv hx (vr:=fun _=>0)
 rw [hvh] at BF
 -- a named object of one that stays
 have cK:∀ id,D id=true->∃ o0 o,(id,o0)∈bC (fun _=>0) ps x/\bR (bC (fun _=>0) ps x) id=o0/\bR (bC (cx s.heap) (aD ps) y) id=o/\Fa (cx s.heap id) o0 o/\Wg G.lo s.heap id o0:=fun id hid=>by
  obtain ⟨o,ho,hf⟩:=avR id hid
  obtain ⟨o0,h1,h2⟩:=gD (DU:=fun _=>0) w7 hs _ ho
  exact ⟨o0,o,h1,gv hn1 _ h1,hf,h2,BF _ h1⟩
 have gK:∀ id,live (s.heap id)->gp (s.heap id)=false->VJ (s.heap id)=false->∃ b,ρ id=some b:=fun id hl hc hrr=>by
  have:=h.obj id
  cases ho:s.heap id with
  | none=>rw [ho] at hl; exact hl.elim
  | gone=>rw [ho] at hl; exact hl.elim
  | box ds=>rw [ho] at this; obtain ⟨b,_,_,hb,_⟩:=this; exact ⟨b,hb⟩
  | chain _ _ _ _=>rw [ho] at hc; cases hc
  | row cur T e x=>rw [ho] at hrr; cases hrr
  | mp k v m=>rw [ho] at this; obtain ⟨b,_,_,hb,_⟩:=this; exact ⟨b,hb⟩
  | rows _ T e d=>rw [ho] at this; obtain ⟨_,b,_,_,hb,_⟩:=this; exact ⟨b,hb⟩
 have qp:=h3.pins
 -- what is pinned has stayed in its block
 have PL:∀ id b,cM (bR (bC (fun _=>0) ps x)) (iw G.ic s.heap ρ) id=some b->iw (G.callee S w s.heap ρ lo ps x).ic s'.heap ρ' id=some b:=fun id b hb=>(qp id b hb).1
 have hK:∀ id,D id=true->Kept w w' ρ (iw (G.callee S w s.heap ρ lo ps x).ic s'.heap ρ') id (s.heap id) (bR (bC (cx s.heap) (aD ps) y) id):=fun id hid=>by
  obtain ⟨o0,o,h1,Wo,hf,Fb,hlk⟩:=cK id hid
  rw [hf]
  cases Fb with
  | box ds ds' =>
   obtain ⟨ds0,e⟩:=hlk
   obtain ⟨b,hb⟩:=gK id (by rw [e]; trivial) (by rw [e]; rfl) (by rw [e]; rfl)
   have:=PL id b (by unfold cM; rw [Wo]; exact (Td.r1 id (by rw [e]; simp)).trans hb)
   rw [e]
   exact .inr ⟨⟨_,rfl⟩,this.trans hb.symm⟩
  | row u T e a b hn =>
   rcases hlk with ⟨v0,e1⟩ | ⟨e1,e2,e3⟩
   case inr=>rw [e1]; trivial
   have hv:cx s.heap id=v0:=by unfold cx; rw [e1]
   have al5:iw (G.callee S w s.heap ρ lo ps x).ic s'.heap ρ' id=ρ id\/a.n=0/\ρ id=none:=by
    have IW:=h.obj id
    rw [e1] at IW
    cases hb:ρ id with
    | some bb=>exact .inl (PL id bb (by unfold cM; rw [Wo]; exact (Td.r1 id (by rw [e1]; simp)).trans hb))
    | none =>
     obtain ⟨_,⟨_,q⟩ | ⟨b1,_,q,_⟩⟩:=IW
     ·exact .inr ⟨q,rfl⟩
     ·rw [hb] at q; cases q
   rw [e1]
   exact .inr ⟨_,_,rfl,by omega,fun _=>⟨hn,al5⟩⟩
  | mp k e m m' =>
   have e1:s.heap id = .mp k e m:=hlk
   obtain ⟨bb,hb⟩:=gK id (by rw [e1]; trivial) (by rw [e1]; rfl) (by rw [e1]; rfl)
   have:=PL id bb (by unfold cM; rw [Wo]; exact (Td.r1 id (by rw [e1]; simp)).trans hb)
   rw [e1]
   exact .inr ⟨⟨_,rfl⟩,this.trans hb.symm⟩
  | rows u T e a b hn =>
   obtain ⟨v0,e1⟩:=hlk
   obtain ⟨bb,hb⟩:=gK id (by rw [e1]; trivial) (by rw [e1]; rfl) (by rw [e1]; rfl)
   have:=PL id bb (by unfold cM; rw [Wo]; exact (Td.r1 id (by rw [e1]; simp)).trans hb)
   have hv:cx s.heap id=v0:=by unfold cx; rw [e1]
   rw [e1]
   exact .inr ⟨_,_,rfl,by omega,hn,this.trans hb.symm,fun q=>by omega⟩
  | chain u T k n n' =>
   rcases hlk with ⟨v,e⟩ | ⟨e1,e2,e3⟩
   ·rw [e]
    have hv:cx s.heap id=v + 1:=by unfold cx; rw [e]
    exact ⟨cx s.heap id,n',rfl,by omega,fun q=>by omega⟩
   ·rw [e1]; trivial
 have iO:=h.back hG (D:=D) (s2:=wrV (cx s.heap) lo .none [] (aD ps) y) (M:=seen w (bR (bC (fun _=>0) ps x)) (iw G.ic s.heap ρ)) (lo:=lo) (ic:=cM (bR (bC (fun _=>0) ps x)) (iw G.ic s.heap ρ))
  (h3.of_eq rfl rfl rfl hd.symm) (fun b hb=>?_) (fun id hn=>?_) hK (fun id b hid hb=>?_)
 ·have Bh:cE s.heap (bC (cx s.heap) (aD ps) y)=eI D (wrV (cx s.heap) lo .none [] (aD ps) y).heap s.heap:=by
   funext i
   rw [xL hn2]
   rfl
  exact ⟨_,iO.of_eq rfl Bh rfl rfl⟩
 ·obtain ⟨id,hl⟩:=hb
  have l1:=Ws hG hv hx (vr:=fun _=>0) id b (by rw [hvh]; exact hl)
  rw [hvh] at l1
  refine ⟨id,?_,l1⟩
  have hne:bR (bC (fun _=>0) ps x) id ≠ .none:=fun e=>by rw [e] at hl; exact hl
  have hmem:id∈cz ps:=by rw [<- fk (bG:=fun _=>0) (x:=x)]; exact List.mem_map.2 ⟨_,dG hne,rfl⟩
  show ((bC (cx s.heap) (aD ps) y).map (·.1)).any (Nat.beq id)=true
  rw [fk]
  exact any_beq.2 (w3 ▸ hmem)
 ·have hn:bR (bC (cx s.heap) (aD ps) y) id ≠ .none:=hn
  exact any_beq.2 (List.mem_map.2 ⟨_,dG hn,rfl⟩)
 ·obtain ⟨p1,p2⟩:=h.pins id b hb
  obtain ⟨o0,o,h1,Wo,hf,Fb,hlk⟩:=cK id hid
  have aYu:∀ o',bR (bC (fun _=>0) ps x) id=o'->(∀ c T k n,o' ≠ .chain c T k n)->cM (bR (bC (fun _=>0) ps x)) (iw G.ic s.heap ρ) id=some b ->
    iw (G.callee S w s.heap ρ lo ps x).ic s'.heap ρ' id=some b/\gp (bR (bC (cx s.heap) (aD ps) y) id)=false:=fun o' _ _ hp=>qp id b hp
  have yD:∀ o,s.heap id=o->o ≠ .none->iw G.ic s.heap ρ id=some b:=fun o ho hn=>(Td.r1 id (by rw [ho]; exact hn)).trans p1
  cases Fb with
  | box ds ds' =>
   obtain ⟨ds0,e⟩:=hlk
   exact qp id b (by show cM _ _ id=some b; unfold cM; rw [Wo]; exact yD _ e (by simp))
  | row u T e a b hn =>
   rcases hlk with ⟨v0,e1⟩ | ⟨e1,e2,e3⟩
   ·exact qp id _ (by show cM _ _ id=some _; unfold cM; rw [Wo]; exact yD _ e1 (by simp))
   ·have:=hG.ic id _ hb; omega
  | rows u T e a b' hn=>obtain ⟨v0,e1⟩:=hlk; exact qp id _ (by show cM _ _ id=some _; unfold cM; rw [Wo]; exact yD _ e1 (by simp))
  | mp k e m m'=>exact qp id _ (by show cM _ _ id=some _; unfold cM; rw [Wo]; exact yD _ hlk (by simp))
  | chain u T k n n' =>
   rcases hlk with ⟨v,e⟩ | ⟨e1,e2,e3⟩
   ·rw [e] at p2; cases p2
   ·have:=hG.ic id b hb; omega
theorem LF (hm:P.follows .mixedOrders=true) (hΓ:Sound P Γ) (hE:fB P E.eq) (hK:dN P E.key) {f:FuncId} {fn:Func} {c:Code} (hf:P.funcs[f]? = some fn) (hb:fn.body=some c) {ls:List Loop}
    {τr:Ty} {ps:List bg} (hw:Dq lo ps=true) (hl:∀ G':Gh,G'.lo=lo->G'.iL->G'.Ok P->ff P fn.ntmps G' f Fence.wide 0 c ls)
    {run:(aa ps).den->Tree (GO τr (aD ps))} (hrun:∀ x,(∀ go,(run x).Has go->go ≠ .bad)->∀ go,(ur P E Γ fn ls lo τr ps x).Has go->(run x).Has go) :
    dP P f (Wu fn.ntmps τr ps run):=by
  intro N G s a w ρ S F hG h args us bJ hlen hargs hlo hall _
  unfold Wu at hall ⊢
  split at hall
  case h_2=>exact (hall .bad rfl rfl).elim
  rename_i x hn hx
  have hx:=PK hlo hx
  have tg:=hw
  simp only [Dq,Bool.and_eq_true,Bool.not_eq_true'] at hw
  obtain ⟨⟨⟨⟨⟨⟨w1,w2⟩,w3⟩,w4⟩,w5⟩,w6⟩,w7⟩:=hw
  have bT:∀ go,(run x).Has go->go ≠ .bad:=fun go PD e=>by
    subst e
    exact hall _ (Tree.dA (f:=GO.or s.heap) PD) rfl
  have sB:us.length<=fn.ntmps:=by rw [<- hlen]; exact Nat.le_of_ble_eq_true hn
  have hv:SR P fn.ntmps G ⟨fun t=>args.getD t .top,s.heap,s.tr,0,[]⟩ (kX fn.ntmps us) w ρ S F:=by
    refine ⟨kY sB,trivial,fun t=>?_,h.obj,h.inj,h.ext,h.new,h.same,h.tr,h.fb,h.f0,h.sub,h.fs,h.pins⟩
    rw [nu]
    by_cases ht:t < args.length
    · have e1:args.getD t .top=args[t]:=by simp [List.getD_eq_getElem?_getD,ht]
      have e2:us.getD t undef=us[t]'(by omega):=by simp [List.getD_eq_getElem?_getD,show t < us.length by omega]
      show RS P G.Y S w s.heap ρ (args.getD t .top) _
      rw [e1,e2]
      exact hargs t _ _ (List.getElem?_eq_getElem ht) (List.getElem?_eq_getElem _)
    · have e1:args.getD t .top = .top:=by simp [List.getD_eq_getElem?_getD,show args.length<=t by omega]
      show RS P G.Y S w s.heap ρ (args.getD t .top) _
      rw [e1]; trivial
  have h1:=qX hG hv (vr:=fun _=>0) (t:=s.tr) w1 rfl (.inr h.tr) hx
  have h2:SR P fn.ntmps (G.callee S w s.heap ρ lo ps x) (wr lo .none [] ps x) (kX fn.ntmps us) w (iw G.ic s.heap ρ) S (fun _=>False):=
    (h1.enter (lo:=lo) (l:=G.l) rfl).of_eq rfl rfl (fR w5) rfl
  have BE:(G.callee S w s.heap ρ lo ps x).Ok P:=xM tg
  have rj:Env P E Γ (G.callee S w s.heap ρ lo ps x) Fence.wide:=⟨hm,hΓ,hE,hK,BE,.wide,fun _=>rfl⟩
  have hR:=hrun x bT
  unfold ur at hR
  rw [hb] at hR
  simp only at hR
  refine (callsIn_wide (n:=0)).1 (fe hf hb trivial ?_)
  refine cN (cF (G:=G.callee S w s.heap ρ lo ps x) (K:=Wt P fn lo τr ps x) (ch:=Tree.any) (T:=fun t:Tree (GO τr (aD ps))=>∀ go,t.Has go->(run x).Has go) rj
    (fun a b q=>⟨fun go hg=>q go (.inl hg),fun go hg=>q go (.inr hg)⟩) ⟨fun q=>bT _ (q .bad rfl) rfl,fun s' q=>(bT _ (q .bad rfl) rfl).elim⟩ hR (hl _ rfl cL BE) ⟨_,_,_,h2⟩) ?_
  rintro e a' w' ⟨o,ho,hT⟩
  have fin:∀ s',SX P fn.ntmps (G.callee S w s.heap ρ lo ps x) s' a' w'->(∀ go,(Wt P fn lo τr ps x (.ret s')).Has go->(run x).Has go) ->
      LeavesInM Fence.wide 0 P fn a'.tmps (fun e w'=>∃ r,((run x).map (GO.or s.heap)).Has r/\vB P N G s a r e w') a'.defers .returning w':=by
    intro s' hs' hT
    simp only [Wt] at hT
    split at hT
    case h_2=>exact (bT _ (hT .bad rfl) rfl).elim
    rename_i r y hmk Te hrd
    split at hT
    case h_2=>exact (bT _ (hT .bad rfl) rfl).elim
    rename_i hsm
    have PD:=hT _ rfl
    obtain ⟨ρ',S',F',hs⟩:=hs'.dO BE (sE fn.results.toList)
    refine eE BE (by simp) _ rfl (by rw [gS]; exact hmk) hs fun w'' q1 _=>?_
    obtain ⟨us',r1,r2⟩:=jC (s:={ vS fn s' with bw:=[] }) (fn:=fn) (τ:=τr) (y:=r) q1 ((nv ..).trans Te)
    obtain ⟨Tc,hb⟩:=xN hG h tg hv rfl hx (s':={ vS fn s' with bw:=[] }) q1 rfl ((LC _ _).trans hrd) hsm
    exact ⟨_,r1,_,Tree.dA (f:=GO.or s.heap) PD,pack us',Tc,S',F,rfl,hb.of_eq rfl rfl rfl rfl,AX r2⟩
  cases o with
  | norm s'=>cases e <;> first | exact ho.elim | exact fin s' ho hT
  | ret s'=>cases e <;> first | exact ho.elim | exact fin s' ho hT
  | exit id s'=>exact (bT _ (hT .bad rfl) rfl).elim
  | bad=>exact (bT _ (hT .bad rfl) rfl).elim
  | bP d s' =>
    cases e <;> try exact ho.elim
    cases d with
    | zg T τ d =>
      simp only [Wt] at hT
      split at hT
      case h_2=>exact (bT _ (hT .bad rfl) rfl).elim
      rename_i y hmk hrd
      split at hT
      case h_2=>exact (bT _ (hT .bad rfl) rfl).elim
      rename_i hsm
      have PD:=hT _ rfl
      obtain ⟨u,ρ',S',F',kG,hs,hu⟩:=ho
      subst kG
      obtain ⟨u0,hu1,hu2⟩:=hu
      refine eE BE (by simp) _ rfl hmk hs fun w'' q1 q2=>?_
      obtain ⟨Tc,hb⟩:=xN hG h tg hv rfl hx (s':={ s' with bw:=[] }) q1 rfl ((LC _ _).trans hrd) hsm
      exact ⟨_,Tree.dA (f:=GO.or s.heap) PD,_,rfl,u,Tc,S',F,rfl,hb.of_eq rfl rfl rfl rfl,u0,hu1,q2 _ _ _ hu2⟩
    | _=>exact (bT _ (hT .bad rfl) rfl).elim
end Go.Dm
namespace Go.Dm
open Go.RowKit
variable {P:Program} {N N':Nat} {G:Gh} {S S' S2:CS} {w w' w2:World} {s s2:St} {a a2:Act} {ρ ρ' ρ2:fA} {F F' F2:Nat->Prop} {heap heap' H' H2:Nat->bu} {Y:Value} {E:cg} {Γ:Ctx} {Fw:Fence} {r:Nat} {ops:Array Oper} {lo base:Nat} {bw:List fu} {vr DU:Nat->Nat}
end Go.Dm
namespace Go.Dm
open Go.RowKit
variable {P:Program} {N N':Nat} {G:Gh} {S S' S2:CS} {w w' w2:World} {s s2:St} {a a2:Act} {ρ ρ' ρ2:fA} {F F' F2:Nat->Prop} {heap heap' H' H2:Nat->bu} {Y:Value} {E:cg} {Γ:Ctx} {Fw:Fence} {r:Nat} {ops:Array Oper} {lo base:Nat} {bw:List fu} {vr DU:Nat->Nat}
inductive GY (e τr:Ty) (qs:List bg) where
 | ok (r:τr.den) (z:Sl e.den) (y:(aa qs).den)
 | stop (r:τr.den) (z:Sl e.den)
 | bD (z:Sl e.den)
 | bad
inductive GY.le {e τr:Ty} {qs:List bg}:GY e τr qs->GY e τr qs->Prop
 | refl {o:GY e τr qs} (h:o ≠ .bad):GY.le o o
 | stop {r:τr.den} {x y:Sl e.den} (h:x.list <+: y.list):GY.le (.stop r x) (.stop r y)
 | bD {x y:Sl e.den} (h:x.list <+: y.list):GY.le (.bD x) (.bD y)
def adI {e τr:Ty} {qs:List bg} (t:Tree (GY e τr qs)) (o:GY e τr qs):Prop:=∃ o',t.Has o'/\GY.le o o'
def GY.or {e τr:Ty} {qs:List bg} (heap:Nat->bu):GY e τr qs->OR
 | .ok r z y=>.ok ⟨some (jk τr r),bC (cx heap) qs y,cz qs,false,some ⟨e,true,z⟩⟩
 | .stop r z=>.ok ⟨some (jk τr r),(cz qs).map fun i=>(i,bu.gone),cz qs,false,some ⟨e,false,z⟩⟩
 | .bD z=>.bP .jI ⟨none,[],[],false,some ⟨e,false,z⟩⟩
 | .bad=>.bad
end Go.Dm
namespace Go.Dm
open Go.RowKit
variable {P:Program} {N N':Nat} {G:Gh} {S S' S2:CS} {w w' w2:World} {s s2:St} {a a2:Act} {ρ ρ' ρ2:fA} {F F' F2:Nat->Prop} {heap heap' H' H2:Nat->bu} {Y:Value} {E:cg} {Γ:Ctx} {Fw:Fence} {r:Nat} {ops:Array Oper} {lo base:Nat} {bw:List fu} {vr DU:Nat->Nat} {n:Nat}
def LG (P:Program) (l:Nat) (R:Ending->World->Prop):Exit->Act->World->Prop
 | .normal,_,w=>∃ v w',(Instr.endRound l none).run P w = .ok v w'/\R (.returned v) w'
 | .ret,_,w=>∃ v w',(Instr.endRound l (some .ret)).run P w = .ok v w'/\R (.returned v) w'
 | .exit id,_,w=>∃ v w',(Instr.endRound l (some (.exit id))).run P w = .ok v w'/\R (.returned v) w'
 | .panic chain,a,w=>a.defers=[]/\R (.panicked chain) w
 | _,_,_=>False
def Wv (c:Dc) (x:c.fst.den) (y:c.cap.den):St:=
 ⟨fun t=>(cW c.fst x ++ .v .jI :: cW c.cap y).getD t .top,fun _=>.none,⟨c.e,true,⟨0,fun _=>c.e.dflt⟩⟩,0,[]⟩
inductive Tf where
 | full (t:Tr)
 | stop (t:Tr)
 | bD (t:Tr)
 | bad
def IX:Out->Tf
 | .ret s | .norm s=>match fS s.bw with
  | true=>match s.tr.live with
   | true=>.full s.tr
   | false=>.stop s.tr
  | false=>.bad
 | .bP .jI s=>match s.bw with
  | []=>.bD s.tr
  | _=>.bad
 | _=>.bad
def Tf.Ok (e:Ty) (items:Sl e.den):Tf->Prop
 | .full t=>∃ x:Sl e.den,t=⟨e,true,x⟩/\x.list=items.list
 | .stop t=>∃ x:Sl e.den,t=⟨e,false,x⟩/\x.list <+: items.list
 | .bD t=>∃ x:Sl e.den,t=⟨e,false,x⟩/\x.list <+: items.list
 | .bad=>False
def Tg (P:Program) (E:cg) (Γ:Ctx) (fn:Func) (ls:List Loop) (c:Dc) (x:c.fst.den) (y:c.cap.den):Tree Tf:=
 match fn.body with
 | some b=>fQ P E Γ 0 fn.ntmps .any b ls (Wv c x y) fun o=>.leaf (IX o)
 | none=>.leaf .bad
def Gh.iter (S:CS) (w:World) (F:Nat->Prop) (e:Ty) (C:Cons e.den) (items:List e.den) (l:Nat):Gh:=⟨fun _=>False,F,S,w,e,C,items,l,S,0,fun _=>none⟩
def Ty.isL:Ty->Bool
 | .nil=>true
 | .cons _ t=>t.isL
 | _=>false
theorem oo:∀ {τ:Ty} {x:τ.den},τ.isL=true->(cW τ x).length=τ.cells
 | .nil,_,_=>rfl
 | .cons h t,x,hl=>by simp [cW,Ty.cells,oo (τ:=t) (x:=x.2) hl]
theorem Ww (c:Dc) (h1:c.fst.isL=true) {x:c.fst.den} {y:c.cap.den} {us vs:List Value} (hx:R P c.fst S w x us) (hy:R P c.cap S w y vs) (t:Nat) :
  RS P Y S w heap ρ ((cW c.fst x ++ .v .jI :: cW c.cap y).getD t .top) ((us ++ Y :: vs).getD t undef):=by
 have hl:(cW c.fst x).length=us.length:=by rw [oo h1,hx.len]
 by_cases ht:t < us.length
 ·have e1:(cW c.fst x ++ Slot.v .jI :: cW c.cap y).getD t .top=(cW c.fst x).getD t .top:=by
   simp only [List.getD_eq_getElem?_getD]; rw [List.getElem?_append_left (by omega)]
  have e2:(us ++ Y :: vs).getD t undef=us.getD t undef:=by
   simp only [List.getD_eq_getElem?_getD]; rw [List.getElem?_append_left ht]
  rw [e1,e2]
  exact gR hx t
 ·obtain ⟨k,rfl⟩:∃ k,t=us.length + k:=⟨t - us.length,by omega⟩
  have e1:(cW c.fst x ++ Slot.v .jI :: cW c.cap y).getD (us.length + k) .top=(Slot.v .jI :: cW c.cap y).getD k .top:=by
   simp only [List.getD_eq_getElem?_getD]; rw [List.getElem?_append_right (by omega),hl]; congr 2; omega
  have e2:(us ++ Y :: vs).getD (us.length + k) undef=(Y :: vs).getD k undef:=by
   simp only [List.getD_eq_getElem?_getD]; rw [List.getElem?_append_right (by omega)]; congr 2; omega
  rw [e1,e2]
  cases k with
  | zero=>rfl
  | succ k=>exact gR hy k
theorem jn (hm:P.follows .mixedOrders=true) (hΓ:Sound P Γ) (hE:fB P E.eq) (hK:dN P E.key) {f:FuncId} {fn:Func} {b:Code} (hf:P.funcs[f]? = some fn) (hb:fn.body=some b) {ls:List Loop}
    (c:Dc) (h1:c.fst.isL=true) (h2:c.cap.isL=true) (hn:c.fst.cells + 1 + c.cap.cells<=fn.ntmps) (hres:fn.results = #[]) (hl:∀ G':Gh,G'.lo=0->G'.Ok P->G'.e=c.e->ff P fn.ntmps G' f Fence.wide 0 b ls)
    (h:∀ x y,c.pre x y=true->(Tg P E Γ fn ls c x y).gJ (Tf.Ok c.e (c.items x y))):xz P f c:=by
  intro S w hbd x y us vs hp hx hy C hC F l hJ hF hY
  have hT:=h x y hp
  unfold Tg at hT
  rw [hb] at hT
  simp only at hT
  have al7:(Gh.iter S w F c.e C (c.items x y).list l).Ok P:=⟨hC,hY,fun _ _ q=>by cases q⟩
  have rj:Env P E Γ (Gh.iter S w F c.e C (c.items x y).list l) Fence.wide:=⟨hm,hΓ,hE,hK,al7,.wide,fun _=>rfl⟩
  have hlen:(us ++ (.func (.yield l) #[] #[]) :: vs).length<=fn.ntmps:=by
    have e1:=hx.len; have e2:=hy.len
    simp only [List.length_append,List.length_cons]; omega
  have h0:SR P fn.ntmps (Gh.iter S w F c.e C (c.items x y).list l) (Wv c x y) (kX fn.ntmps (us ++ (.func (.yield l) #[] #[]) :: vs)) w (fun _=>none) S F:=by
    refine ⟨kY hlen,trivial,fun t=>?_,fun id=>trivial,fun i j b hi=>hi.elim,.refl hbd,fun _ _ q=>.inl q,.refl _ _,⟨true,_,rfl,hJ⟩,fun b hb=>(hF b).1 hb,fun _ _ q=>q,fun _ q=>q,fun b o hS _=>hS,fun _ _ q=>by cases q⟩
    rw [nu]
    exact Ww c h1 hx hy t
  have hargs:us.toArray ++ #[.func (.yield l) #[] #[]] ++ vs.toArray=(us ++ (.func (.yield l) #[] #[]) :: vs).toArray:=by apply Array.ext'; simp
  rw [hargs]
  refine (callsIn_wide (n:=0)).1 (fe hf hb trivial ?_)
  refine cN (cF (G:=Gh.iter S w F c.e C (c.items x y).list l) (K:=fun o=>.leaf (IX o)) (ch:=Tree.any) (T:=fun t:Tree Tf=>t.gJ (Tf.Ok c.e (c.items x y))) rj (fun a b q=>q) ⟨fun q=>q.elim,fun s' q z hz=>by
    have q:(IX (.bP .jI s')).Ok c.e (c.items x y):=q
    simp only [IX] at q
    split at q
    case h_2=>exact q.elim
    obtain ⟨x',hx',yx⟩:=q
    have hz:s'.tr=⟨c.e,false,z⟩:=hz
    rw [hz] at hx'
    cases hx'
    exact yx⟩ hT (hl _ rfl al7 rfl) ⟨_,_,_,h0⟩) ?_
  rintro e a' w' ⟨o,ho,hT⟩
  have aiK:∀ {F':Nat->Prop} {w':World},(∀ b,F' b->b < w'.heap.size)->(∀ b,b < w.heap.size->F' b->F b)->(∀ b,F b->F' b)->xm F w F' w':=fun q1 q2 q3 =>
    ⟨q3,fun b q=>by
      by_cases hb:b < w.heap.size
      · exact .inl (q2 b hb q)
      · exact .inr (by omega),q1⟩
  have fin:∀ s',SX P fn.ntmps (Gh.iter S w F c.e C (c.items x y).list l) s' a' w'->(IX (.ret s')).Ok c.e (c.items x y) ->
      LeavesInM Fence.wide 0 P fn a'.tmps (fun e w'=>∃ F' S',xm F w F' w'/\xl S w w' /\
      ((e = .returned (.tuple #[])/\(C.J (c.items x y).list F' S' w'\/∃ l',l' <+: (c.items x y).list/\C.JS l' F' S' w'))\/∃ l' ch,l' <+: (c.items x y).list/\e = .panicked ch/\C.JP l' ch F' S' w')) a'.defers .returning w':=by
    intro s' ⟨ρ',S',F',hs⟩ hT
    simp only [IX] at hT
    split at hT
    case h_2=>exact hT.elim
    rename_i hmk
    refine eE al7 (by simp) _ rfl hmk hs fun w'' q1 _=>?_
    have hr0:(results fn a'.tmps).run P w'' = .ok (.tuple #[]) w'':=by
      obtain ⟨us',r1,r2⟩:=jC (fn:=fn) (τ:=.nil) (y:=()) q1 (by rw [hres]; rfl)
      rw [show us'=[] from r2] at r1; exact r1
    refine ⟨_,hr0,F',S',aiK q1.fb q1.f0 q1.sub,q1.ext.kps,.inl ⟨rfl,?_⟩⟩
    obtain ⟨lv,z,hz,hJ⟩:=q1.tr
    have hz:s'.tr=⟨c.e,lv,z⟩:=hz
    split at hT
    · obtain ⟨x',hx',yx⟩:=hT
      rw [hz] at hx'
      cases hx'
      exact .inl (by rw [<- yx]; exact hJ)
    · obtain ⟨x',hx',yx⟩:=hT
      rw [hz] at hx'
      cases hx'
      obtain ⟨l',g1,g2⟩:=hJ
      exact .inr ⟨l',g1.trans yx,g2⟩
  cases o with
  | norm s'=>cases e <;> first | exact ho.elim | exact fin s' ho hT
  | ret s'=>cases e <;> first | exact ho.elim | exact fin s' ho hT
  | exit id s'=>exact hT.elim
  | bad=>exact hT.elim
  | bP d s' =>
    cases e <;> try exact ho.elim
    rename_i ch
    cases d with
    | jI =>
      have hT:(IX (.bP .jI s')).Ok c.e (c.items x y):=hT
      simp only [IX] at hT
      split at hT
      case h_2=>exact hT.elim
      rename_i hmk
      obtain ⟨F',S',z,l',hz,g1,g2,hfw,hd⟩:=ho
      obtain ⟨x',hx',yx⟩:=hT
      have hz:s'.tr=⟨c.e,false,z⟩:=hz
      rw [hz] at hx'
      cases hx'
      have hd:=hd hmk
      show LeavesInM _ _ _ _ _ _ a'.defers (.panicking ch) w'
      rw [hd]
      exact ⟨F',S',aiK hfw.fb hfw.f0 hfw.sub,hfw.kps,.inr ⟨l',ch,g1.trans yx,rfl,g2⟩⟩
    | _=>exact hT.elim
end Go.Dm
namespace Go.Dm
open Go.RowKit
variable {P:Program} {N N':Nat} {G:Gh} {S S' S2:CS} {w w' w2:World} {s s2:St} {a a2:Act} {ρ ρ' ρ2:fA} {F F' F2:Nat->Prop} {heap heap' H' H2:Nat->bu} {Y:Value} {E:cg} {Γ:Ctx} {Fw:Fence} {r:Nat} {ops:Array Oper} {lo base:Nat} {bw:List fu} {vr DU:Nat->Nat} {n:Nat} {fid:FuncId}
theorem Dr {g:Operand} {ps:Array Tmp} {assign body:Code} {Q:Exit->Act->World->Prop} {a:Act} {w:World}
    (h:∃ (l:Nat) (mark:List Deferred) (w₁:World) (d:Deferred) (w₁':World) (f:FuncId) (args:Array Value) (w₂:World),
      (Instr.enterLoop fid a.tmps ps assign body Fw.round).run P w = .ok (l,mark) w₁ /\
      (resolve a.eval (rangeCall g l) 0).run P w₁ = .ok d w₁' /\
      (∀ f',Target.leads P w₁' d.target d.args=some f'->Fw.fn f') /\
      (invoke d.target d.args).run P w₁' = .ok (.enter f args) w₂ /\
      (Fw.depth.isSome=true->1<=n) /\
      CallsIn Fw (n - 1) P f args w₂ (rangePost Fw n P l Q { a with defers:=mark ++ a.defers })) :
    yJ fid Fw n P (.rangeFunc g ps assign body) Q a w:=by
  intro b k cs hbf hro hb hr
  obtain ⟨l,mark,w₁,d,w₁',f,args,w₂,he,hres,avT,hinv,hn,hF,avU⟩:=h
  rw [<- hro,<- hbf] at he
  have h0:(lone (b.atR a (.code (.rangeFunc g ps assign body) :: k)) cs w).fenced P Fw:=by
    refine fenced_lone (.inl hb) (fun f' hf'=>avT f' ?_) (Fence.room_le hr (by omega))
    have hev:=Frame.eval_atR b a (.code (.rangeFunc g ps assign body) :: k)
    simp only [Frame.atR] at hev
    simp only [Frame.about,Frame.atR,he,hev,hres] at hf'
    exact hf'
  have um:=stepR_rangeFunc (P:=P) (b:=b) (a:=a) (k:=k) (cs:=cs) (w:=w) he hres hinv
  have hroom:Fw.room ((b.atR { a with defers:=mark ++ a.defers } (.inRangeFunc l :: k) :: cs).length + 1 + (n - 1)):=Fence.room_enter hr hn
  obtain ⟨e,w₃,fr,hR,LH,hfn,Fc⟩:=avU (b.atR { a with defers:=mark ++ a.defers } (.inRangeFunc l :: k) :: cs) hroom
  cases e with
  | outgrown =>
    obtain ⟨a₀,w₀,hq⟩:=hR
    exact ⟨.outgrown,a₀,w₀,hq,.inr (Outgrown.of_steps (.one um) LH)⟩
  | returned v =>
    have hl:(lone fr (b.atR { a with defers:=mark ++ a.defers } (.inRangeFunc l :: k) :: cs) w₃).fenced P Fw:=fenced_leaving (hfn ▸ hF) hroom Fc
    obtain ⟨jump,w₄,hend,hj⟩:=hR
    have aiL:StepsIn (Machine.fenced P Fw) P (lone (b.atR a (.code (.rangeFunc g ps assign body) :: k)) cs w) (lone (b.atR { a with defers:=mark ++ a.defers } ((jump.map Item.code).toList ++ k)) cs w₄):=by
      refine .head h0 um (StepsIn.trans LH (.head hl ?_ (.one (fenced_calm (fr:=b.atR { a with defers:=mark ++ a.defers } (.endRangeFunc l :: k)) hb hr rfl) (stepR_endRangeFunc hend))))
      rw [<- finish_atR_inRangeFunc l v]; exact step_leave_returned Fc
    cases jump with
    | none=>exact ⟨.normal,_,w₄,hj,aiL⟩
    | some c =>
      obtain ⟨e',a'',w₅,hq,cS⟩:=hj b k cs hro hb hr
      exact ⟨e',a'',w₅,hq,.of_steps aiL cS⟩
  | panicked chain =>
    have hl:(lone fr (b.atR { a with defers:=mark ++ a.defers } (.inRangeFunc l :: k) :: cs) w₃).fenced P Fw:=fenced_leaving (hfn ▸ hF) hroom Fc
    refine ⟨.panic chain,_,w₃,hR,.inRangeFunc l :: k,.head h0 um (StepsIn.trans LH (.one hl ?_))⟩
    rw [<- Frame.raise_atR]; exact step_leave_panicked Fc
theorem BG (hW:gI Fw) {l:Nat} {fd:Func} (hfd:P.funcs[fid]? = some fd) {tmps:Array Value} {assign body:Code} {w:World} {R:Ending->World->Prop}
    (h:yJ fid (Fw.inRound l) n P assign (Exit.then (fun a₁ w₁=>∃ w₂,(Instr.beginRound l).run P w₁ = .ok () w₂/\yJ fid (Fw.inRound l) n P body (LG P l R) a₁ w₂) (fun _ _ _=>False))
      { tmps:=tmps,defers:=[] } w) :
    RoundIn Fw n P l fid tmps assign body w R:=by
  have hF:Fw.fn fid:=hW.fn fid
  refine ⟨hF,fun c cs hr=>?_⟩
  let b:Frame:={ (default:Frame) with fn:=fid,kind:=.normal,roundOf:=some l }
  have hb0:Frame.round l fid tmps assign body .normal=b.atR { tmps:=tmps,defers:=[] } [.code assign,.beginRound,.code body]:=by
    simp [Frame.round,Frame.atR,b]
  have hr':(Fw.inRound l).room ((c :: cs).length + 1 + n):=hr
  have hF':(Fw.inRound l).fn b.fn:=hF
  obtain ⟨e,a₁,w₁,hq,cS⟩:=h b [.beginRound,.code body] (c :: cs) rfl rfl hF' hr'
  rw [<- hb0] at cS
  cases e with
  | normal =>
    obtain ⟨w₂,hbr,hbody⟩:=hq
    have s1:StepsIn (Machine.fenced P (Fw.inRound l)) P (lone (b.atR a₁ [.beginRound,.code body]) (c :: cs) w₁) (lone (b.atR a₁ [.code body]) (c :: cs) w₂):=
      .one ((hW.inRound l).fenced _) (stepR_beginRound rfl hbr)
    obtain ⟨e₂,a₂,w₃,Vn,th⟩:=hbody b [] (c :: cs) rfl rfl hF' hr'
    cases e₂ with
    | normal =>
      obtain ⟨v,w₄,hend,hR⟩:=Vn
      exact ⟨.returned v,w₄,hR,(StepsIn.trans cS s1).trans (StepsIn.trans th (.one ((hW.inRound l).fenced _) (stepR_round_end rfl rfl hend)))⟩
    | ret =>
      obtain ⟨v,w₄,hend,hR⟩:=Vn
      obtain ⟨k₁,hs⟩:=th.2 rfl
      exact ⟨.returned v,w₄,hR,(StepsIn.trans cS s1).trans (StepsIn.trans hs (.one ((hW.inRound l).fenced _) (stepR_round_ret rfl rfl hend)))⟩
    | exit id =>
      obtain ⟨v,w₄,hend,hR⟩:=Vn
      obtain ⟨k₁,hk,hs⟩:=th.2 rfl rfl
      exact ⟨.returned v,w₄,hR,(StepsIn.trans cS s1).trans (StepsIn.trans hs (.one ((hW.inRound l).fenced _) (stepR_round_exit rfl rfl hk hend)))⟩
    | goto t=>exact Vn.elim
    | panic chain =>
      obtain ⟨hd,hR⟩:=Vn
      obtain ⟨todo,hs⟩:=th
      refine ⟨.panicked chain,w₃,hR,(StepsIn.trans cS s1).trans (StepsIn.trans hs (.one ((hW.inRound l).fenced _) (step_leave_panicked ⟨rfl,hd,fd,hfd⟩)))⟩
    | outgrown=>exact Vn.elim
  | exit id=>exact hq.elim
  | goto t=>exact hq.elim
  | ret=>exact hq.elim
  | panic chain=>exact hq.elim
  | outgrown=>exact hq.elim
theorem SR.more (hG:G.Ok P) (h:SR P N G s a w ρ S F) (hbd:Bd S' w) (hnew:∀ b o,S' b o->S b o\/(G.w0.heap.size<=b/\¬ F b/\∀ id,¬ Own w ρ id (s.heap id) b)) :
  SR P N G s a w ρ (fun b o=>S b o\/S' b o) F:=by
 have ex:Ext0 S w (fun b o=>S b o\/S' b o) w:=⟨Nat.le_refl _,fun _ _ q=>.inl q,fun _ _ _=>rfl,fun _ _ _ _ _ q=>q,fun b o q=>q.elim (h.bd b o) (hbd b o),.refl w⟩
 have hk:∀ id,Kept w w ρ ρ id (s.heap id) (s.heap id):=fun id=>.refl rfl fun _ _ _=>rfl
 refine ⟨h.size,h.bw,fun t=>(h.env t).tr ex hk,fun id=>(h.obj id).tr ex hk rfl fun b hb=>⟨rfl,fun i q=>?_,fun x=>x⟩,h.inj,h.ext.trans ex,fun b o q=>?_,h.same,h.tr.tr hG.c h.fb (.refl _ _) ex,h.fb,h.f0,h.sub,fun b o q x=>?_,h.pins⟩
 ·rcases q with q | q
  ·exact q
  ·rcases hnew b i q with q | ⟨_,_,q⟩
   ·exact q
   ·exact absurd hb (q id)
 ·rcases q with q | q
  ·exact h.new b o q
  ·rcases hnew b o q with q | ⟨q,_⟩
   ·exact h.new b o q
   ·exact .inr (.inl q)
 ·rcases q with q | q
  ·exact h.fs b o q x
  ·rcases hnew b o q with q | ⟨_,q,_⟩
   ·exact h.fs b o q x
   ·exact absurd x q
theorem SR.vT (h:SR P N G s a w ρ S F) {id b:Nat} (ho':Own w ρ id (s.heap id) b):(∃ c T f,w.heap[b]? = some (.cells c T f))\/∃ es c,w.heap[b]? = some (.map es c):=by
 have hl:=ho'.lv
 have hb:(∀ T e d cur,s.heap id ≠ .rows cur T e d)->ρ id=some b:=fun q=>by
  cases ho:s.heap id <;> rw [ho] at ho' <;> first | exact ho' | exact ho'.elim | exact absurd ho (q _ _ _ _)
 have:=h.obj id
 cases ho:s.heap id with
 | none=>rw [ho] at hl; exact hl.elim
 | gone=>rw [ho] at hl; exact hl.elim
 | box ds =>
  have hb:=hb (by rw [ho]; simp)
  rw [ho] at this
  obtain ⟨b',arr,T,h1,h2,h3,_⟩:=this
  rw [hb] at h1; cases h1
  exact .inl ⟨_,_,_,h3⟩
 | chain cur T k n =>
  have hb:=hb (by rw [ho]; simp)
  rw [ho] at this
  rcases this with ⟨h1,_⟩ | ⟨b',h1,h2,h3,h4,_⟩
  ·rw [hb] at h1; cases h1
  ·rw [hb] at h1; cases h1; exact .inl h4
 | row cur T e s' =>
  have hb:=hb (by rw [ho]; simp)
  rw [ho] at this
  obtain ⟨_,⟨h1,_⟩ | ⟨b',arr,h1,h2,h3,_⟩⟩:=this
  ·rw [hb] at h1; cases h1
  rw [hb] at h1; cases h1
  exact .inl ⟨_,_,_,h3⟩
 | mp k v m =>
  have hb:=hb (by rw [ho]; simp)
  rw [ho] at this
  obtain ⟨b',es,c,h1,h2,h3,_⟩:=this
  rw [hb] at h1; cases h1
  exact .inr ⟨_,_,h3⟩
 | rows cur T e d =>
  rw [ho] at this ho'
  obtain ⟨h1,b0,arr,T',h2,h3,h4,h5,h6,h7,h8⟩:=this
  rcases ho' with q | ⟨i,n,cap,b1,KZ,T1,q1,q2,q3⟩
  ·rw [h2] at q; cases q
   exact .inl ⟨_,_,_,h4⟩
  ·rw [h2] at q1; cases q1
   rw [h4] at q2; cases q2
   have hi:i < d.n:=by rw [<- h5]; exact (Array.getElem?_eq_some_iff.1 q3).1
   obtain ⟨ad,cap',r1,r2⟩:=h8 i hi
   rw [q3] at r1
   simp only [Option.some.injEq,Value.slice.injEq] at r1
   obtain ⟨r1,r3,r4⟩:=r1
   rcases r2 with r2 | ⟨_,b',gA,T'',s1,s2,s3,s4,_⟩
   ·omega
   ·rw [<- r1] at s1; cases s1
    exact .inl ⟨_,_,_,s4⟩
def oq (o:Option Obj):Prop:=∃ r,o=some (.loop r)
theorem xO {w:World} {l:Nat} {r':Go.Loop} (hl:oq w.heap[l]?) (b o:Nat):(w.putObj l (.loop r')).cell? ⟨b,o,none⟩=w.cell? ⟨b,o,none⟩:=by
 obtain ⟨r,hr⟩:=hl
 have hlt:=(Array.getElem?_eq_some_iff.1 hr).1
 by_cases hb:b=l
 ·subst hb
  have h2:(w.putObj b (.loop r')).heap[b]? = some (.loop r'):=World.putObj_heap_same hlt
  simp [World.cell?,h2,hr]
 ·exact World.cell?_of_block (a:=⟨b,o,none⟩) (World.putObj_heap_other hb)
theorem jE {w:World} {l:Nat} {r':Go.Loop} (hl:oq w.heap[l]?):xl S w (w.putObj l (.loop r')):=
 ⟨fun b o _=>xO hl b o,fun b o es c _ q=>by
  obtain ⟨r,hr⟩:=hl
  exact (World.putObj_heap_other fun e=>by rw [e,hr] at q; cases q).trans q,by
  obtain ⟨r,hr⟩:=hl
  exact .putObj (Array.getElem?_eq_some_iff.1 hr).1 (fun _ _ _=>by simp)⟩
theorem xP {w:World} {l:Nat} {r':Go.Loop} {D:Nat->Prop} (hD:¬ D l):dX D w (w.putObj l (.loop r')):=
 ⟨rfl,rfl,rfl,by simp,fun k hk=>World.putObj_heap_other fun e=>hD (e ▸ hk)⟩
theorem SR.adJ (hG:G.Ok P) (h:SR P N G s a w ρ S F) {l:Nat} {r':Go.Loop} (hl:oq w.heap[l]?) (h0:G.w0.heap.size<=l) (hF:¬ F l):SR P N G s a (w.putObj l (.loop r')) ρ S F:=by
 have hne:∀ b,¬ oq w.heap[b]? -> (w.putObj l (.loop r')).heap[b]? = w.heap[b]? := fun b hb=>World.putObj_heap_other fun e=>hb (e ▸ hl)
 have vU:∀ id b,Own w ρ id (s.heap id) b->¬ oq w.heap[b]? := fun id b h1 ⟨r,hr⟩=>by
  rcases h.vT h1 with ⟨c,T,f,q⟩ | ⟨es,c,q⟩ <;> (rw [q] at hr; cases hr)
 have hsz:(w.putObj l (.loop r')).heap.size=w.heap.size:=by simp
 have ex:Ext0 S w S (w.putObj l (.loop r')):=⟨by omega,fun _ _ q=>q,(jE hl).cell,(jE hl).maps,fun b o q=>by rw [hsz]; exact h.bd b o q,(jE (S:=S) hl).pl⟩
 have hk:∀ id,Kept w (w.putObj l (.loop r')) ρ ρ id (s.heap id) (s.heap id):=fun id=>.refl rfl fun b hb h1=>hne b (vU id b (.of h1 hb))
 refine ⟨h.size,h.bw.tr hk (fun D hF hD=>⟨(hne D fun ⟨r,hr⟩=>by rw [hD] at hr; cases hr).trans hD,hF⟩),fun t=>(h.env t).tr ex hk,fun id=>(h.obj id).tr ex hk rfl fun b hb=>⟨hne b (vU id b hb),fun i q=>q,fun x=>x⟩,fun i j b hi hj=>h.inj i j b (hi.back rfl fun b q1 q2=>hne b (vU _ b (.of q2 q1))) (hj.back rfl fun b q1 q2=>hne b (vU _ b (.of q2 q1))),h.ext.trans ex,h.new,
  h.same.trans (xP fun q=>by omega),h.tr.tr hG.c h.fb (xP hF) ex,fun b x=>by rw [hsz]; exact h.fb b x,h.f0,h.sub,h.fs,h.pins⟩
theorem SR.avV {M:Nat->Prop} {l0:Nat} {ic:Nat->Option Nat} {w0:World} {S0:CS} (h:SR P N (Gh.inner M S0 w0 l0 lo ic) s a w ρ S F) {l:Nat} {r':Go.Loop} (hl:oq w.heap[l]?) (h0:l < w0.heap.size) (hM:¬ M l) (hF:¬ F l) :
  SR P N (Gh.inner M S0 (w0.putObj l (.loop r')) l0 lo ic) s a (w.putObj l (.loop r')) ρ S F:=by
 have hl0:oq w0.heap[l]? := by
  obtain ⟨r,hr⟩:=hl
  exact ⟨r,(h.same.block l ⟨h0,hM,fun q=>q⟩).symm.trans hr⟩
 have hne:∀ b,¬ oq w.heap[b]? -> (w.putObj l (.loop r')).heap[b]? = w.heap[b]? := fun b hb=>World.putObj_heap_other fun e=>hb (e ▸ hl)
 have vU:∀ id b,Own w ρ id (s.heap id) b->¬ oq w.heap[b]? := fun id b h1 ⟨r,hr⟩=>by
  rcases h.vT h1 with ⟨c,T,f,q⟩ | ⟨es,c,q⟩ <;> (rw [q] at hr; cases hr)
 have hsz:(w.putObj l (.loop r')).heap.size=w.heap.size:=by simp
 have Fe:(w0.putObj l (.loop r')).heap.size=w0.heap.size:=by simp
 have ex:Ext0 S w S (w.putObj l (.loop r')):=⟨by omega,fun _ _ q=>q,(jE hl).cell,(jE hl).maps,fun b o q=>by rw [hsz]; exact h.bd b o q,(jE (S:=S) hl).pl⟩
 have hk:∀ id,Kept w (w.putObj l (.loop r')) ρ ρ id (s.heap id) (s.heap id):=fun id=>.refl rfl fun b hb h1=>hne b (vU id b (.of h1 hb))
 have EK:∀ b,vn (Gh.inner M S0 w0 l0 lo ic) F b->vn (Gh.inner M S0 (w0.putObj l (.loop r')) l0 lo ic) F b:=fun b q=>⟨q.1.imp (fun x=>by show (w0.putObj l (.loop r')).heap.size<=b; rw [Fe]; exact x) fun x=>x,q.2⟩
 have aGp:Pl (w0.putObj l (.loop r')) (w.putObj l (.loop r')):=⟨by rw [Fe,hsz]; exact h.ext.size,h.ext.pl.drawn,fun b arr T f hb hc=>by
  rw [Fe] at hb
  by_cases e:b=l
  ·subst e
   rw [World.putObj_heap_same (w:=w) (Array.getElem?_eq_some_iff.1 hl.choose_spec).1] at hc
   cases hc
  ·rw [World.putObj_heap_other e] at hc
   obtain ⟨qx,T0,f0,q1,q2⟩:=h.ext.pl.sz b arr T f hb hc
   exact ⟨qx,T0,f0,by rw [World.putObj_heap_other e]; exact q1,q2⟩⟩
 have al9:∀ {ds:List fu} {dd:List Deferred},dz w0.heap.size w s.heap ρ F ds dd->dz (w0.putObj l (.loop r')).heap.size (w.putObj l (.loop r')) s.heap ρ F ds dd:=fun q=>by
  rw [Fe]
  exact q.tr hk fun D hF hD=>⟨(hne D fun ⟨r,hr⟩=>by rw [hD] at hr; cases hr).trans hD,hF⟩
 refine ⟨h.size,al9 h.bw,fun t=>(h.env t).tr ex hk,fun id=>?_,fun i j b hi hj=>h.inj i j b (hi.back rfl fun b q1 q2=>hne b (vU _ b (.of q2 q1))) (hj.back rfl fun b q1 q2=>hne b (vU _ b (.of q2 q1))),⟨by show (w0.putObj l (.loop r')).heap.size<=_; rw [Fe,hsz]; exact h.ext.size,h.ext.sub,fun b o q=>?_,fun b o es c q m=>?_,ex.bd,aGp⟩,fun b o q=>?_,
  ⟨h.same.os,h.same.tape,h.same.output,by show (w0.putObj l (.loop r')).heap.size<=_; rw [Fe,hsz]; exact h.same.size,fun k hk=>?_⟩,h.tr,fun b x=>by rw [hsz]; exact h.fb b x,fun b hb x=>?_,fun _ q=>q.elim,fun _ _ _ _=>trivial,h.pins⟩
 ·have hh:=(h.obj id).tr (F':=F) ex hk rfl fun b hb=>⟨hne b (vU id b hb),fun i q=>q,fun x=>x⟩
  cases ho:s.heap id with
  | none=>trivial
  | gone=>trivial
  | box ds=>rw [ho] at hh; obtain ⟨b,arr,T,q1,q2,q3⟩:=hh; exact ⟨b,arr,T,q1,EK b q2,q3⟩
  | chain cur T k n =>
   rw [ho] at hh
   rcases hh with q | ⟨b,q1,q2,q3⟩
   ·exact .inl q
   ·exact .inr ⟨b,q1,EK b q2,q3⟩
  | row cur T e x =>
   rw [ho] at hh
   obtain ⟨q0,⟨q1,q2⟩ | ⟨b,arr,q1,q2,q3⟩⟩:=hh
   ·exact ⟨q0,.inl ⟨q1,q2⟩⟩
   ·exact ⟨q0,.inr ⟨b,arr,q1,EK b q2,q3⟩⟩
  | mp k v m=>rw [ho] at hh; obtain ⟨b,es,c,q1,q2,q3⟩:=hh; exact ⟨b,es,c,q1,EK b q2,q3⟩
  | rows cur T e d =>
   rw [ho] at hh
   obtain ⟨q0,b,arr,T',q1,q2,q3,q4,q5,q6,q7⟩:=hh
   refine ⟨q0,b,arr,T',q1,EK b q2,q3,q4,q5,q6,fun i hi=>?_⟩
   obtain ⟨ad,cap,z1,z2⟩:=q7 i hi
   exact ⟨ad,cap,z1,z2.imp (fun x=>x) fun ⟨z0,b',gA,T'',z3,z4,z5,z6⟩=>⟨z0,b',gA,T'',z3,z4,EK b' z5,z6⟩⟩
 ·have q:S0 b o:=q
  show (w.putObj l (.loop r')).cell? ⟨b,o,none⟩=(w0.putObj l (.loop r')).cell? ⟨b,o,none⟩
  rw [xO hl,xO hl0]
  exact h.ext.same b o q
 ·have m:(w0.putObj l (.loop r')).heap[b]? = some (.map es c):=m
  have hb:b≠l:=fun e=>by
   rw [e,World.putObj_heap_same h0] at m; cases m
  rw [World.putObj_heap_other hb] at m
  show (w.putObj l (.loop r')).heap[b]? = _
  rw [World.putObj_heap_other hb]
  exact h.ext.maps b o es c q m
 ·rcases h.new b o q with q | q | q
  ·exact .inl q
  ·exact .inr (.inl (by show (w0.putObj l (.loop r')).heap.size<=b; rw [Fe]; exact q))
  ·exact .inr (.inr q)
 ·obtain ⟨k1,k2,k3⟩:=hk
  have k1:k < (w0.putObj l (.loop r')).heap.size:=k1
  rw [Fe] at k1
  show (w.putObj l (.loop r')).heap[k]? = (w0.putObj l (.loop r')).heap[k]?
  by_cases e:k=l
  ·subst e
   rw [World.putObj_heap_same (w:=w0) h0,World.putObj_heap_same (w:=w) (Array.getElem?_eq_some_iff.1 hl.choose_spec).1]
  ·rw [World.putObj_heap_other e,World.putObj_heap_other e]
   exact h.same.block k ⟨k1,k2,k3⟩
 ·have hb:b < (w0.putObj l (.loop r')).heap.size:=hb
  rw [Fe] at hb
  exact h.f0 b hb x
theorem SR.idle (hG:G.Ok P) (h:SR P N G s a w ρ S F) {FI:Nat->Prop} {SI:CS} (h1:∀ b o,S b o->FI b\/SI b o) (h2:∀ id b,Own w ρ id (s.heap id) b->FI b) (h3:∀ b,F b->FI b) (h4:∀ b,b < G.w0.heap.size->FI b)
  (h5:∀ D∈marksOf a.defers,FI D) (hs:dX FI w w') (hk:xl SI w w'):SR P N G s a w' ρ S F:=by
 have ex:Ext0 S w S w':=⟨hs.size,fun _ _ q=>q,fun b o q=>(h1 b o q).elim (fun x=>World.cell?_of_block (a:=⟨b,o,none⟩) (hs.block b x)) (hk.cell b o),
  fun b o es c q m=>(h1 b o q).elim (fun x=>(hs.block b x).trans m) (fun x=>hk.maps b o es c x m),fun b o q=>Nat.lt_of_lt_of_le (h.bd b o q) hs.size,hk.pl⟩
 have hkp:∀ id,Kept w w' ρ ρ id (s.heap id) (s.heap id):=fun id=>.refl rfl fun b hb hl=>hs.block b (h2 id b (.of hl hb))
 have al9:∀ {ds:List fu} {dd:List Deferred},(∀ D∈marksOf dd,FI D)->dz G.w0.heap.size w s.heap ρ F ds dd->dz G.w0.heap.size w' s.heap ρ F ds dd:=by
  intro ds
  induction ds with
  | nil=>intro dd hm q; cases dd <;> exact q
  | cons d ds ih =>
   intro dd hm q
   by_cases hdm:d = .marks
   ·subst hdm
    obtain ⟨ms,ds2,e,q1,q2⟩:=q
    subst e
    have hmm:marksOf (ms ++ ds2)=marksOf ms ++ marksOf ds2:=by simp [marksOf]
    exact ⟨ms,ds2,rfl,q1.imp fun D hD p1 p2 p3=>⟨p1,p2,(hs.block D (hm D hD)).trans p3⟩,ih (fun D hD=>hm D (by rw [hmm]; exact List.mem_append_right _ hD)) q2⟩
   cases dd with
   | nil=>cases d <;> first | exact q.elim | exact absurd rfl hdm
   | cons e dd =>
    cases d with
    | marks=>exact absurd rfl hdm
    | mark =>
     obtain ⟨⟨D,q1,q2,q3,q4,q5⟩,q6⟩:=q
     subst q1
     have hm':FI D/\∀ D'∈marksOf dd,FI D':=by simpa [marksOf] using hm
     exact ⟨⟨D,rfl,q2,q3,(hs.block D hm'.1).trans q4,q5⟩,ih hm'.2 q6⟩
    | iM f ids =>
     obtain ⟨⟨us,q1,q2⟩,q6⟩:=q
     subst q1
     exact ⟨⟨us,rfl,q2⟩,ih (by simpa [marksOf] using hm) q6⟩
 exact ⟨h.size,al9 h5 h.bw,fun t=>(h.env t).tr ex hkp,fun id=>(h.obj id).tr ex hkp rfl fun b hb=>⟨hs.block b (h2 id b hb),fun i q=>q,fun x=>x⟩,fun i j b hi hj=>h.inj i j b (hi.back rfl fun b q1 q2=>hs.block b (h2 _ b (.of q2 q1))) (hj.back rfl fun b q1 q2=>hs.block b (h2 _ b (.of q2 q1))),h.ext.trans ex,h.new,
  h.same.trans (hs.mono fun b hb=>h4 b hb.1),h.tr.tr hG.c h.fb (hs.mono h3) ex,fun b x=>Nat.lt_of_lt_of_le (h.fb b x) hs.size,h.f0,h.sub,h.fs,h.pins⟩
end Go.Dm
namespace Go.Dm
open Go.RowKit
variable {P:Program} {N N':Nat} {G:Gh} {S S' S2:CS} {w w' w2:World} {s s2:St} {a a2:Act} {ρ ρ' ρ2:fA} {F F' F2:Nat->Prop} {heap heap' H' H2:Nat->bu} {Y:Value} {E:cg} {Γ:Ctx} {Fw:Fence} {r:Nat} {ops:Array Oper} {lo lo' base:Nat} {bw:List fu} {vr DU:Nat->Nat} {n:Nat} {fid:FuncId} {mps:List bg} {e:Ty}
def setArgs:List Nat->List Slot->(Nat->Slot)->Nat->Slot
 | t :: ts,d :: ds,env=>setArgs ts ds (setEnv env t d)
 | _,_,env=>env
inductive RO (mps:List bg) where
 | next (x:(aa mps).den)
 | KU (id:Nat) (x:(aa mps).den)
 | ret (x:(aa mps).den)
 | bP (T:TypeId) (τ:Ty) (d:τ.den) (x:(aa mps).den)
 | bad
def rst (lo':Nat) (ps:List Nat) (e:Ty) (mps:List bg) (x:(aa mps).den) (i:e.den):St:=
 { wr lo' .none [] mps x with env:=setArgs ps (cW e i) (wr lo' .none [] mps x).env }
def LI (lo:Nat) (mps:List bg) (x:(aa mps).den) (y:(aa (aD mps)).den):Option (aa mps).den:=
 rd lo ⟨(wr lo .none [] mps x).env,cE (wr lo .none [] mps x).heap (bC (cx (wr lo .none [] mps x).heap) (aD mps) y),.none,0,[]⟩ mps
def Ff (lo lo':Nat) (mps:List bg) (x:(aa mps).den) (mk:(aa mps).den->RO mps) (s:St):RO mps:=
 match s.bw,rd lo' s (aD mps) with
 | [],some y=>match cB mps x y,LI lo mps x y with
  | true,some x'=>mk x'
  | _,_=>.bad
 | _,_=>.bad
def avY (lo lo':Nat) (mps:List bg) (x:(aa mps).den):Out->RO mps
 | .norm s=>Ff lo lo' mps x .next s
 | .exit id s=>Ff lo lo' mps x (.KU id) s
 | .ret s=>Ff lo lo' mps x .ret s
 | .bP (.zg T τ d) s=>Ff lo lo' mps x (.bP T τ d) s
 | _=>.bad
def cg.DX (E:cg):cg:={ E with bw:=false }
def aiM (P:Program) (E:cg) (Γ:Ctx) (lo lo' N:Nat) (body:Code) (lb:List Loop) (mps:List bg) (x:(aa mps).den):Out->Tree (RO mps)
 | .norm s1=>fQ P E.DX Γ lo' N .any body lb s1 fun o=>.leaf (avY lo lo' mps x o)
 | _=>.leaf .bad
def gE (P:Program) (E:cg) (Γ:Ctx) (lo lo' N:Nat) (ps:List Nat) (as body:Code) (la lb:List Loop) (e:Ty) (mps:List bg) (x:(aa mps).den) (i:e.den):Tree (RO mps):=
 fQ P E.DX Γ lo' N .any as la (rst lo' ps e mps x i) (aiM P E Γ lo lo' N body lb mps x)
def mP {I:Type} {mps:List bg} (step:(aa mps).den->I->Tree (RO mps)):(aa mps).den->List I->Tree (RO mps)
 | x,[]=>.leaf (.next x)
 | x,i :: r=>(step x i).run .any fun
  | .next x'=>mP step x' r
  | .KU id x'=>.leaf (.KU id x')
  | .ret x'=>.leaf (.ret x')
  | .bP T τ d x'=>.leaf (.bP T τ d x')
  | .bad=>.leaf .bad
def RO.out (lo:Nat) (bw:List fu) {mps:List bg}:RO mps->Out
 | .next x=>.norm (wr lo .none bw mps x)
 | .KU id x=>.exit id (wr lo .none bw mps x)
 | .ret x=>.ret (wr lo .none bw mps x)
 | .bP T τ d x=>.bP (.zg T τ d) (wr lo .none bw mps x)
 | .bad=>.bad
def LJ (lo:Nat) (bw:List fu) (t:Nat) (e:Ty) (mps:List bg) (step:(aa mps).den->e.den->Tree (RO mps)) (s:St):Tree Out:=
 match kV s.bw bw,s.env t,rd lo s mps with
 | true,.v (.pc (.seq e') Wx),some x=>match cH (σ:=.seq e') (.seq e) Wx with
  | some Wx=>(mP step x (show Sl e.den from Wx).list).map (RO.out lo (.mark :: bw))
  | none=>.leaf .bad
 | _,_,_=>.leaf .bad
inductive yM {I:Type} {mps:List bg} (step:(aa mps).den->I->Tree (RO mps)) (x0:(aa mps).den):List I->(aa mps).den->Prop
 | nil:yM step x0 [] x0
 | snoc {k:List I} {x x':(aa mps).den} {i:I} (h:yM step x0 k x) (h':(step x i).Has (.next x')):yM step x0 (k ++ [i]) x'
theorem Tree.sF {α β:Type} {K:α->Tree β} {a:α} {b:β}:∀ {t:Tree α},t.Has a->(K a).Has b->(t.run Tree.any K).Has b
 | .leaf _,h,h'=>by cases h; exact h'
 | .br c l r,h,h'=>by
  cases c with
  | true=>exact Tree.sF (t:=l) (by simpa [Tree.Has] using h) h'
  | false=>exact Tree.sF (t:=r) (by simpa [Tree.Has] using h) h'
 | .any l r,h,h'=>h.elim (fun h=>.inl (Tree.sF h h')) (fun h=>.inr (Tree.sF h h'))
theorem vV {I:Type} {step:(aa mps).den->I->Tree (RO mps)} {x0:(aa mps).den} {k:List I} {x:(aa mps).den} (h:yM step x0 k x):∀ (rest:List I) (o:RO mps),(mP step x rest).Has o->(mP step x0 (k ++ rest)).Has o:=by
 induction h with
 | nil=>exact fun rest o h=>h
 | snoc h h' ih =>
  intro rest o ho
  rw [List.append_assoc]
  refine ih _ o ?_
  exact Tree.sF h' ho
def RO.ends {mps:List bg}:RO mps->Prop
 | .next _=>False
 | _=>True
theorem mg {I:Type} {step:(aa mps).den->I->Tree (RO mps)} {x0:(aa mps).den} {k:List I} {x:(aa mps).den} (h:yM step x0 k x) {i:I} {o:RO mps} (ho:(step x i).Has o) (he:o.ends) (rest:List I) :
  (mP step x0 (k ++ i :: rest)).Has o:=by
 refine vV h _ _ ?_
 refine Tree.sF ho ?_
 cases o with
 | next x=>exact he.elim
 | _=>rfl
structure zy (P:Program) (N:Nat) (G:Gh) (bw:List fu) (mps:List bg) (a₁:Act) (SI:CS) (l:Nat) (x:(aa mps).den) (F:Nat->Prop) (S:CS) (W:World) (ρ:fA) (So:CS) (FG:Nat->Prop):Prop where
 sr:SR P N G (wr G.lo .none (.mark :: bw) mps x) a₁ W ρ So FG
 so:∀ b o,So b o->F b\/S b o
 ob:∀ id b,Own W ρ id ((wr G.lo .none (.mark :: bw) mps x).heap id) b->F b
 fg:∀ b,FG b->F b
 w0:∀ b,b < G.w0.heap.size->F b
 mks:∀ D∈marksOf a₁.defers,F D
 si:∀ b o,SI b o->So b o
 fl:∀ b,FG b->b < l
theorem zy.idle (hG:G.Ok P) {l:Nat} {a₁:Act} {SI:CS} {x:(aa mps).den} {So:CS} {FG:Nat->Prop} (h:zy P N G bw mps a₁ SI l x F S w ρ So FG) (hs:dX F w w') (hk:xl S w w') (hS:∀ b o,S b o->S' b o) :
  zy P N G bw mps a₁ SI l x F S' w' ρ So FG:=
 ⟨h.sr.idle hG h.so h.ob h.fg h.w0 h.mks hs hk,fun b o q=>(h.so b o q).imp (fun x=>x) (hS b o),fun id b q=>h.ob id b (q.back rfl fun b q1 q2=>hs.block b (h.ob id b (.of q2 q1))),h.fg,h.w0,h.mks,h.si,h.fl⟩
theorem zy.ext {l:Nat} {a₁:Act} {SI:CS} {x:(aa mps).den} {So:CS} {FG:Nat->Prop} (h:zy P N G bw mps a₁ SI l x F S w ρ So FG) (hs:dX F w w') (hk:xl S w w'):Ext0 So w So w':=
 ⟨hs.size,fun _ _ q=>q,fun b o q=>(h.so b o q).elim (fun x=>World.cell?_of_block (a:=⟨b,o,none⟩) (hs.block b x)) (hk.cell b o),
  fun b o es c q m=>(h.so b o q).elim (fun x=>(hs.block b x).trans m) (fun x=>hk.maps b o es c x m),fun b o q=>Nat.lt_of_lt_of_le (h.sr.bd b o q) hs.size,hk.pl⟩
def RO.jump {mps:List bg}:RO mps->Option Code
 | .KU id _=>some (.exit id)
 | .ret _=>some .ret
 | _=>none
def RO.dat {mps:List bg}:RO mps->Option (aa mps).den
 | .next x=>some x
 | .KU _ x=>some x
 | .ret x=>some x
 | .bP _ _ _ x=>some x
 | .bad=>none
def Wy (P:Program) (N:Nat) (G:Gh) (bw:List fu) (mps:List bg) (a₁:Act) (SI:CS) {I:Type} (step:(aa mps).den->I->Tree (RO mps)) (x0:(aa mps).den) (l:Nat) (rec:Go.Loop):Cons I where
 J k F S W:=∃ x ρ So FG,yM step x0 k x/\zy P N G bw mps a₁ SI l x F S W ρ So FG/\F l/\W.heap[l]? = some (.loop rec)
 JS k F S W:=∃ k0 i x o x' ρ So FG c,k=k0 ++ [i]/\yM step x0 k0 x/\(step x i).Has o/\o.dat=some x'/\o.jump=some c/\zy P N G bw mps a₁ SI l x' F S W ρ So FG/\F l/\W.heap[l]? = some (.loop { rec with state:=.done,pending:=some c })
 JP k ch F S W:=∃ k0 i x T τ d x' u0 ρ So FG,k=k0 ++ [i]/\yM step x0 k0 x/\(step x i).Has (.bP T τ d x')/\ch=[{ v:=.iface T u0,recovered:=false }]/\zy P N G bw mps a₁ SI l x' F S W ρ So FG/\R P τ So W d [u0]
theorem Wz (hG:G.Ok P) {a₁:Act} {SI:CS} {I:Type} {step:(aa mps).den->I->Tree (RO mps)} {x0:(aa mps).den} {l:Nat} {rec:Go.Loop}:(Wy P N G bw mps a₁ SI step x0 l rec).Ok where
 J k F S S' w w' h _ hs hk hS:=by
  obtain ⟨x,ρ,So,FG,h1,h2,h3,h4⟩:=h
  exact ⟨x,ρ,So,FG,h1,h2.idle hG hs hk hS,h3,(hs.block l h3).trans h4⟩
 JS k F S S' w w' h _ hs hk hS:=by
  obtain ⟨k0,i,x,o,x',ρ,So,FG,c,h1,h2,h3,h4,h5,h6,h7,h8⟩:=h
  exact ⟨k0,i,x,o,x',ρ,So,FG,c,h1,h2,h3,h4,h5,h6.idle hG hs hk hS,h7,(hs.block l h7).trans h8⟩
 JP k ch F S S' w w' h _ hs hk hS:=by
  obtain ⟨k0,i,x,T,τ,d,x',u0,ρ,So,FG,h1,h2,h3,h4,h5,h6⟩:=h
  exact ⟨k0,i,x,T,τ,d,x',u0,ρ,So,FG,h1,h2,h3,h4,h5.idle hG hs hk hS,h6.mono (h5.ext hs hk)⟩
theorem SR.params:∀ (ps:List Nat) (ds:List Slot) (us:List Value) {s:St} {a:Act},ps.all (Nat.blt · N)=true->SR P N G s a w ρ S F->ps.length=us.length->ds.length=us.length->(∀ (j:Nat) d u,ds[j]? = some d->us[j]? = some u->RS P G.Y S w s.heap ρ d u) ->
  SR P N G { s with env:=setArgs ps ds s.env } { a with tmps:=(ps.zip us).foldl (fun tmps p=>tmps.setIfInBounds p.1 p.2) a.tmps } w ρ S F
 | [],ds,us,s,a,_,h,_,_,_=>by cases ds <;> exact h
 | t :: ps,[],us,s,a,_,h,h1,h2,_=>by cases us <;> simp at h1 h2
 | t :: ps,d :: ds,[],s,a,_,h,h1,h2,_=>by simp at h1
 | t :: ps,d :: ds,u :: us,s,a,hp,h,h1,h2,hr=>by
  simp only [List.all_cons,Bool.and_eq_true] at hp
  have hq:=h.put (dst:=some t) (by simpa using hp.1) (hr 0 d u rfl rfl)
  have:=SR.params ps ds us (s:={ s with env:=Go.Dm.setEnv s.env t d }) (a:={ a with tmps:=a.tmps.setIfInBounds t u }) hp.2 (by simpa [Act.put,gz] using hq) (by simpa using h1) (by simpa using h2) (fun j d u g1 g2=>hr (j + 1) d u (by simpa using g1) (by simpa using g2))
  simpa [setArgs] using this
end Go.Dm
namespace Go.Dm
open Go.RowKit
variable {P:Program} {N N':Nat} {G:Gh} {S S' S2:CS} {w w' w2:World} {s s2:St} {a a2:Act} {ρ ρ' ρ2:fA} {F F' F2:Nat->Prop} {heap heap' H' H2:Nat->bu} {Y:Value} {E:cg} {Γ:Ctx} {Fw:Fence} {r:Nat} {ops:Array Oper} {lo lo' base:Nat} {bw:List fu} {vr DU:Nat->Nat} {n:Nat} {fid:FuncId} {mps:List bg} {e:Ty}
theorem PM {ps:List bg} {x:(aa ps).den} (hw:Dq lo ps=true) {M:Nat->Prop} {l:Nat}:(Gh.inner M S w l lo (cM (bR (bC (fun _=>0) ps x)) ρ)).Ok P:=by
 simp only [Dq,Bool.and_eq_true] at hw
 obtain ⟨⟨⟨⟨⟨⟨w1,w2⟩,w3⟩,w4⟩,w5⟩,w6⟩,w7⟩:=hw
 simp only [LD,Bool.and_eq_true,List.all_eq_true,Nat.blt_eq] at w4
 refine ri fun id b hb=>?_
 have key:∀ o,bR (bC (fun _=>0) ps x) id=o->o ≠ .none->(id,o)∈bC (fun _=>0) ps x:=fun o ho hn=>by subst ho; exact dG hn
 unfold cM at hb
 split at hb
 ·rename_i ho; exact w4.1.1 id (BB (key _ ho (by simp)))
 ·rename_i ho; exact w4.1.2 id (BC (key _ ho (by simp)))
 ·rename_i ho; exact w4.2 id (DW (key _ ho (by simp)))
 ·rename_i ho; exact w4.2 id (BD (key _ ho (by simp)))
 ·cases hb
theorem aiN {s s':St} (h1:s.env=s'.env) (h2:s.heap=s'.heap) (h3:s.tr=s'.tr):∀ (ps:List bg),rd lo s ps=rd lo s' ps
 | []=>rfl
 | p :: ps=>by
  simp only [rd,aiN h1 h2 h3 ps]
  have:uq lo s p=uq lo s' p:=by
   cases p <;> simp only [uq,h1,h2,h3]
  rw [this]
theorem LK {M:Nat->Prop} (hM:∀ b,M b->∃ id,Own w ρ id (s.heap id) b) (hG:G.Ok P) (h:SR P N G s a w ρ S F) {x:(aa mps).den} (hH:s.heap=bR (bC (fun _=>0) mps x)) (hw:Dq lo' mps=true)
  {s':St} (q:SR P N' (Gh.inner M S w G.l lo' (cM s.heap ρ)) s' a2 w' ρ' S' F') (hd:s'.bw=[]) {y:(aa (aD mps)).den} (hy:rd lo' s' (aD mps)=some y) (hs:cB mps x y=true) :
  ∃ Tc,SR P N G { s with heap:=cE s.heap (bC (cx s.heap) (aD mps) y) } a w' Tc S' F /\
   ∀ id b,Own w' Tc id (cE s.heap (bC (cx s.heap) (aD mps) y) id) b->w.heap.size<=b\/∃ id,Own w ρ id (s.heap id) b:=by
 have tg:=hw
 simp only [Dq,Bool.and_eq_true,Bool.not_eq_true'] at hw
 obtain ⟨⟨⟨⟨⟨⟨w1,w2⟩,w3⟩,w4⟩,w5⟩,w6⟩,w7⟩:=hw
 have w3:=gQ w3
 have BE:(Gh.inner M S w G.l lo' (cM s.heap ρ)).Ok P:=by rw [hH]; exact PM tg
 obtain ⟨n1,n2⟩:qW (cz mps)=true/\qW (cz (aD mps))=true:=by
  simp only [kU,Bool.and_eq_true] at w1 w2
  exact ⟨w1.1,w2.1⟩
 have hn1:((bC (fun _=>0) mps x).map (·.1)).Nodup:=by rw [fk]; exact ga n1
 have hn2:((bC (cx s.heap) (aD mps) y).map (·.1)).Nodup:=by rw [fk]; exact ga n2
 have h3:=qX BE q (vr:=cx s.heap) (t:=.none) w2 (by rw [hd]; rfl) (.inr (cL _ _ _)) (show rd (Gh.inner M S w G.l lo' (cM s.heap ρ)).lo s' (aD mps)=some y from hy)
 let D:Nat->Bool:=fun id=>((bC (cx s.heap) (aD mps) y).map (·.1)).any (Nat.beq id)
 have cK:∀ id,D id=true->∃ o,bR (bC (cx s.heap) (aD mps) y) id=o/\Fa (cx s.heap id) (s.heap id) o:=fun id hid=>by
  obtain ⟨p,hp,rfl⟩:=List.mem_map.1 (any_beq.1 hid)
  obtain ⟨o0,h1,h2⟩:=gD (DU:=fun _=>0) w7 hs _ hp
  refine ⟨p.2,gv hn2 p hp,?_⟩
  rw [hH,gv hn1 _ h1]
  rw [hH] at h2
  exact h2
 have gK:∀ id,live (s.heap id)->gp (s.heap id)=false->VJ (s.heap id)=false->∃ b,ρ id=some b:=fun id hl hc hrr=>by
  have:=h.obj id
  cases ho:s.heap id with
  | none=>rw [ho] at hl; exact hl.elim
  | gone=>rw [ho] at hl; exact hl.elim
  | box ds=>rw [ho] at this; obtain ⟨b,_,_,hb,_⟩:=this; exact ⟨b,hb⟩
  | chain _ _ _ _=>rw [ho] at hc; cases hc
  | row cur T e x=>rw [ho] at hrr; cases hrr
  | mp k v m=>rw [ho] at this; obtain ⟨b,_,_,hb,_⟩:=this; exact ⟨b,hb⟩
  | rows _ T e d=>rw [ho] at this; obtain ⟨_,b,_,_,hb,_⟩:=this; exact ⟨b,hb⟩
 have qp:=h3.pins
 have hK:∀ id,D id=true->Kept w w' ρ (iw (Gh.inner M S w G.l lo' (cM s.heap ρ)).ic s'.heap ρ') id (s.heap id) (bR (bC (cx s.heap) (aD mps) y) id):=fun id hid=>by
  obtain ⟨o,hf,Fb⟩:=cK id hid
  rw [hf]
  generalize Ib:s.heap id=o0 at Fb
  cases Fb with
  | box ds ds' =>
   obtain ⟨b,hb⟩:=gK id (by rw [Ib]; trivial) (by rw [Ib]; rfl) (by rw [Ib]; rfl)
   have:=(qp id b (by show cM _ _ id=some b; unfold cM; rw [Ib]; exact hb)).1
   exact .inr ⟨⟨_,rfl⟩,this.trans hb.symm⟩
  | row u T e a b hn =>
   have hv:cx s.heap id=u:=by unfold cx; rw [Ib]
   refine .inr ⟨_,_,rfl,by omega,fun _=>⟨hn,?_⟩⟩
   have IW:=h.obj id
   rw [Ib] at IW
   cases hb:ρ id with
   | some bb=>exact .inl ((qp id bb (by show cM _ _ id=some bb; unfold cM; rw [Ib]; exact hb)).1)
   | none =>
    obtain ⟨_,⟨_,q⟩ | ⟨b1,_,q,_⟩⟩:=IW
    ·exact .inr ⟨q,rfl⟩
    ·rw [hb] at q; cases q
  | mp k e m m' =>
   obtain ⟨bb,hb⟩:=gK id (by rw [Ib]; trivial) (by rw [Ib]; rfl) (by rw [Ib]; rfl)
   have:=(qp id bb (by show cM _ _ id=some bb; unfold cM; rw [Ib]; exact hb)).1
   exact .inr ⟨⟨_,rfl⟩,this.trans hb.symm⟩
  | rows u T e a b hn =>
   obtain ⟨bb,hb⟩:=gK id (by rw [Ib]; trivial) (by rw [Ib]; rfl) (by rw [Ib]; rfl)
   have:=(qp id bb (by show cM _ _ id=some bb; unfold cM; rw [Ib]; exact hb)).1
   have hv:cx s.heap id=u:=by unfold cx; rw [Ib]
   exact .inr ⟨_,_,rfl,by omega,hn,this.trans hb.symm,fun q=>by omega⟩
  | chain u T k n n' =>
   have hv:cx s.heap id=u + 1:=by unfold cx; rw [Ib]
   exact ⟨cx s.heap id,n',rfl,by omega,fun q=>by omega⟩
 have iO:=h.back hG (D:=D) (s2:=wrV (cx s.heap) lo' .none [] (aD mps) y) (M:=M) (lo:=lo') (ic:=cM s.heap ρ)
  (h3.of_eq rfl rfl rfl hd.symm) (fun b hb=>?_) (fun id hn=>?_) hK (fun id b hid hb=>?_)
 ·have Bh:cE s.heap (bC (cx s.heap) (aD mps) y)=eI D (wrV (cx s.heap) lo' .none [] (aD mps) y).heap s.heap:=by
   funext i
   rw [xL hn2]
   rfl
  refine ⟨_,iO.of_eq rfl Bh rfl rfl,fun id b hl=>?_⟩
  rw [Bh] at hl
  cases hd:D id with
  | true =>
   rw [eI,hd,cond_true] at hl
   exact (h3.jy (hl.back (by simp [dU,hd]) fun _ _ _=>rfl)).2.1.1.imp (fun q=>q) (fun q=>hM b q)
  | false =>
   rw [eI,hd,cond_false] at hl
   refine .inr ⟨id,hl.back (by simp [dU,hd]) fun b q1 q2=>h3.same.block b ⟨(h.eG q2 q1).1,?_,fun q=>q⟩⟩
   intro hMb
   obtain ⟨id',aGq⟩:=hM _ hMb
   have:=h.inj id' id b aGq (.of q2 q1)
   subst this
   have hne:bR (bC (fun _=>0) mps x) id' ≠ .none:=fun e=>by rw [hH,e] at q2; exact q2
   have hmem:id'∈cz mps:=by rw [<- fk (bG:=fun _=>0) (x:=x)]; exact List.mem_map.2 ⟨_,dG hne,rfl⟩
   have:D id'=true:=by
    show ((bC (cx s.heap) (aD mps) y).map (·.1)).any (Nat.beq id')=true
    rw [fk]
    exact any_beq.2 (w3 ▸ hmem)
   rw [hd] at this; cases this
 ·obtain ⟨id,hl⟩:=hM b hb
  refine ⟨id,?_,hl⟩
  have hne:bR (bC (fun _=>0) mps x) id ≠ .none:=fun e=>by rw [hH,e] at hl; exact hl
  have hmem:id∈cz mps:=by rw [<- fk (bG:=fun _=>0) (x:=x)]; exact List.mem_map.2 ⟨_,dG hne,rfl⟩
  show ((bC (cx s.heap) (aD mps) y).map (·.1)).any (Nat.beq id)=true
  rw [fk]
  exact any_beq.2 (w3 ▸ hmem)
 ·have hn:bR (bC (cx s.heap) (aD mps) y) id ≠ .none:=hn
  exact any_beq.2 (List.mem_map.2 ⟨_,dG hn,rfl⟩)
 ·obtain ⟨p1,p2⟩:=h.pins id b hb
  obtain ⟨o,hf,Fb⟩:=cK id hid
  refine qp id b ?_
  show cM s.heap ρ id=some b
  unfold cM
  generalize Ib:s.heap id=o0 at Fb p2
  cases Fb with
  | box ds ds'=>exact p1
  | row u T e a b hn=>exact p1
  | mp k e m m'=>exact p1
  | rows u T e a b' hn=>exact p1
  | chain u T k n n'=>cases p2
end Go.Dm
namespace Go.Dm
open Go.RowKit
variable {P:Program} {N N':Nat} {G:Gh} {S S' S2:CS} {w w' w2:World} {s s2:St} {a a2:Act} {ρ ρ' ρ2:fA} {F F' F2:Nat->Prop} {heap heap' H' H2:Nat->bu} {Y:Value} {E:cg} {Γ:Ctx} {Fw:Fence} {r:Nat} {ops:Array Oper} {lo lo' base:Nat} {bw:List fu} {vr DU:Nat->Nat} {n:Nat} {fid:FuncId} {mps:List bg} {e:Ty}
theorem Th {x:(aa mps).den} {mk:(aa mps).den->RO mps} {s:St} (h:Ff lo lo' mps x mk s ≠ .bad) :
  ∃ y x',s.bw=[]/\rd lo' s (aD mps)=some y/\cB mps x y=true/\LI lo mps x y=some x'/\Ff lo lo' mps x mk s=mk x':=by
 unfold Ff at h ⊢
 split at h
 ·rename_i y hd hy
  split at h
  ·rename_i x' hs ha
   exact ⟨y,x',hd,hy,hs,ha,rfl⟩
  ·exact absurd rfl h
 ·exact absurd rfl h
theorem LL {M:Nat->Prop} (hG:G.Ok P) (hfree:G.iL) (hw:Dq lo' mps=true) (KT:qo (fh mps) bw=true) {a₁:Act} {x x':(aa mps).den} {FG:Nat->Prop} (h:SR P N G (wr G.lo .none (.mark :: bw) mps x) a₁ w ρ S FG) (hM:∀ b,M b->∃ id,Own w ρ id ((wr G.lo .none (.mark :: bw) mps x).heap id) b)
  {s':St} (q:SR P N (Gh.inner M S w G.l lo' (cM (wr G.lo .none (.mark :: bw) mps x).heap ρ)) s' a2 w' ρ' S' F') (hd:s'.bw=[]) {y:(aa (aD mps)).den} (hy:rd lo' s' (aD mps)=some y) (hs:cB mps x y=true)
  (ha:LI G.lo mps x y=some x') :
  ∃ Tc,SR P N G (wr G.lo .none (.mark :: bw) mps x') a₁ w' Tc S' FG /\
   ∀ id b,Own w' Tc id ((wr G.lo .none (.mark :: bw) mps x').heap id) b->w.heap.size<=b\/∃ id,Own w ρ id ((wr G.lo .none (.mark :: bw) mps x).heap id) b:=by
 obtain ⟨ρ1,h1,h2⟩:=LK hM hG h rfl hw q hd hy hs
 have tg:=hw
 simp only [Dq,Bool.and_eq_true,Bool.not_eq_true'] at hw
 obtain ⟨⟨⟨⟨⟨⟨w1,w2⟩,w3⟩,w4⟩,w5⟩,w6⟩,w7⟩:=hw
 have hx:rd G.lo { wr G.lo .none (.mark :: bw) mps x with heap:=cE (wr G.lo .none (.mark :: bw) mps x).heap (bC (cx (wr G.lo .none (.mark :: bw) mps x).heap) (aD mps) y) } mps=some x':=
  (aiN (s:={ wr G.lo .none (.mark :: bw) mps x with heap:=cE (wr G.lo .none (.mark :: bw) mps x).heap (bC (cx (wr G.lo .none (.mark :: bw) mps x).heap) (aD mps) y) }) (s':=⟨(wr G.lo .none [] mps x).env,cE (wr G.lo .none [] mps x).heap (bC (cx (wr G.lo .none [] mps x).heap) (aD mps) y),.none,0,[]⟩) rfl rfl (show xG .none mps x = .none from fR w5) mps).trans ha
 have hdm:qo (fh mps) (.mark :: bw)=true:=by simp only [qo,List.all_cons,Bool.true_and]; exact KT
 exact ⟨_,qX hG h1 w1 hdm (.inr (hfree _ _ _)) hx,fun id b hl=>h2 id b (Ws hG h1 hx id b hl)⟩
theorem IY (hE:Env P E Γ G Fence.wide) (hfree:G.iL) {fd:Func} (hfd:P.funcs[fid]? = some fd) {ps:Array Tmp} (hps:ps.toList.all (Nat.blt · N)=true) (ql:ps.size=e.cells) (heL:e.isL=true)
  (hw:Dq lo' mps=true) (KT:qo (fh mps) bw=true) {as body:Code} {la lb:List Loop}
  (hla:∀ G':Gh,G'.lo=lo'->G'.Ok P->G'.iL->∀ l,ff P N G' fid (Fence.wide.inRound l) 0 as la) (hlb:∀ G':Gh,G'.lo=lo'->G'.Ok P->G'.iL->∀ l,ff P N G' fid (Fence.wide.inRound l) 0 body lb)
  {a₁:Act} {SI:CS} {x0:(aa mps).den} {l Db:Nat} {items:List e.den} (hl0:G.w0.heap.size<=l)
  (bT:∀ ro,(mP (gE P E Γ G.lo lo' N ps.toList as body la lb e mps) x0 items).Has ro->ro ≠ .bad) :
  zH P (R P e) (Wy P N G bw mps a₁ SI (gE P E Γ G.lo lo' N ps.toList as body la lb e mps) x0 l { state:=.ready,pending:=none,fn:=fid,tmps:=a₁.tmps,params:=ps,assign:=as,body:=body,defers:=Db }) SI l items:=by
 intro k F S W i vs hpre hJ hFb hbd Sz hR
 obtain ⟨x,ρ,So,FG,hT,hI,hFl,zj⟩:=hJ
 have hstep:∀ ro,(gE P E Γ G.lo lo' N ps.toList as body la lb e mps x i).Has ro->ro ≠ .bad:=fun ro hro e=>by
  subst e
  obtain ⟨rest,jD⟩:=hpre
  have:=mg hT hro trivial rest
  rw [<- jD,List.append_assoc] at bT
  exact bT _ this rfl
 have hlen:vs.length=ps.size:=by rw [hR.len,ql]
 refine ⟨fid,_,as,body,run_yield zj (by simpa using hlen),BG gI.wide hfd ?_⟩
 -- the frame of the round
 have hm:=hI.sr.more hE.gh hbd fun b o q=>by
  by_cases hb:F b
  ·exact .inl (hI.si b o (Sz b o q hb))
  ·exact .inr ⟨by have:=hI.w0 b; exact Nat.le_of_not_lt fun h=>hb (this h),fun h=>hb (hI.fg b h),fun id h1=>hb (hI.ob id b h1)⟩
 have hc:=hm.enter (lo:=lo') (l:=G.l) rfl
 have hvl:(cW e i).length=vs.length:=by rw [oo heL,hR.len]
 have hp:=SR.params ps.toList (cW e i) vs hps hc (by simpa using hlen.symm) hvl (fun j d u h1 h2=>by
  have hR':R P e (fun b o=>So b o\/S b o) W i vs:=hR.mono ⟨Nat.le_refl _,fun _ _ q=>.inr q,fun _ _ _=>rfl,fun _ _ _ _ _ q=>q,hm.bd,.refl W⟩
  have:=gR (Y:=(Gh.inner (seen W (wr G.lo .none (.mark :: bw) mps x).heap ρ) (fun b o=>So b o\/S b o) W G.l lo' (cM (wr G.lo .none (.mark :: bw) mps x).heap ρ)).Y) (heap:=(wr G.lo .none (.mark :: bw) mps x).heap) (ρ:=ρ) hR' j
  rw [List.getD_eq_getElem?_getD,List.getD_eq_getElem?_getD,h1,h2] at this
  exact this)
 have tg:=hw
 simp only [Dq,Bool.and_eq_true,Bool.not_eq_true'] at tg
 have hnt:lZ mps=false:=tg.1.1.2
 have h0:SR P N (Gh.inner (seen W (wr G.lo .none (.mark :: bw) mps x).heap ρ) (fun b o=>So b o\/S b o) W G.l lo' (cM (wr G.lo .none (.mark :: bw) mps x).heap ρ)) (rst lo' ps.toList e mps x i)
   { tmps:=(ps.zip vs.toArray).foldl (fun tmps (t,a)=>tmps.setIfInBounds t a) a₁.tmps,defers:=[] } W ρ (fun b o=>So b o\/S b o) (fun _=>False):=by
  have ea:(ps.zip vs.toArray).foldl (fun tmps (t,a)=>tmps.setIfInBounds t a) a₁.tmps=(ps.toList.zip vs).foldl (fun tmps p=>tmps.setIfInBounds p.1 p.2) a₁.tmps:=by
   rw [<- Array.foldl_toList]; simp
  rw [ea]
  exact hp.of_eq rfl rfl (fR hnt) rfl
 have BE:∀ W',(Gh.inner (seen W (wr G.lo .none (.mark :: bw) mps x).heap ρ) (fun b o=>So b o\/S b o) W' G.l lo' (cM (wr G.lo .none (.mark :: bw) mps x).heap ρ)).Ok P:=fun W'=>PM hw
 have rj:∀ W',Env P E.DX Γ (Gh.inner (seen W (wr G.lo .none (.mark :: bw) mps x).heap ρ) (fun b o=>So b o\/S b o) W' G.l lo' (cM (wr G.lo .none (.mark :: bw) mps x).heap ρ)) (Fence.wide.inRound l):=fun W' =>
  ⟨hE.mixed,hE.fns,hE.eq,hE.key,BE W',gI.wide.inRound l,fun q=>by cases q⟩
 have hlW:l < W.heap.size:=(Array.getElem?_eq_some_iff.1 zj).1
 have BH:¬ seen W (wr G.lo .none (.mark :: bw) mps x).heap ρ l:=fun ⟨id,h1⟩=>by
  rcases hI.sr.vT h1 with ⟨c,T,f,q⟩ | ⟨es,c,q⟩ <;> (rw [q] at zj; cases zj)
 refine cN (cF (G:=Gh.inner (seen W (wr G.lo .none (.mark :: bw) mps x).heap ρ) (fun b o=>So b o\/S b o) W G.l lo' (cM (wr G.lo .none (.mark :: bw) mps x).heap ρ)) (K:=aiM P E Γ G.lo lo' N body lb mps x) (ch:=Tree.any)
  (T:=fun t:Tree (RO mps)=>∀ ro,t.Has ro->(gE P E Γ G.lo lo' N ps.toList as body la lb e mps x i).Has ro) (rj W) (fun a b q=>⟨fun ro h=>q ro (.inl h),fun ro h=>q ro (.inr h)⟩)
  ⟨fun q=>hstep _ (q .bad rfl) rfl,fun s' q=>(hstep _ (q .bad rfl) rfl).elim⟩ (fun ro h=>h) (hla _ rfl (BE W) cL l) ⟨_,_,_,h0⟩) ?_
 rintro e1 a1 w1 ⟨o,ho,hT1⟩
 cases o with
 | exit id s1=>exact (hstep _ (hT1 .bad rfl) rfl).elim
 | ret s1=>exact (hstep _ (hT1 .bad rfl) rfl).elim
 | bP d s1=>exact (hstep _ (hT1 .bad rfl) rfl).elim
 | bad=>exact (hstep _ (hT1 .bad rfl) rfl).elim
 | norm s1 =>
  cases e1 <;> try exact ho.elim
  obtain ⟨ρ1,S1,F1,h1⟩:=ho
  have aiO:w1.heap[l]? = some (.loop { state:=.ready,pending:=none,fn:=fid,tmps:=a₁.tmps,params:=ps,assign:=as,body:=body,defers:=Db }):=(h1.same.block l ⟨hlW,BH,fun q=>q⟩).trans zj
  have aGs:¬ F1 l:=fun q=>h1.f0 l hlW q
  refine ⟨_,run_beginRound aiO rfl,?_⟩
  have Sy:=h1.avV (r':={ state:=.busy,pending:=none,fn:=fid,tmps:=a₁.tmps,params:=ps,assign:=as,body:=body,defers:=Db }) ⟨_,aiO⟩ hlW BH aGs
  refine cN (cF (G:=Gh.inner (seen W (wr G.lo .none (.mark :: bw) mps x).heap ρ) (fun b o=>So b o\/S b o) (W.putObj l (.loop { state:=.busy,pending:=none,fn:=fid,tmps:=a₁.tmps,params:=ps,assign:=as,body:=body,defers:=Db })) G.l lo' (cM (wr G.lo .none (.mark :: bw) mps x).heap ρ))
   (K:=fun o=>.leaf (avY G.lo lo' mps x o)) (ch:=Tree.any)
   (T:=fun t:Tree (RO mps)=>∀ ro,t.Has ro->(gE P E Γ G.lo lo' N ps.toList as body la lb e mps x i).Has ro) (rj _) (fun a b q=>⟨fun ro h=>q ro (.inl h),fun ro h=>q ro (.inr h)⟩)
   ⟨fun q=>hstep _ (q .bad rfl) rfl,fun s' q=>(hstep _ (q .bad rfl) rfl).elim⟩ (fun ro h=>hT1 ro h) (hlb _ rfl (BE _) cL l) ⟨_,_,_,Sy⟩) ?_
  rintro e2 a2 w3 ⟨o2,Bm,hT2⟩
  have hro:=hT2 _ rfl
  have hne:=hstep _ hro
  -- the main frame,with the record busy
  have hmP:=hm.adJ hE.gh (r':={ state:=.busy,pending:=none,fn:=fid,tmps:=a₁.tmps,params:=ps,assign:=as,body:=body,defers:=Db }) ⟨_,zj⟩ hl0 (fun q=>absurd (hI.fl l q) (Nat.lt_irrefl _))
  have adK:(W.putObj l (.loop { state:=.busy,pending:=none,fn:=fid,tmps:=a₁.tmps,params:=ps,assign:=as,body:=body,defers:=Db })).heap.size=W.heap.size:=by simp
  -- what holds behind the round,whichever way it was left
  have key:∀ {s2:St} {ρ2:fA} {S2:CS} {F2:Nat->Prop} {mk:(aa mps).den->RO mps},
    SR P N (Gh.inner (seen W (wr G.lo .none (.mark :: bw) mps x).heap ρ) (fun b o=>So b o\/S b o) (W.putObj l (.loop { state:=.busy,pending:=none,fn:=fid,tmps:=a₁.tmps,params:=ps,assign:=as,body:=body,defers:=Db })) G.l lo' (cM (wr G.lo .none (.mark :: bw) mps x).heap ρ)) s2 a2 w3 ρ2 S2 F2 ->
    Ff G.lo lo' mps x mk s2 ≠ .bad->∃ x' ρ3,Ff G.lo lo' mps x mk s2=mk x'/\a2.defers=[]/\(∃ r,w3.heap[l]? = some (.loop r)/\r={ state:=.busy,pending:=none,fn:=fid,tmps:=a₁.tmps,params:=ps,assign:=as,body:=body,defers:=Db }) /\
     dX (fun b=>b < W.heap.size/\¬ F b) W w3/\xl S W w3/\zy P N G bw mps a₁ SI l x' (fun b=>F b\/(W.heap.size<=b/\b < w3.heap.size)) S w3 ρ3 S2 FG:=by
   intro s2 ρ2 S2 F2 mk h2 hb
   obtain ⟨y,x',hd,hy,hs,ha,hmk⟩:=Th hb
   obtain ⟨ρ3,g1,g2⟩:=LL hE.gh hfree hw KT hmP (fun b ⟨id,q⟩=>⟨id,q.tr rfl fun b q1 q2=>World.putObj_heap_other fun e=>BH ⟨id,e ▸ .of q2 q1⟩⟩) h2 hd hy hs ha
   have WA:∀ b,b < W.heap.size->¬ seen W (wr G.lo .none (.mark :: bw) mps x).heap ρ b->w3.heap[b]? = (W.putObj l (.loop { state:=.busy,pending:=none,fn:=fid,tmps:=a₁.tmps,params:=ps,assign:=as,body:=body,defers:=Db })).heap[b]? := fun b hb hn =>
    h2.same.block b ⟨by show b < (W.putObj l _).heap.size; rw [adK]; exact hb,hn,fun q=>q⟩
   have WB:∀ b,seen W (wr G.lo .none (.mark :: bw) mps x).heap ρ b->F b:=fun b ⟨id,q1⟩=>hI.ob id b q1
   have aiP:W.heap.size<=w3.heap.size:=by have:=h2.same.size; have this:(W.putObj l _).heap.size<=w3.heap.size:=this; rw [adK] at this; exact this
   refine ⟨x',ρ3,hmk,?_,⟨_,?_,rfl⟩,⟨h2.same.os,h2.same.tape,h2.same.output,aiP,fun b hb=>?_⟩,?_,g1,fun b o q=>?_,fun id b q1=>?_,fun b q=>.inl (hI.fg b q),fun b q=>.inl (hI.w0 b q),fun D q=>.inl (hI.mks D q),fun b o q=>?_,hI.fl⟩
   ·have:=h2.bw
    rw [hd] at this
    cases ng:a2.defers with
    | nil=>rfl
    | cons d ds=>rw [ng] at this; exact this.elim
   ·rw [WA l hlW BH]; exact World.putObj_heap_same hlW
   ·rw [WA b hb.1 fun q=>hb.2 (WB b q)]
    exact World.putObj_heap_other fun q=>hb.2 (q ▸ hFl)
   ·exact (jE ⟨_,zj⟩).trans ((h2.ext.kps).mono fun b o q=>.inr q)
   ·rcases h2.new b o q with (q | q) | q | q
    ·exact (hI.so b o q).imp .inl id
    ·exact .inr q
    ·have q:(W.putObj l _).heap.size<=b:=q
     rw [adK] at q
     exact .inl (.inr ⟨q,h2.bd b o ‹_›⟩)
    ·exact .inl (.inl (WB b q))
   ·rcases g2 id b q1 with q | ⟨id',q3⟩
    ·rw [adK] at q
     exact .inr ⟨q,(g1.jy q1).1⟩
    ·exact .inl (hI.ob id' b (q3.back rfl fun b q1 q2=>World.putObj_heap_other fun e=>BH ⟨id',e ▸ .of q2 q1⟩))
   ·exact h2.ext.sub b o (.inl (hI.si b o q))
  -- the record's last turn
  have last:∀ {x':(aa mps).den} {ρ3:fA} {S2:CS} {r r':Go.Loop},w3.heap[l]? = some (.loop r)->dX (fun b=>b < W.heap.size/\¬ F b) W w3->xl S W w3 ->
    zy P N G bw mps a₁ SI l x' (fun b=>F b\/(W.heap.size<=b/\b < w3.heap.size)) S w3 ρ3 S2 FG ->
    xm F W (fun b=>F b\/(W.heap.size<=b/\b < w3.heap.size)) (w3.putObj l (.loop r'))/\dX (fun b=>b < W.heap.size/\¬ F b) W (w3.putObj l (.loop r'))/\xl S W (w3.putObj l (.loop r')) /\
    zy P N G bw mps a₁ SI l x' (fun b=>F b\/(W.heap.size<=b/\b < w3.heap.size)) S (w3.putObj l (.loop r')) ρ3 S2 FG/\(w3.putObj l (.loop r')).heap[l]? = some (.loop r'):=by
   intro x' ρ3 S2 r r' hr hs hk IZ
   refine ⟨⟨fun b q=>.inl q,fun b q=>q.imp id fun q=>q.1,fun b q=>by
    have hz:(w3.putObj l (.loop r')).heap.size=w3.heap.size:=by simp
    rw [hz]
    rcases q with q | q
    ·exact Nat.lt_of_lt_of_le (hFb b q) hs.size
    ·exact q.2⟩,hs.trans (xP fun q=>q.2 hFl),hk.trans (jE ⟨_,hr⟩),⟨IZ.sr.adJ hE.gh ⟨_,hr⟩ hl0 (fun q=>absurd (hI.fl l q) (Nat.lt_irrefl _)),IZ.so,fun id b q=>IZ.ob id b (q.back rfl fun b q1 q2=>World.putObj_heap_other fun e=>by
     subst e
     rcases IZ.sr.vT (.of q2 q1) with ⟨c,T,f,z⟩ | ⟨es,c,z⟩ <;> (rw [z] at hr; cases hr)),IZ.fg,IZ.w0,IZ.mks,IZ.si,IZ.fl⟩,World.putObj_heap_same (Array.getElem?_eq_some_iff.1 hr).1⟩
  cases o2 with
  | bad=>exact absurd rfl hne
  | norm s2 =>
   cases e2 <;> try exact Bm.elim
   obtain ⟨ρ2,S2,F2,h2⟩:=Bm
   obtain ⟨x',ρ3,hmk,_,⟨r,hr,rfl⟩,hs,hk,IZ⟩:=key h2 hne
   obtain ⟨g1,g2,g3,g4,g5⟩:=last (r':={ state:=.ready,pending:=none,fn:=fid,tmps:=a₁.tmps,params:=ps,assign:=as,body:=body,defers:=Db }) hr hs hk IZ
   refine ⟨_,_,run_endRound none hr,_,g1,g2,g3,.inl ⟨rfl,x',ρ3,S2,FG,.snoc hT (by rw [<- hmk]; exact hro),g4,.inl hFl,g5⟩⟩
  | exit id s2 =>
   cases e2 <;> try exact Bm.elim
   obtain ⟨rfl,ρ2,S2,F2,h2⟩:=Bm
   obtain ⟨x',ρ3,hmk,_,⟨r,hr,rfl⟩,hs,hk,IZ⟩:=key h2 hne
   obtain ⟨g1,g2,g3,g4,g5⟩:=last (r':={ state:=.done,pending:=some (.exit id),fn:=fid,tmps:=a₁.tmps,params:=ps,assign:=as,body:=body,defers:=Db }) hr hs hk IZ
   exact ⟨_,_,run_endRound (some (.exit id)) hr,_,g1,g2,g3,.inr (.inl ⟨rfl,k,i,x,.KU id x',x',ρ3,S2,FG,.exit id,rfl,hT,by rw [<- hmk]; exact hro,rfl,rfl,g4,.inl hFl,g5⟩)⟩
  | ret s2 =>
   cases e2 <;> try exact Bm.elim
   obtain ⟨ρ2,S2,F2,h2⟩:=Bm
   obtain ⟨x',ρ3,hmk,_,⟨r,hr,rfl⟩,hs,hk,IZ⟩:=key h2 hne
   obtain ⟨g1,g2,g3,g4,g5⟩:=last (r':={ state:=.done,pending:=some .ret,fn:=fid,tmps:=a₁.tmps,params:=ps,assign:=as,body:=body,defers:=Db }) hr hs hk IZ
   exact ⟨_,_,run_endRound (some .ret) hr,_,g1,g2,g3,.inr (.inl ⟨rfl,k,i,x,.ret x',x',ρ3,S2,FG,.ret,rfl,hT,by rw [<- hmk]; exact hro,rfl,rfl,g4,.inl hFl,g5⟩)⟩
  | bP d s2 =>
   cases e2 <;> try exact Bm.elim
   cases d with
   | zg T τ d =>
    obtain ⟨u,ρ2,S2,F2,kG,h2,u0,hu,hRd⟩:=Bm
    obtain ⟨x',ρ3,hmk,aGt,⟨r,hr,rfl⟩,hs,hk,IZ⟩:=key h2 hne
    subst hu
    refine ⟨aGt,fun b=>F b\/(W.heap.size<=b/\b < w3.heap.size),⟨fun b q=>.inl q,fun b q=>q.imp id fun q=>q.1,fun b q=>?_⟩,hs,hk,.inr (.inr ⟨_,rfl,k,i,x,T,τ,d,x',u0,ρ3,S2,FG,rfl,hT,by rw [<- hmk]; exact hro,kG,IZ,hRd⟩)⟩
    rcases q with q | q
    ·exact Nat.lt_of_lt_of_le (hFb b q) hs.size
    ·exact q.2
   | _=>exact absurd rfl hne
end Go.Dm
namespace Go.Dm
open Go.RowKit
variable {P:Program} {N N':Nat} {G:Gh} {S S' S2:CS} {w w' w2:World} {s s2:St} {a a2:Act} {ρ ρ' ρ2:fA} {F F' F2:Nat->Prop} {heap heap' H' H2:Nat->bu} {Y:Value} {E:cg} {Γ:Ctx} {Fw:Fence} {r:Nat} {ops:Array Oper} {lo lo' base:Nat} {bw:List fu} {vr DU:Nat->Nat} {n:Nat} {fid:FuncId} {mps:List bg} {e:Ty}
theorem dz.vW {n0:Nat}:∀ {ds:List fu} {dd:List Deferred},dz n0 w heap ρ F ds dd->∀ D∈marksOf dd,D < w.heap.size
 | [],[],_=>by simp [marksOf]
 | .mark :: r,d :: ds,⟨⟨D',h1,h2,h3,h4,h5⟩,h⟩=>by
  subst h1
  intro D hD
  have hD:D=D'\/D∈marksOf ds:=by simpa [marksOf] using hD
  rcases hD with rfl | hD
  ·exact (Array.getElem?_eq_some_iff.1 h4).1
  ·exact h.vW D hD
 | .iM f ids :: r,d :: ds,⟨⟨us,h1,h2⟩,h⟩=>by
  subst h1
  intro D hD
  exact h.vW D (by simpa [marksOf] using hD)
 | .marks :: r,dd,⟨ms,ds,e,h1,h⟩=>by
  subst e
  intro D hD
  have hmm:marksOf (ms ++ ds)=marksOf ms ++ marksOf ds:=by simp [marksOf]
  have key:∀ (ms:List Deferred),lV n0 w F ms ds->∀ D∈marksOf ms,D < w.heap.size:=by
   intro ms
   induction ms with
   | nil=>intro _ D hD; simp [marksOf] at hD
   | cons d ms ih =>
    rintro ⟨⟨D',q1,_,_,q4,_⟩,q⟩ D hD
    subst q1
    have hD:D=D'\/D∈marksOf ms:=by simpa [marksOf] using hD
    rcases hD with rfl | hD
    ·exact (Array.getElem?_eq_some_iff.1 q4).1
    ·exact ih q D hD
  rw [hmm] at hD
  rcases List.mem_append.1 hD with hD | hD
  ·exact key ms h1 D hD
  ·exact h.vW D hD
 | [],_ :: _,h=>h.elim
 | .mark :: _,[],h=>h.elim
 | .iM _ _ :: _,[],h=>h.elim
theorem Ti (hE:Env P E Γ G Fence.wide) (hfree:G.iL) {fd:Func} (hfd:P.funcs[fid]? = some fd) {t:Tmp} {ps:Array Tmp} (hps:ps.toList.all (Nat.blt · N)=true) (ql:ps.size=e.cells) (heL:e.isL=true)
  (hw:Dq lo' mps=true) (KT:qo (fh mps) bw=true) {as body:Code} {la lb:List Loop}
  (hla:∀ G':Gh,G'.lo=lo'->G'.Ok P->G'.iL->∀ l,ff P N G' fid (Fence.wide.inRound l) 0 as la) (hlb:∀ G':Gh,G'.lo=lo'->G'.Ok P->G'.iL->∀ l,ff P N G' fid (Fence.wide.inRound l) 0 body lb) :
  dF P N G fid Fence.wide 0 (.rangeFunc (.tmp t) ps as body) (LJ G.lo bw t e mps (gE P E Γ G.lo lo' N ps.toList as body la lb e mps)):=by
 intro s a w ⟨ρ,S,F,h⟩ bT
 unfold LJ at bT ⊢
 split at bT
 case h_2=>exact (bT .bad rfl).elim
 rename_i e' Wx x0 hd hs hx
 split at bT
 case h_2=>exact (bT .bad rfl).elim
 rename_i aGu hcast
 obtain ⟨heq,aGv⟩:=bY hcast
 cases heq
 cases aGv
 have hd:=cY hd
 have hro:∀ ro,(mP (gE P E Γ G.lo lo' N ps.toList as body la lb e mps) x0 (show Sl e.den from Wx).list).Has ro->ro ≠ .bad:=fun ro hr e=>by
  subst e
  exact bT _ (Tree.dA (f:=RO.out G.lo (.mark :: bw)) hr)
 -- the iterator
 have hv:=h.env t
 rw [hs] at hv
 obtain ⟨_,f,first,caps,hval,gY,hit⟩:=hv
 have hval:a.eval (.tmp t) = .func (.func f) first caps:=(List.cons.inj hval).1
 -- what lives
 have tg:=hw
 simp only [Dq,Bool.and_eq_true,Bool.not_eq_true'] at tg
 obtain ⟨⟨⟨⟨⟨⟨w1',w2'⟩,w3'⟩,w4'⟩,w5'⟩,w6'⟩,w7'⟩:=tg
 have h0:=qX hE.gh h (vr:=fun _=>0) (t:=.none) w1' (by rw [hd]; exact KT) (.inr (hfree _ _ _)) hx
 -- the record
 let Ja:Go.Loop:={ state:=.ready,pending:=none,fn:=fid,tmps:=a.tmps,params:=ps,assign:=as,body:=body,defers:=w.heap.size }
 let W:=(w.alloc (.deferred (some []))).alloc (.loop Ja)
 have e1:=kF h0.bd (.deferred (some []))
 have h1:=h0.grow hE.gh.c e1 (gO w _)
 have e2:=kF h1.bd (.loop Ja)
 have h2:=h1.grow hE.gh.c e2 (gO _ _)
 have hsz:W.heap.size=w.heap.size + 2:=by simp [W]
 have hD:W.heap[w.heap.size]? = some (.deferred (some [])):=by
  have q1:(w.alloc (.deferred (some []))).heap[w.heap.size]? = some (.deferred (some [])):=heap_alloc_new w _
  exact ((gO (w.alloc (.deferred (some []))) (.loop Ja)).block w.heap.size (by simp)).trans q1
 have hL:W.heap[w.heap.size + 1]? = some (.loop Ja):=by
  have q:=heap_alloc_new (w.alloc (.deferred (some []))) (.loop Ja)
  have e:(w.alloc (.deferred (some []))).heap.size=w.heap.size + 1:=by simp
  rw [e] at q
  exact q
 have hmk:=h0.bw.vW
 have h3:SR P N G (wr G.lo .none (.mark :: bw) mps x0) { a with defers:=[{ target:=.collected w.heap.size,args:=#[] }] ++ a.defers } W (iw G.ic s.heap ρ) S F:=by
  refine ⟨h2.size,⟨⟨w.heap.size,rfl,h.ext.size,fun q=>absurd (h.fb _ q) (Nat.lt_irrefl _),hD,fun q=>absurd (hmk _ q) (Nat.lt_irrefl _)⟩,?_⟩,h2.env,h2.obj,h2.inj,h2.ext,h2.new,h2.same,h2.tr,h2.fb,h2.f0,h2.sub,h2.fs,h2.pins⟩
  rw [<- hd]; exact h2.bw
 have hex:Ext0 S w S W:=e1.toExt0.trans e2.toExt0
 have hI:zy P N G bw mps { a with defers:=[{ target:=.collected w.heap.size,args:=#[] }] ++ a.defers } S (w.heap.size + 1) x0 (fun b=>b < W.heap.size) S W (iw G.ic s.heap ρ) S F:=by
  refine ⟨h3,fun b o q=>.inl (h3.bd b o q),fun id b q1=>(h3.jy q1).1,fun b q=>h3.fb b q,fun b q=>Nat.lt_of_lt_of_le q h3.ext.size,fun D q=>?_,fun b o q=>q,fun b q=>Nat.lt_succ_of_lt (h.fb b q)⟩
  have q:D=w.heap.size\/D∈marksOf a.defers:=by simpa [marksOf] using q
  rcases q with rfl | q
  ·rw [hsz]; omega
  ·have:=hmk D q; rw [hsz]; omega
 have hy:=IY (SI:=S) (x0:=x0) (l:=w.heap.size + 1) (Db:=w.heap.size) (a₁:={ a with defers:=[{ target:=.collected w.heap.size,args:=#[] }] ++ a.defers }) (items:=(show Sl e.den from Wx).list) hE hfree hfd hps ql heL hw KT hla hlb
  (by have:=h.ext.size; omega) hro
 have kP:=hit S W hex (Wy P N G bw mps { a with defers:=[{ target:=.collected w.heap.size,args:=#[] }] ++ a.defers } S (gE P E Γ G.lo lo' N ps.toList as body la lb e mps) x0 (w.heap.size + 1) Ja) (Wz hE.gh)
  (fun b=>b < W.heap.size) (w.heap.size + 1) ⟨x0,_,_,_,.nil,hI,by rw [hsz]; omega,hL⟩ (fun b=>Iff.rfl) hy
 have hres:(resolve a.eval (rangeCall (.tmp t) (w.heap.size + 1)) 0).run P W = .ok { target:=.fn (.func f) caps,args:=first ++ #[.func (.yield (w.heap.size + 1)) #[] #[]] } W:=by
  have em:Array.map a.eval #[Operand.const (Value.func (Fn.yield (w.heap.size + 1)) #[] #[])] = #[.func (.yield (w.heap.size + 1)) #[] #[]]:=by simp [Act.eval]
  simp only [resolve,rangeCall,hval,Deferred.ofValue,Sem.run_pure,em]
 refine Dr ⟨w.heap.size + 1,_,W,_,W,f,_,W,run_enterLoop_outer fid a.tmps ps as body,hres,fun _ _=>trivial,gY _ _,fun q=>(by cases q),(gI.wide.calls kP).mono ?_⟩
 rintro en w3 ⟨F',S',hg,hk,jT⟩
 have aiP:∀ b,b < W.heap.size->F' b:=fun b hb=>hg.sub b hb
 rcases jT with ⟨rfl,hJ | ⟨l',hl',hJ⟩⟩ | ⟨l',ch,hl',rfl,hJ⟩
 ·obtain ⟨x,ρ3,So,FG,hT,hI3,hFl,VU⟩:=hJ
  refine ⟨_,_,run_endLoop VU (by simp [Ja]),?_⟩
  have hh:=vV hT [] (.next x) rfl
  rw [List.append_nil] at hh
  exact ⟨_,Tree.dA (f:=RO.out G.lo (.mark :: bw)) hh,_,_,_,hI3.sr.adJ hE.gh ⟨_,VU⟩ (by have:=h.ext.size; omega) (fun q=>absurd (hI3.fl _ q) (Nat.lt_irrefl _))⟩
 ·obtain ⟨k0,i,x,o,x',ρ3,So,FG,c,rfl,hT,ho,av2,hj,hI3,hFl,VU⟩:=hJ
  refine ⟨_,_,run_endLoop VU (by simp),?_⟩
  obtain ⟨rest,jD⟩:=hl'
  rw [List.append_assoc] at jD
  have hsr:=hI3.sr.adJ hE.gh (r':={ { Ja with state:=.done,pending:=some c } with state:=.exhausted }) ⟨_,VU⟩ (by have:=h.ext.size; omega) (fun q=>absurd (hI3.fl _ q) (Nat.lt_irrefl _))
  cases o with
  | next _=>cases hj
  | bP _ _ _ _=>cases hj
  | bad=>cases hj
  | KU id y =>
   cases hj; cases av2
   have hh:=mg hT ho trivial rest
   rw [show k0 ++ i :: rest=k0 ++ ([i] ++ rest) from rfl,jD] at hh
   exact wpIn_exit ⟨_,Tree.dA (f:=RO.out G.lo (.mark :: bw)) hh,rfl,_,_,_,hsr⟩
  | ret y =>
   cases hj; cases av2
   have hh:=mg hT ho trivial rest
   rw [show k0 ++ i :: rest=k0 ++ ([i] ++ rest) from rfl,jD] at hh
   exact wpIn_ret ⟨_,Tree.dA (f:=RO.out G.lo (.mark :: bw)) hh,_,_,_,hsr⟩
 ·obtain ⟨k0,i,x,T,τ,d,x',u0,ρ3,So,FG,rfl,hT,ho,rfl,hI3,hR⟩:=hJ
  obtain ⟨rest,jD⟩:=hl'
  rw [List.append_assoc] at jD
  have hh:=mg hT ho trivial rest
  rw [show k0 ++ i :: rest=k0 ++ ([i] ++ rest) from rfl,jD] at hh
  exact ⟨_,Tree.dA (f:=RO.out G.lo (.mark :: bw)) hh,_,ρ3,So,FG,rfl,hI3.sr,u0,rfl,hR⟩
end Go.Dm
namespace Go.Dm
open Go.RowKit
variable {P:Program} {N N':Nat} {G:Gh} {S S' S2:CS} {w w' w2:World} {s s2:St} {a a2:Act} {ρ ρ' ρ2:fA} {F F' F2:Nat->Prop} {heap heap' H' H2:Nat->bu} {Y:Value} {E:cg} {Γ:Ctx} {Fw:Fence} {r:Nat} {ops:Array Oper} {lo lo' base:Nat} {bw:List fu} {vr DU:Nat->Nat} {n:Nat} {fid:FuncId} {mps:List bg} {e:Ty}
def LM (fid:FuncId) (F:Fence) (n:Nat) (P:Program) (c:Code) (Q:Exit->Act->List Frame->World->Prop) (a:Act) (cs:List Frame) (w:World):Prop:=
 ∀ (b:Frame) (k:List Item),b.fn=fid->b.kind = .deferred->b.roundOf=none->F.fn b.fn->F.room (cs.length + 1 + n) ->
  ∃ e a' cs' w',cs'.length=cs.length/\Q e a' cs' w'/\ArrivesIn (Machine.fenced P F) P (lone (b.atR a (.code c :: k)) cs w) b k cs' e a' w'
section
variable {Q:Exit->Act->List Frame->World->Prop} {cs:List Frame}
theorem Jb {c:Code} (hro:Fw.round=none) (h:yJ fid Fw n P c (fun e a' w'=>Q e a' cs w') a w):LM fid Fw n P c Q a cs w:=
 fun b k hf _ hr hb hroom=>let ⟨e,a',w',q,r⟩:=h b k cs hf (hr.trans hro.symm) hb hroom; ⟨e,a',cs,w',rfl,q,r⟩
theorem Ds {c:Code} (h:c.wpSIn Fw n P Q a cs w):LM fid Fw n P c Q a cs w:=fun b k _=>h b k
theorem WC {x y:Code} (h:LM fid Fw n P x (Exit.thenS (LM fid Fw n P y Q) Q) a cs w):LM fid Fw n P (.seq x y) Q a cs w:=by
 intro b k hf hb hr hF hroom
 have i0:(lone (b.atR a (.code (.seq x y) :: k)) cs w).fenced P Fw:=fenced_calm hF hroom rfl
 obtain ⟨e,a₁,cs₁,w₁,hl,hq,cS⟩:=h b (.code y :: k) hf hb hr hF hroom
 cases e with
 | normal =>
  obtain ⟨e₂,a₂,cs₂,w₂,hl₂,Vn,th⟩:=hq b k hf hb hr hF (hl ▸ hroom)
  exact ⟨e₂,a₂,cs₂,w₂,hl₂.trans hl,Vn,.of_steps (.head i0 stepR_seq cS) th⟩
 | exit id=>exact ⟨_,a₁,cs₁,w₁,hl,hq,.of_steps (.one i0 stepR_seq) (.pass (x:=.code y) rfl (fun _ _=>.inl (by simp)) cS)⟩
 | goto l=>exact ⟨_,a₁,cs₁,w₁,hl,hq,.of_steps (.one i0 stepR_seq) (.pass (x:=.code y) rfl (fun _ _=>.inl (by simp)) cS)⟩
 | ret=>exact ⟨_,a₁,cs₁,w₁,hl,hq,.of_steps (.one i0 stepR_seq) (.pass (x:=.code y) rfl (fun _ _=>.inl (by simp)) cS)⟩
 | panic ch=>exact ⟨_,a₁,cs₁,w₁,hl,hq,.of_steps (.one i0 stepR_seq) (.pass (x:=.code y) rfl (fun _ _=>.inl (by simp)) cS)⟩
 | outgrown=>exact ⟨_,a₁,cs₁,w₁,hl,hq,.of_steps (.one i0 stepR_seq) (.pass (x:=.code y) rfl (fun _ _=>.inl (by simp)) cS)⟩
theorem xQ {fn:Func} {c:Code} {args:Array Value} {u:FrameMode} {w:World} {R:Ending->FrameMode->World->Prop}
    (hf:P.funcs[fid]? = some fn) (hb:fn.body=some c) (hF:Fw.fn fid)
    (h:∀ (c₀:Frame) (cs:List Frame),c₀.mode=u ->
      LM fid Fw n P c (bodyPostS P fn c₀ cs R) { tmps:=args ++ Array.replicate (fn.ntmps - args.size) undef,defers:=[] } (c₀ :: cs) w) :
    CallsDIn Fw n P fid args u w R:=by
  refine ⟨hF,fun c₀ cs hu hroom=>?_⟩
  let b:Frame:={ (default:Frame) with fn:=fid,kind:=.deferred,roundOf:=none }
  have um:Frame.enter P fid args .deferred =
      b.atR { tmps:=args ++ Array.replicate (fn.ntmps - args.size) undef,defers:=[] } [.code c]:=by
    simp [Frame.enter,Frame.atR,hf,hb,b]
  obtain ⟨e,a',cs',w',hl,hq,cS⟩:=h c₀ cs hu b [] rfl rfl rfl hF hroom
  rw [<- um] at cS
  cases e with
  | normal =>
    obtain ⟨hd,u',rfl,v,hr,hR⟩:=hq
    exact ⟨.returned v,u',w',_,hR,StepsIn.trans cS (.one (fenced_calm (fr:=b.atR a' []) hF hroom rfl) (stepR_end rfl)),rfl,rfl,rfl,hd,fn,hf,hr⟩
  | ret =>
    obtain ⟨hd,u',rfl,v,hr,hR⟩:=hq
    obtain ⟨todo,hs⟩:=cS.1 rfl
    exact ⟨.returned v,u',w',_,hR,hs,rfl,rfl,rfl,hd,fn,hf,hr⟩
  | panic chain =>
    obtain ⟨hd,u',rfl,hR⟩:=hq
    obtain ⟨todo,hs⟩:=cS
    exact ⟨.panicked chain,u',w',_,hR,hs,rfl,rfl,rfl,hd,fn,hf⟩
  | exit id=>exact hq.elim
  | goto l=>exact hq.elim
  | outgrown =>
    obtain ⟨u',hR⟩:=hq
    exact ⟨.outgrown,u',w',b,hR,cS.resolve_left (by simp [b]),rfl,rfl,trivial⟩
end
inductive Md where
 | ret
 | bP (T:TypeId) (τ:Ty) (d:τ.den)
def Md.dc:Md->DC
 | .ret=>.qD
 | .bP T τ d=>.zg T τ d
def ru (P:Program) (S:CS) (w:World):Md->FrameMode->Prop
 | .ret,u=>u = .returning
 | .bP T τ d,u=>∃ u0,u = .panicking [{ v:=.iface T u0,recovered:=false }]/\R P τ S w d [u0]
def adL (lo:Nat) (ps:List bg) (x:(aa ps).den):Out->Tree (Option (aa (aD ps)).den)
 | .ret s | .norm s=>match s.bw,rd lo s (aD ps) with
  | [],some y=>match cB ps x y with
   | true=>.leaf (some y)
   | false=>.leaf none
  | _,_=>.leaf none
 | _=>.leaf none
def amc (P:Program) (E:cg) (Γ:Ctx) (N:Nat) (rest:Code) (ls:List Loop) (lo:Nat) (ps:List bg) (t:Nat) (m:Md) (x:(aa ps).den):Option (aa (aD ps)).den:=
 (fQ P E Γ lo N .any rest ls { wr lo .none [] ps x with env:=setEnv (wr lo .none [] ps x).env t (.v m.dc) } (adL lo ps x)).sure
abbrev LN:=List Nat->Md->(Nat->bu)->Option (List (Nat×bu))
def adM (n:Nat) (ps:List bg) (run:Md->(aa ps).den->Option (aa (aD ps)).den):LN:=fun ids m heap =>
 match Nat.ble ids.length n,rd 0 ⟨fun t=>(ids.map fun i=>Slot.v (.ptr i 0)).getD t .top,heap,.none,0,[]⟩ ps with
 | true,some x=>(run m x).map fun y=>bC (cx heap) (aD ps) y
 | _,_=>none
def BI (P:Program) (f:FuncId) (app:LN):Prop:=
 ∀ (N:Nat) (G:Gh) (s:St) (a:Act) (w:World) (ρ:fA) (S:CS) (F:Nat->Prop),G.Ok P->G.lo=0->SR P N G s a w ρ S F ->
  ∀ (ids:List Nat) (us:List Value) (m:Md) (u:FrameMode) (wh:List (Nat×bu)),dn s.heap ρ ids us->ru P S w m u->app ids m s.heap=some wh ->
   CallsDIn Fence.wide 0 P f us.toArray u w fun e u' w'=>(∃ v,e = .returned v)/\settle u' = .returning/\∃ ρ' S',SR P N G { s with heap:=cE s.heap wh } a w' ρ' S' F
theorem dn.len:∀ {ids:List Nat} {us:List Value},dn heap ρ ids us->ids.length=us.length
 | [],[],_=>rfl
 | _ :: _,_ :: _,h=>by simp [dn.len h.2]
 | [],_ :: _,h=>h.elim
 | _ :: _,[],h=>h.elim
theorem dn.get:∀ {ids:List Nat} {us:List Value},dn heap ρ ids us->∀ t,RS P Y S w heap ρ ((ids.map fun i=>Slot.v (.ptr i 0)).getD t .top) (us.getD t undef)
 | [],[],_,t=>trivial
 | _ :: _,_ :: _,h,0=>h.1
 | _ :: _,_ :: _,h,t + 1=>by simpa using dn.get h.2 t
 | [],_ :: _,h,_=>h.elim
 | _ :: _,[],h,_=>h.elim
theorem tn (hm:P.follows .mixedOrders=true) (hΓ:Sound P Γ) (hE:fB P E.eq) (hK:dN P E.key) {f:FuncId} {fn:Func} (hf:P.funcs[f]? = some fn) {rid:Nat} {o:Oper} {rest:Code} (hb:fn.body=some (.seq (.region rid #[o] false) rest))
  {c:Call} (hop:o.op = .call c) (SH:c.callee = .builtin .recover) (amd:c.args = #[]) (hg:o.guard=none) {t:Nat} (av3:o.dst=some t) (ht:Nat.blt t fn.ntmps=true) (hres:fn.results = #[])
  {ls:List Loop} {ps:List bg} (hw:Dq lo ps=true) (hl:∀ G':Gh,G'.lo=lo->G'.iL->G'.Ok P->ff P fn.ntmps G' f Fence.wide 0 rest ls) :
  BI P f (adM fn.ntmps ps (amc P E Γ fn.ntmps rest ls lo ps t)):=by
 intro N G s a w ρ S F hG hG0 h ids us m u wh sB PN oc
 unfold adM at oc
 split at oc
 case h_2=>cases oc
 rename_i x hlen hx
 have hlen:=Nat.le_of_ble_eq_true hlen
 rw [Option.map_eq_some_iff] at oc
 obtain ⟨y,hy,rfl⟩:=oc
 have hx:rd G.lo ⟨fun t=>(ids.map fun i=>Slot.v (.ptr i 0)).getD t .top,s.heap,s.tr,0,[]⟩ ps=some x:=by
  have tg:=hw
  simp only [Dq,Bool.and_eq_true,Bool.not_eq_true'] at tg
  rw [hG0,<- hx]
  have:∀ qs:List bg,lZ qs=false->rd 0 ⟨fun t=>(ids.map fun i=>Slot.v (.ptr i 0)).getD t .top,s.heap,s.tr,0,[]⟩ qs=rd 0 ⟨fun t=>(ids.map fun i=>Slot.v (.ptr i 0)).getD t .top,s.heap,.none,0,[]⟩ qs:=by
   intro qs
   induction qs with
   | nil=>intro _; rfl
   | cons q qs ih =>
    intro hq
    cases q with
    | tr e=>cases hq
    | _=>simp only [rd,ih hq]; rfl
  exact this ps tg.1.1.2
 have tg:=hw
 simp only [Dq,Bool.and_eq_true,Bool.not_eq_true'] at hw
 obtain ⟨⟨⟨⟨⟨⟨w1,w2⟩,w3⟩,w4⟩,w5⟩,w6⟩,w7⟩:=hw
 have hul:us.length<=fn.ntmps:=by rw [<- sB.len]; omega
 have hv:SR P fn.ntmps G ⟨fun t=>(ids.map fun i=>Slot.v (.ptr i 0)).getD t .top,s.heap,s.tr,0,[]⟩ (kX fn.ntmps us) w ρ S F:=by
  refine ⟨kY hul,trivial,fun t=>?_,h.obj,h.inj,h.ext,h.new,h.same,h.tr,h.fb,h.f0,h.sub,h.fs,h.pins⟩
  rw [nu]
  exact sB.get t
 have h1:=qX hG hv (vr:=fun _=>0) (t:=s.tr) w1 rfl (.inr h.tr) hx
 have h2:SR P fn.ntmps (G.callee S w s.heap ρ lo ps x) (wr lo .none [] ps x) (kX fn.ntmps us) w (iw G.ic s.heap ρ) S (fun _=>False):=
  (h1.enter (lo:=lo) (l:=G.l) rfl).of_eq rfl rfl (fR w5) rfl
 have BE:(G.callee S w s.heap ρ lo ps x).Ok P:=xM tg
 have rj:Env P E Γ (G.callee S w s.heap ρ lo ps x) Fence.wide:=⟨hm,hΓ,hE,hK,BE,.wide,fun _=>rfl⟩
 -- the value of 'recover',and the frame's mode then
 have zj:∃ v u',RC P G.Y S w (bR (bC (fun _=>0) ps x)) (iw G.ic s.heap ρ) m.dc v/\settle u' = .returning /\
   ∀ (c₀:Frame) (cs:List Frame),c₀.mode=u->(recoverD (c₀ :: cs)=some (v,{ c₀ with mode:=u' } :: cs))\/(recoverD (c₀ :: cs)=none/\v = .nilIface/\u'=c₀.mode):=by
  cases m with
  | ret =>
   have hu:u = .returning:=PN
   subst hu
   exact ⟨.nilIface,.returning,rfl,rfl,fun c₀ cs hc=>.inr ⟨by simp [recoverD,hc],rfl,hc.symm⟩⟩
  | bP T τ d =>
   obtain ⟨u0,rfl,hR⟩:=PN
   refine ⟨.iface T u0,.panicking [{ v:=.iface T u0,recovered:=true }],⟨u0,rfl,hR⟩,rfl,fun c₀ cs hc=>.inl ?_⟩
   simp [recoverD,hc]
 obtain ⟨v,u',hvr,Bn,av4⟩:=zj
 refine xQ hf hb trivial fun c₀ cs hc=>WC (Ds (wpSIn_region ?_))
 have hrun:∀ a:Act,(execOp a.eval o).run P w = .ok .recover w:=fun a=>by
  simp [execOp,hop,resolve,SH,amd,invoke]
  rfl
 have av5:∀ a:Act,Region.wanted o (yielded #[o] a.tmps)=true:=fun a=>by simp [Region.wanted,hg]
 have jD:∀ cs',cs'={ c₀ with mode:=u' } :: cs->LM f Fence.wide 0 P rest (bodyPostS P fn c₀ cs fun e u' w'=>(∃ v,e = .returned v)/\settle u' = .returning/\∃ ρ' S',SR P N G { s with heap:=cE s.heap (bC (cx s.heap) (aD ps) y) } a w' ρ' S' F)
   ((kX fn.ntmps us).put o.dst v) cs' w:=by
  intro cs' hcs
  subst hcs
  refine Jb rfl ?_
  have av6:=Tree.rm hy
  have h3:SR P fn.ntmps (G.callee S w s.heap ρ lo ps x) { wr lo .none [] ps x with env:=setEnv (wr lo .none [] ps x).env t (.v m.dc) } ((kX fn.ntmps us).put o.dst v) w (iw G.ic s.heap ρ) S (fun _=>False):=by
   have:=h2.put (dst:=o.dst) (sl:=.v m.dc) (v:=v) (by rw [av3]; simpa using ht) hvr
   rw [av3] at this ⊢
   exact this
  refine cN (cF (G:=G.callee S w s.heap ρ lo ps x) (K:=adL lo ps x) (ch:=Tree.any) (T:=fun t:Tree (Option (aa (aD ps)).den)=>t.gJ (· = some y)) rj (fun a b q=>q)
   ⟨(fun q=>by cases (show none=some _ from q)),(fun s' q=>by cases (show none=some _ from q))⟩ av6 (hl _ rfl cL BE) ⟨_,_,_,h3⟩) ?_
  rintro e a' w' ⟨o',ho,hT⟩
  have fin:∀ s',SX P fn.ntmps (G.callee S w s.heap ρ lo ps x) s' a' w'->(adL lo ps x (.ret s')).gJ (· = some y)->bodyPostS P fn c₀ cs (fun e u' w'=>(∃ v,e = .returned v)/\settle u' = .returning/\∃ ρ' S',SR P N G { s with heap:=cE s.heap (bC (cx s.heap) (aD ps) y) } a w' ρ' S' F) .ret a' ({ c₀ with mode:=u' } :: cs) w':=by
   rintro s' ⟨ρ',S',F',q⟩ hT
   simp only [adL] at hT
   split at hT
   case h_2=>cases (show none=some _ from hT)
   rename_i y' hd hrd
   split at hT
   case h_2=>cases (show none=some _ from hT)
   rename_i hsm
   have hT:some y'=some y:=hT
   cases hT
   have ng:a'.defers=[]:=by
    have:=q.bw
    rw [hd] at this
    cases hx:a'.defers with
    | nil=>rfl
    | cons d ds=>rw [hx] at this; exact this.elim
   obtain ⟨us',r1,_⟩:=jC (fn:=fn) (τ:=.nil) (y:=()) q (by rw [hres]; rfl)
   obtain ⟨Tc,hb⟩:=xN hG h tg hv rfl hx q hd hrd hsm
   exact ⟨ng,u',rfl,_,r1,⟨_,rfl⟩,Bn,Tc,S',hb⟩
  cases o' with
  | norm s'=>cases e <;> first | exact ho.elim | exact fin s' ho hT
  | ret s'=>cases e <;> first | exact ho.elim | exact fin s' ho hT
  | exit id s'=>cases (show none=some _ from hT)
  | bad=>cases (show none=some _ from hT)
  | bP d s'=>cases (show none=some _ from hT)
 show wpOpsSIn Fence.wide 0 P #[o] _ [0] (kX fn.ntmps us) _ _
 generalize hac:kX fn.ntmps us=ac at jD ⊢
 simp only [wpOpsSIn,List.getElem?_toArray,List.getElem?_cons_zero]
 refine ⟨fun _ _=>trivial,?_⟩
 rw [if_pos (av5 ac)]
 simp only [hrun]
 rcases av4 c₀ cs hc with q | ⟨q,hv',hu'⟩
 ·simp only [q]
  exact jD _ rfl
 ·simp only [q]
  rw [<- hv']
  refine jD _ ?_
  rw [hu']
end Go.Dm
namespace Go.Dm
open Go.RowKit
variable {P:Program} {N N':Nat} {G:Gh} {S S' S2:CS} {w w' w2:World} {s s' s2:St} {a a2:Act} {ρ ρ' ρ2:fA} {F F' F2:Nat->Prop} {heap heap' H' H2:Nat->bu} {Y:Value} {E:cg} {Γ:Ctx} {Fw:Fence} {r:Nat} {ops:Array Oper} {lo lo' base:Nat} {bw:List fu} {vr DU:Nat->Nat} {n:Nat} {fid:FuncId} {mps:List bg} {e:Ty}
abbrev ry:=FuncId->Option LN
def xR (P:Program) (Δ:ry):Prop:=∀ f app,Δ f=some app->eY P f/\BI P f app
def kZ (Δ:ry):List fu->Md->St->Option St
 | [],.ret,s=>some { s with bw:=[] }
 | [],.bP _ _ _,_=>none
 | .mark :: r,m,s=>kZ Δ r m s
 | .marks :: _,_,_=>none
 | .iM f ids :: r,m,s=>match Δ f with
  | some app=>match app ids m s.heap with
   | some wh=>kZ Δ r .ret { s with heap:=cE s.heap wh }
   | none=>none
  | none=>none
theorem ru.mono {m:Md} {u:FrameMode} (h:ru P S w m u) (ex:Ext0 S w S' w'):ru P S' w' m u:=by
 cases m with
 | ret=>exact h
 | bP T τ d=>obtain ⟨u0,h1,h2⟩:=h; exact ⟨u0,h1,h2.mono ex⟩
theorem ru.ne {m:Md} {u:FrameMode} (h:ru P S w m u):u ≠ .run:=by
 cases m with
 | ret=>rw [show u=_ from h]; simp
 | bP T τ d=>obtain ⟨u0,h1,_⟩:=h; rw [h1]; simp
theorem uu (hG:G.Ok P) (hG0:G.lo=0) {Δ:ry} (hΔ:xR P Δ) {fn:Func} {K:Ending->World->Prop}:∀ (r:List fu) {m:Md} {u:FrameMode} {s s':St} {a:Act} {w:World} {ρ:fA} {S:CS},s.bw=r->SR P N G s a w ρ S F->ru P S w m u->kZ Δ r m s=some s' ->
  (∀ w' ρ' S',SR P N G s' { a with defers:=[] } w' ρ' S' F->LeavesInM Fence.wide 0 P fn a.tmps K [] .returning w')->LeavesInM Fence.wide 0 P fn a.tmps K a.defers u w
 | [],m,u,s,s',a,w,ρ,S,hr,h,hm,hl,hK=>by
  have hd:=h.bw
  rw [hr] at hd
  cases ng:a.defers with
  | cons d ds=>rw [ng] at hd; exact hd.elim
  | nil =>
   cases m with
   | bP T τ d=>cases hl
   | ret =>
    cases hl
    rw [show u = .returning from hm]
    refine hK w ρ S ?_
    have:({ a with defers:=[] }:Act)=a:=by cases a; simp only at ng; subst ng; rfl
    rw [this]
    exact h.of_eq rfl rfl rfl hr.symm
 | .mark :: r,m,u,s,s',a,w,ρ,S,hr,h,hm,hl,hK=>by
  have hd:=h.bw
  rw [hr] at hd
  cases ng:a.defers with
  | nil=>rw [ng] at hd; exact hd.elim
  | cons d ds =>
   rw [ng] at hd
   obtain ⟨⟨D,rfl,h2,h3,h4,h5⟩,jD⟩:=hd
   have ht:=h.take hG h2 h3 h4 (jD.put h5)
   refine ⟨hm.ne,.inl ⟨D,_,rfl,run_takeDeferred h4,?_⟩⟩
   have hlt:=(Array.getElem?_eq_some_iff.1 h4).1
   have hsz:(w.putObj D (.deferred none)).heap.size=w.heap.size:=by simp [World.putObj]
   have ex:Ext0 S w S (w.putObj D (.deferred none)):=by
    refine ⟨by omega,fun _ _ q=>q,fun b o _=>?_,fun b o es c _ q=>(World.putObj_heap_other fun e=>by rw [e,h4] at q; cases q).trans q,fun b o q=>by rw [hsz]; exact h.bd b o q,.putObj hlt (fun _ _ _=>by simp)⟩
    by_cases hb:b=D
    ·subst hb
     have h2:(w.putObj b (.deferred none)).heap[b]? = some (.deferred none):=World.putObj_heap_same hlt
     simp [World.cell?,h2,h4]
    ·exact World.cell?_of_block (a:=⟨b,o,none⟩) (World.putObj_heap_other hb)
   have hdi:∀ (r:List fu) (m:Md) (s:St) (d:List fu),kZ Δ r m { s with bw:=d }=kZ Δ r m s:=by
    intro r
    induction r with
    | nil=>intro m s d; cases m <;> rfl
    | cons x r ih =>
     intro m s d
     cases x with
     | mark=>exact ih m s d
     | marks=>rfl
     | iM f ids =>
      simp only [kZ]
      cases Δ f with
      | none=>rfl
      | some app =>
       simp only
       cases app ids m s.heap with
       | none=>rfl
       | some wh=>exact ih .ret { s with heap:=cE s.heap wh } d
   exact uu hG hG0 hΔ r (s:={ s with bw:=r }) (a:={ a with defers:=ds }) rfl ht (hm.mono ex) ((hdi r m s r).trans hl) hK
 | .marks :: r,m,u,s,s',a,w,ρ,S,hr,h,hm,hl,hK=>by cases hl
 | .iM f ids :: r,m,u,s,s',a,w,ρ,S,hr,h,hm,hl,hK=>by
  have hd:=h.bw
  rw [hr] at hd
  cases ng:a.defers with
  | nil=>rw [ng] at hd; exact hd.elim
  | cons d ds =>
   rw [ng] at hd
   obtain ⟨⟨us,rfl,sB⟩,jD⟩:=hd
   simp only [kZ] at hl
   split at hl
   case h_2=>cases hl
   rename_i app oc
   split at hl
   case h_2=>cases hl
   rename_i wh hwh
   obtain ⟨gY,hdh⟩:=hΔ f app oc
   have hinv:(invoke (.fn (.func f) us.toArray) #[]).run P w = .ok (.enter f us.toArray) w:=by
    have:=gY us.toArray w
    simpa [invoke] using this
   refine ⟨hm.ne,.inr ⟨fun q=>(by cases q),.func f,us.toArray,f,us.toArray,rfl,hinv,fun _ _=>trivial,?_⟩⟩
   refine (hdh N G s a w ρ S F hG hG0 h ids us m u wh sB hm hwh).mono ?_
   rintro en u' w1 ⟨⟨v,rfl⟩,Bn,ρ1,S1,h1⟩
   show LeavesInM Fence.wide 0 P fn a.tmps K ds (settle u') w1
   have hd1:=h1.bw
   have hd1:dz G.w0.heap.size w1 (cE s.heap wh) ρ1 F s.bw a.defers:=hd1
   rw [hr,ng] at hd1
   have h2:SR P N G { s with heap:=cE s.heap wh,bw:=r } { a with defers:=ds } w1 ρ1 S1 F:=
    ⟨h1.size,hd1.2,h1.env,h1.obj,h1.inj,h1.ext,h1.new,h1.same,h1.tr,h1.fb,h1.f0,h1.sub,h1.fs,h1.pins⟩
   have hdi:∀ (r:List fu) (m:Md) (s:St) (d:List fu),kZ Δ r m { s with bw:=d }=kZ Δ r m s:=by
    intro r
    induction r with
    | nil=>intro m s d; cases m <;> rfl
    | cons x r ih =>
     intro m s d
     cases x with
     | mark=>exact ih m s d
     | marks=>rfl
     | iM f ids =>
      simp only [kZ]
      cases Δ f with
      | none=>rfl
      | some app =>
       simp only
       cases app ids m s.heap with
       | none=>rfl
       | some wh=>exact ih .ret { s with heap:=cE s.heap wh } d
   exact uu hG hG0 hΔ r (m:=.ret) (s:={ s with heap:=cE s.heap wh,bw:=r }) (a:={ a with defers:=ds }) rfl h2 Bn ((hdi r .ret { s with heap:=cE s.heap wh } r).trans hl) hK
def adN (P:Program) (Δ:ry) (fn:Func) (τ:Ty) (m:Md) (s:St):Option τ.den:=
 match kZ Δ s.bw m s with
 | some s'=>iA P fn.results.toList τ (vS fn s')
 | none=>none
def PO (P:Program) (Δ:ry) (fn:Func) (τ:Ty):Out->Tree (Option τ.den)
 | .ret s | .norm s=>.leaf (adN P Δ fn τ .ret s)
 | .bP (.zg T σ d) s=>.leaf (adN P Δ fn τ (.bP T σ d) s)
 | _=>.leaf none
def rz (P:Program) (E:cg) (Γ:Ctx) (Δ:ry) (fn:Func) (ls:List Loop) (τa τr:Ty) (x:τa.den):Tree (Option τr.den):=
 match fn.body with
 | some c=>fQ P E Γ 0 fn.ntmps .any c ls (xK τa x) (PO P Δ fn τr)
 | none=>.leaf none
theorem Dt (hm:P.follows .mixedOrders=true) (hΓ:Sound P Γ) {Δ:ry} (hΔ:xR P Δ) (hE:fB P E.eq) (hK:dN P E.key) {f:FuncId} {fn:Func} {c:Code} (hf:P.funcs[f]? = some fn) (hb:fn.body=some c) {ls:List Loop}
  (hl:∀ S w,ff P fn.ntmps (Gh.start S w) f Fence.wide 0 c ls)
  (lS:Con) (hn:lS.args.cells<=fn.ntmps) (h:∀ x,lS.pre x=true->(rz P E Γ Δ fn ls lS.args lS.res x).gJ (· = some (lS.fn x))):aQ P f lS:=by
 intro S w hbd x vs hp hr
 have hx:=h x hp
 unfold rz at hx
 rw [hb] at hx
 refine (callsIn_wide (n:=0)).1 (fe hf hb trivial ?_)
 have hi:=PJ (N:=fn.ntmps) hbd hr (by rw [hr.len]; exact hn)
 have rj:Env P E Γ (Gh.start S w) Fence.wide:=⟨hm,hΓ,hE,hK,jB,.wide,fun _=>rfl⟩
 refine cN (cF (G:=Gh.start S w) (K:=PO P Δ fn lS.res) (ch:=Tree.any) (T:=fun t:Tree (Option lS.res.den)=>t.gJ (· = some (lS.fn x))) rj (fun a b q=>q) ⟨(fun q=>by cases (show none=some _ from q)),(fun s' q=>by cases (show none=some _ from q))⟩ hx (hl S w) ⟨_,_,_,hi⟩) ?_
 rintro e a' w' ⟨o,ho,hT⟩
 have fin:∀ (s:St) (m:Md) (u:FrameMode) (ρ:fA) (S':CS) (F:Nat->Prop),SR P fn.ntmps (Gh.start S w) s a' w' ρ S' F->ru P S' w' m u->adN P Δ fn lS.res m s=some (lS.fn x) ->
   LeavesInM Fence.wide 0 P fn a'.tmps (fun e w'=>∃ S' rs,e = .returned (pack rs)/\R P lS.res S' w' (lS.fn x) rs/\Ext S w S' w'/\Below w.heap.size w w') a'.defers u w':=by
  intro s m u ρ S' F hs PN Te
  unfold adN at Te
  split at Te
  case h_2=>cases Te
  rename_i s1 hl1
  refine uu jB rfl hΔ _ rfl hs PN hl1 fun w'' ρ' Ii q1=>?_
  obtain ⟨ρ2,S2,F2,q2⟩:=SX.dO jB (sE fn.results.toList) ⟨ρ',Ii,F,q1⟩
  obtain ⟨us,r1,r2⟩:=jC (fn:=fn) (τ:=lS.res) (y:=lS.fn x) q2 Te
  obtain ⟨e1,e2⟩:=q2.IV (M:=fun _=>False)
  exact ⟨_,r1,S2,us,rfl,r2,e1,e2⟩
 cases o with
 | norm s=>cases e <;> first | exact ho.elim | exact (let ⟨ρ,S',F,q⟩:=ho; fin s .ret .returning ρ S' F q rfl hT)
 | ret s=>cases e <;> first | exact ho.elim | exact (let ⟨ρ,S',F,q⟩:=ho; fin s .ret .returning ρ S' F q rfl hT)
 | exit id s=>cases (show none=some _ from hT)
 | bad=>cases (show none=some _ from hT)
 | bP d s =>
  cases e <;> try exact ho.elim
  cases d with
  | zg T τ d =>
   obtain ⟨u,ρ,S',F,kG,q,u0,hu,hR⟩:=ho
   subst kG hu
   exact fin s (.bP T τ d) _ ρ S' F q ⟨u0,rfl,hR⟩ hT
  | _=>cases (show none=some _ from hT)
end Go.Dm
namespace Go.Dm
open Go.RowKit
variable {P:Program} {N N':Nat} {G:Gh} {S S' S2:CS} {w w' w2:World} {s s' s2:St} {a a2:Act} {ρ ρ' ρ2:fA} {F F' F2:Nat->Prop} {heap heap' H' H2:Nat->bu} {Y:Value} {E:cg} {Γ:Ctx} {Fw:Fence} {r:Nat} {ops:Array Oper} {lo lo' base:Nat} {bw:List fu} {vr DU:Nat->Nat} {n:Nat} {fid:FuncId} {mps:List bg} {e:Ty}
structure FR where
 T:TypeId
 e:Ty
 s:Sl e.den
theorem Jc {τ:Ty} {x:τ.den} {vs:List Value} {l:Nat} (hb:Bd S w) (hr:R P τ S w x vs) (hn:vs.length<=N) :
  SR P N (Gh.inner (fun _=>False) S w l 0 fun _=>none) (xK τ x) (kX N vs) w (fun _=>none) S (fun _=>False):=by
 refine ⟨kY hn,trivial,fun t=>?_,fun id=>trivial,fun i j b hi=>hi.elim,.refl hb,fun _ _ q=>.inl q,.refl _ _,cL _ _ _,fun _ q=>q.elim,fun _ _ q=>q,fun _ q=>q,fun _ _ _ _=>trivial,fun _ _ q=>by cases q⟩
 rw [nu]
 exact gR hr t
end Go.Dm
namespace Go.Dm
open Go.RowKit
variable {P:Program} {N:Nat} {G:Gh} {Fw:Fence} {r:Nat} {fid:FuncId}
def dZ:Code->Option Code
 | .seq a b=>match dZ a with
  | some c=>some c
  | none=>dZ b
 | .cond _ a b=>match dZ a with
  | some c=>some c
  | none=>dZ b
 | .block _ b=>dZ b
 | .scope b=>dZ b
 | .loop b=>some b
 | _=>none
theorem cO:∀ {c:Code},ff P N G fid Fw r c []
 | .seq a b=>⟨by simpa using cO (c:=a),by simpa using cO (c:=b)⟩
 | .cond _ a b=>⟨by simpa using cO (c:=a),by simpa using cO (c:=b)⟩
 | .block _ b=>cO (c:=b)
 | .scope b=>cO (c:=b)
 | .loop b=>trivial
 | .rangeFunc _ _ _ _=>trivial
 | .skip=>trivial
 | .region _ _ _=>trivial
 | .exit _=>trivial
 | .ret=>trivial
 | .label _=>trivial
 | .goto _=>trivial
 | .refuse _=>trivial
theorem dV:∀ {c:Code},Code.loops c=0->dZ c=none
 | .seq a b,h=>by
  have h:Code.loops a + Code.loops b=0:=h
  simp only [dZ,dV (c:=a) (by omega),dV (c:=b) (by omega)]
 | .cond _ a b,h=>by
  have h:Code.loops a + Code.loops b=0:=h
  simp only [dZ,dV (c:=a) (by omega),dV (c:=b) (by omega)]
 | .block _ b,h=>dV (c:=b) h
 | .scope b,h=>dV (c:=b) h
 | .loop b,h=>by cases h
 | .rangeFunc _ _ _ _,h=>by cases h
 | .skip,_=>rfl
 | .region _ _ _,_=>rfl
 | .exit _,_=>rfl
 | .ret,_=>rfl
 | .label _,_=>rfl
 | .goto _,_=>rfl
 | .refuse _,_=>rfl
theorem gi {b:Code} {f:St->Tree Out} (hl:dF P N G fid Fw r (.loop b) f):∀ {c:Code},Code.loops c=1->dZ c=some b->ff P N G fid Fw r c [.known f]
 | .seq x y,h,hb=>by
  have h:Code.loops x + Code.loops y=1:=h
  rcases Nat.eq_zero_or_pos (Code.loops x) with h0 | h0
  ·refine ⟨?_,?_⟩
   ·rw [h0]; exact cO
   ·rw [h0]
    refine gi hl (c:=y) (by omega) ?_
    simpa [dZ,dV h0] using hb
  ·have hx:Code.loops x=1:=by omega
   refine ⟨?_,?_⟩
   ·rw [hx]
    refine gi hl (c:=x) hx ?_
    cases hq:dZ x with
    | some c=>simpa [dZ,hq] using hb
    | none=>simp [dZ,hq,dV (c:=y) (by omega)] at hb
   ·rw [hx]; exact cO
 | .cond _ x y,h,hb=>by
  have h:Code.loops x + Code.loops y=1:=h
  rcases Nat.eq_zero_or_pos (Code.loops x) with h0 | h0
  ·refine ⟨?_,?_⟩
   ·rw [h0]; exact cO
   ·rw [h0]
    refine gi hl (c:=y) (by omega) ?_
    simpa [dZ,dV h0] using hb
  ·have hx:Code.loops x=1:=by omega
   refine ⟨?_,?_⟩
   ·rw [hx]
    refine gi hl (c:=x) hx ?_
    cases hq:dZ x with
    | some c=>simpa [dZ,hq] using hb
    | none=>simp [dZ,hq,dV (c:=y) (by omega)] at hb
   ·rw [hx]; exact cO
 | .block _ c,h,hb=>gi hl (c:=c) h hb
 | .scope c,h,hb=>gi hl (c:=c) h hb
 | .loop c,_,hb=>by
  have hb:some c=some b:=hb
  cases hb
  exact hl
 | .rangeFunc _ _ _ _,_,hb=>by cases hb
 | .skip,h,_=>by cases h
 | .region _ _ _,h,_=>by cases h
 | .exit _,h,_=>by cases h
 | .ret,h,_=>by cases h
 | .label _,h,_=>by cases h
 | .goto _,h,_=>by cases h
 | .refuse _,h,_=>by cases h
end Go.Dm
namespace Go.Dm
open Go.ChangeShapes Go.WideShapes Go.ChangeAt Go.RowKit
def Ty.wf:(τ:Ty)->τ.den->Bool
 | .int k,n=>(Lit.int k n).wf
 | .bool,_=>true
 | .sl e,s=>decide (s.n<=maxLen) && (List.range s.n).all fun i=>e.wf (s.g i)
 | .ptr e,x=>e.wf x
 | .agg e,x=>e.wf x
 | .nil,_=>true
 | .cons h t,x=>h.wf (show h.den×t.den from x).1 && t.wf (show h.den×t.den from x).2
 | .fn _ _,_=>true
 | .seq _,_=>true
 | .map _ _,_=>true
 | .vl,_=>true
def ld (P:Program) (rec:TypeId->Option (List Ty)):Nat->List Field->Option (List Ty)
 | _,[]=>some []
 | off,f :: fs=>match rec f.type with
  | some l=>if f.offset=off/\P.cellsOf f.type=l.length then (ld P rec (off + l.length) fs).map (l ++ ·) else none
  | none=>none
def uv (P:Program):Nat->TypeId->Option (List Ty)
 | 0,_=>none
 | n + 1,t=>match P.underlying t with
  | some (.int k)=>some [.int k]
  | some .bool=>some [.bool]
  | some (.slice e)=>match uv P n e with
   | some (l :: ls)=>some [.sl (cw (l :: ls))]
   | _=>none
  | some (.struct fs)=>match ld P (uv P n) 0 fs.toList with
   | some l=>if P.cellsOf t=l.length then some l else none
   | none=>none
  | some (.array m e)=>match uv P n e with
   | some l=>if P.cellsOf e=l.length/\P.cellsOf t=m * l.length then some (List.replicate m l).flatten else none
   | none=>none
  | _=>none
def WD (P:Program) (n:Nat) (t:TypeId):Option Ty:=
 match uv P n t with
 | some l=>match P.underlying t with
  | some (.struct _) | some (.array _ _)=>some (.agg (cw l))
  | _=>match l with
   | [τ]=>some τ
   | _=>none
 | none=>none
def Fg (P:Program) (n:Nat):List TypeId->Option Ty
 | []=>some .nil
 | t :: ts=>match WD P n t,Fg P n ts with
  | some h,some l=>some (.cons h l)
  | _,_=>none
variable {H:Type} {enc:TypeId×Value->H} {P:Program} {w:World}
abbrev old (w:World):CS:=fun b _=>b < w.heap.size
theorem ame:Bd (old w) w:=fun _ _ h=>h
theorem ot:∀ l:List Ty,(cw l).cells=l.length
 | []=>rfl
 | _ :: l=>by simp [cw,Ty.cells,ot l]
def Reads (P:Program) (w:World) (l:List Ty) (cs:List Value):Prop:=∃ y:(cw l).den,R P (cw l) (old w) w y cs/\(cw l).wf y=true
theorem Reads.nil:Reads P w [] []:=⟨(),rfl,rfl⟩
theorem Reads.append:∀ {l l':List Ty} {cs cs':List Value},Reads P w l cs->Reads P w l' cs'->Reads P w (l ++ l') (cs ++ cs')
 | [],_,cs,_,h,h'=>by
  obtain ⟨y,h,_⟩:=h
  rw [show cs=[] from h]; exact h'
 | τ :: l,l',cs,cs',h,h'=>by
  obtain ⟨y,⟨u,ws,h1,h2,h3⟩,hw⟩:=h
  have hw:(Ty.wf τ y.1 && Ty.wf (cw l) y.2)=true:=hw
  rw [Bool.and_eq_true] at hw
  obtain ⟨z,h4,h5⟩:=Reads.append (l:=l) (cs:=ws) ⟨y.2,h3,hw.2⟩ h'
  exact ⟨(y.1,z),⟨u,ws ++ cs',by rw [h1]; rfl,h2,h4⟩,by show (Ty.wf τ y.1 && Ty.wf (cw (l ++ l')) z)=true; rw [hw.1,h5]; rfl⟩
theorem Reads.one {τ:Ty} {x:τ.den} {v:Value} (h:R P τ (old w) w x [v]) (hw:τ.wf x=true):Reads P w [τ] [v]:=
 ⟨(x,()),⟨v,[],rfl,h,rfl⟩,by show (Ty.wf τ x && true)=true; rw [hw]; rfl⟩
theorem Reads.len {l:List Ty} {cs:List Value} (h:Reads P w l cs):cs.length=l.length:=by
 obtain ⟨y,h,_⟩:=h
 rw [R.len h,ot]
theorem uw {base n:Nat} {a:Addr} {cs:List Value} (h:w.cells? base a n=some cs):cs.length=n/\∀ (i:Nat) (v:Value),cs[i]? = some v->w.cell? (a.add i)=some v:=by
 unfold World.cells? at h
 split at h
 ·refine ⟨by simpa using mapM_some_length h,fun i v hv=>?_⟩
  have hl:i < n:=by
   have h1:=mapM_some_length h
   have h2:=(List.getElem?_eq_some_iff.1 hv).1
   simp at h1; omega
  have:=mapM_some_get h i i (by simp [hl])
  rw [this,hv]
 ·cases h
theorem adO {a:Addr} {v:Value} (h:w.cell? a=some v):a.block < w.heap.size:=by
 unfold World.cell? at h
 cases hb:w.heap[a.block]? with
 | none=>simp [hb] at h
 | some o=>exact (Array.getElem?_eq_some_iff.1 hb).1
theorem yN {base:Nat} {sp:Nat->Bool} {hd:Bool} {n:Nat} {rec:TypeId->Option (List Ty)} {cs:List Value} :
  ∀ (fs:List Field) (off:Nat) (l:List Ty),ld P rec off fs=some l->off<=cs.length->(off + l.length=cs.length) ->
   (∀ f∈fs,∃ x,DataW.trod enc P w base sp hd n f.type ((cs.drop f.offset).take (P.cellsOf f.type))=some x) ->
   (∀ t l cs x,rec t=some l->DataW.trod enc P w base sp hd n t cs=some x->Reads P w l cs)->Reads P w l (cs.drop off)
 | [],off,l,h,hof,hlen,_,_=>by
  simp only [ld,Option.some.injEq] at h
  subst h
  rw [List.drop_eq_nil_of_le (by simp at hlen; omega)]
  exact .nil
 | f :: fs,off,l,h,hof,hlen,hx,ih=>by
  unfold ld at h
  split at h
  ·rename_i l0 hl0
   split at h
   ·rename_i hc
    obtain ⟨ho,hn⟩:=hc
    rw [Option.map_eq_some_iff] at h
    obtain ⟨l1,h1,rfl⟩:=h
    obtain ⟨x,hx0⟩:=hx f (by simp)
    rw [ho,hn] at hx0
    have a:=ih _ _ _ _ hl0 hx0
    rw [List.length_append] at hlen
    have b:=yN fs (off + l0.length) l1 h1 (by omega) (by omega) (fun f hf=>hx f (by simp [hf])) ih
    have:=a.append b
    rw [<- List.drop_drop,List.take_append_drop] at this
    exact this
   ·cases h
  ·cases h
theorem BJ {base:Nat} {sp:Nat->Bool} {hd:Bool} {n:Nat} {e:TypeId} {l:List Ty} (hc:P.cellsOf e=l.length)
  (ih:∀ cs x,DataW.trod enc P w base sp hd n e cs=some x->Reads P w l cs) :
  ∀ (m:Nat) (cs:List Value),cs.length=m * l.length->(∀ i,i < m->∃ x,DataW.trod enc P w base sp hd n e ((cs.drop (i * P.cellsOf e)).take (P.cellsOf e))=some x) ->
   Reads P w (List.replicate m l).flatten cs
 | 0,cs,h,_=>by
  have:cs=[]:=List.eq_nil_of_length_eq_zero (by simpa using h)
  subst this; exact .nil
 | m + 1,cs,h,hx=>by
  obtain ⟨x,hx0⟩:=hx 0 (by omega)
  simp only [Nat.zero_mul,List.drop_zero] at hx0
  have a:=ih _ _ hx0
  have b:=BJ hc ih m (cs.drop (P.cellsOf e)) (by rw [List.length_drop,h,hc,Nat.add_mul]; omega) (fun i hi=>by
   obtain ⟨x,hx1⟩:=hx (i + 1) (by omega)
   refine ⟨x,?_⟩
   rw [List.drop_drop,<- hx1,Nat.add_mul,Nat.one_mul,Nat.add_comm])
  have:=a.append b
  rw [List.take_append_drop] at this
  rw [List.replicate_succ,List.flatten_cons]
  exact this
theorem ou {base:Nat} {sp:Nat->Bool} {hd:Bool}:∀ (m n:Nat) (t:TypeId) (l:List Ty) (cs:List Value) (x:DataW H×List MemPlace),uv P m t=some l ->
  DataW.trod enc P w base sp hd n t cs=some x->Reads P w l cs
 | 0,_,_,_,_,_,h,_=>by cases h
 | m + 1,n,t,l,cs,x,h,hx=>by
  unfold uv at h
  split at h
  ·rename_i k hu
   cases h
   obtain ⟨i,rfl,_,hw⟩:=DataW.trod_int hu hx
   exact Reads.one (τ:=.int k) (x:=i) rfl hw
  ·rename_i hu
   cases h
   obtain ⟨b,rfl,_⟩:=DataW.trod_bool hu hx
   exact Reads.one (τ:=.bool) (x:=b) rfl rfl
  ·rename_i e hu
   split at h
   ·rename_i l0 ls hl
    cases h
    rcases DataW.trod_slice hu hx with ⟨rfl,_⟩ | ⟨a,len,cap,elems,rest,n',_,rfl,_,_,hlc,Pv,hel,hrd,_⟩
    ·exact Reads.one (τ:=.sl (cw (l0 :: ls))) (x:=⟨0,fun _=>Ty.dflt _⟩) (.inl ⟨rfl,_,_,rfl⟩) rfl
    ·have each:∀ i,i < len->∃ us,w.cells? base (a.add (i * P.cellsOf e)) (P.cellsOf e)=some us/\Reads P w (l0 :: ls) us:=fun i hi=>by
      have:=hrd i hi
      rw [List.getElem?_eq_getElem (by omega)] at this
      rw [Option.bind_eq_some_iff] at this
      obtain ⟨us,h1,h2⟩:=this
      exact ⟨us,h1,ou m n' e _ us _ hl h2⟩
     have:∀ i,∃ y:(cw (l0 :: ls)).den,i < len->∃ us,w.cells? base (a.add (i * P.cellsOf e)) (P.cellsOf e)=some us/\R P (cw (l0 :: ls)) (old w) w y us/\(cw (l0 :: ls)).wf y=true:=fun i=>by
      by_cases hi:i < len
      ·obtain ⟨us,h1,y,h2,h3⟩:=each i hi
       exact ⟨y,fun _=>⟨us,h1,h2,h3⟩⟩
      ·exact ⟨Ty.dflt _,fun h=>absurd h hi⟩
     let g:=fun i=>Classical.choose (this i)
     have hg:=fun i=>Classical.choose_spec (this i)
     refine Reads.one (τ:=.sl (cw (l0 :: ls))) (x:=⟨len,g⟩) ?_ ?_
     ·by_cases h0:len=0
      ·subst h0; exact .inl ⟨rfl,_,_,rfl⟩
      ·have zm:P.cellsOf e=(cw (l0 :: ls)).cells:=by
        obtain ⟨us,h1,h2,_⟩:=hg 0 (by omega)
        rw [<- (uw h1).1,R.len h2]
       have hs:a.spot=none:=by
        obtain ⟨us,h1,h2,_⟩:=hg 0 (by omega)
        have hl':=R.len h2
        rw [ot] at hl'
        cases us with
        | nil=>simp at hl'
        | cons u us =>
         have:=(uw h1).2 0 u rfl
         simp only [Nat.zero_mul,Addr.add,if_true] at this
         exact World.cell?_spot this
       obtain ⟨b,o,spot⟩:=a
       simp only at hs
       subst hs
       refine .inr ⟨b,o,cap,rfl,hlc,Pv,fun i hi=>?_⟩
       obtain ⟨us,h1,h2,_⟩:=hg i hi
       refine ⟨us,h2,R.len h2,fun j v hv=>?_⟩
       have:=(uw h1).2 j v hv
       rw [Addr.add_lit,Addr.add_lit,zm] at this
       exact ⟨adO this,this⟩
     ·show (decide (len<=maxLen) && (List.range len).all fun i=>(cw (l0 :: ls)).wf (g i))=true
      rw [Bool.and_eq_true]
      refine ⟨decide_eq_true (by omega),?_⟩
      rw [List.all_eq_true]
      intro i hi
      exact (hg i (by simpa using hi)).choose_spec.2.2
   ·cases h
  ·rename_i fs hu
   split at h
   ·rename_i l0 hl
    split at h
    ·rename_i hc
     cases h
     obtain ⟨xs,n',_,_,hcs,hlen,hrd⟩:=DataW.trod_struct hu hx
     have:=yN (enc:=enc) (P:=P) (w:=w) (base:=base) (sp:=sp) (hd:=hd) (n:=n') (cs:=cs) fs.toList 0 l hl (by omega) (by omega) (fun f hf=>by
      obtain ⟨i,hi,rfl⟩:=List.getElem_of_mem hf
      have hi':i < fs.size:=by simpa using hi
      have:=hrd i fs[i] (by simp [hi'])
      refine ⟨xs[i]'(by omega),?_⟩
      rw [List.getElem?_eq_getElem (by omega)] at this
      simpa using this) (fun t l cs x h1 h2=>ou m n' t l cs x h1 h2)
     simpa using this
    ·cases h
   ·cases h
  ·rename_i k e hu
   split at h
   ·rename_i l0 hl
    split at h
    ·rename_i hc
     cases h
     obtain ⟨xs,n',_,_,hcs,hlen,hrd⟩:=DataW.trod_array hu hx
     refine BJ (enc:=enc) (base:=base) (sp:=sp) (hd:=hd) (n:=n') hc.1 (fun cs x h2=>ou m n' e l0 cs x hl h2) k cs (by rw [hcs,hc.2]) (fun i hi=>?_)
     have:=hrd i hi
     rw [List.getElem?_eq_getElem (by omega)] at this
     exact ⟨_,this⟩
    ·cases h
   ·cases h
  ·cases h
theorem WE {base base' m:Nat} {sp:Nat->Bool} {hd:Bool} {t:TypeId} {τ:Ty} {v:Value} {d:DataW H} {p:List MemPlace} (h:WD P m t=some τ)
  (hv:Value.okWide P w .any base t v) (hx:DataW.Trod enc P w base' sp hd t v d p):∃ x:τ.den,R P τ (old w) w x [v]/\τ.wf x=true:=by
 obtain ⟨fuel,hx⟩:=hx
 unfold WD at h
 split at h
 ·rename_i l hl
  have rd:=ou m fuel t l _ _ hl hx
  have one:∀ τ',l=[τ']->v.cells.toList=[v]->some τ'=some τ->∃ x:τ.den,R P τ (old w) w x [v]/\τ.wf x=true:=fun τ' e1 e2 e3=>by
   cases e3; subst e1
   rw [e2] at rd
   obtain ⟨y,⟨u,ws,h1,h2,h3⟩,hw⟩:=rd
   cases h1
   have hw:(Ty.wf τ y.1 && true)=true:=hw
   rw [Bool.and_true] at hw
   exact ⟨y.1,h2,hw⟩
  have agg:(∃ cs,v = .agg cs)->some (Ty.agg (cw l))=some τ->∃ x:τ.den,R P τ (old w) w x [v]/\τ.wf x=true:=fun ⟨cs,e1⟩ e2=>by
   cases e2; subst e1
   obtain ⟨y,h1,h2⟩:=rd
   exact ⟨y,⟨cs.toList,by simp,h1,R.len h1⟩,h2⟩
  split at h
  ·rename_i fs hu
   simp only [Value.okWide,hu] at hv
   obtain ⟨cs,e,_⟩:=hv
   exact agg ⟨cs,e⟩ h
  ·rename_i fs n hu
   simp only [Value.okWide,hu] at hv
   obtain ⟨cs,e,_⟩:=hv
   exact agg ⟨cs,e⟩ h
  ·split at h
   ·rename_i τ'
    refine one τ' rfl ?_ h
    cases m with
    | zero=>cases hl
    | succ m =>
     unfold uv at hl
     split at hl
     ·rename_i k hu
      obtain ⟨i,e,_⟩:=DataW.trod_int hu hx
      simp only [Value.okWide,hu,Cell.okWide,Cell.ok] at hv
      cases v <;> first | rfl | (simp at hv)
     ·rename_i hu
      simp only [Value.okWide,hu,Cell.okWide,Cell.ok] at hv
      cases v <;> first | rfl | (simp at hv)
     ·rename_i e hu
      simp only [Value.okWide,hu,Cell.okWide,Cell.ok] at hv
      cases v <;> first | rfl | (simp at hv)
     ·rename_i n1 n2 _ _ fs hu
      first | exact absurd hu (n1 fs) | exact absurd hu (n2 fs)
     ·rename_i n1 n2 _ _ k e hu
      first | exact absurd hu (n1 k e) | exact absurd hu (n2 k e)
     ·cases hl
   ·cases h
 ·cases h
theorem DY {base base' m:Nat} {sp:Nat->Bool} {hd:Bool}:∀ (ts:List TypeId) (vs:List Value) (ds:List (DataW H)) (ps:List MemPlace) (τ:Ty),Fg P m ts=some τ ->
  (∀ (j:Nat) t v,ts[j]? = some t->vs[j]? = some v->Value.okWide P w .any base t v)->DataW.TrodAll enc P w base' sp hd ts vs ds ps->∃ x:τ.den,R P τ (old w) w x vs/\τ.wf x=true
 | [],[],ds,ps,τ,h,_,_=>by cases h; exact ⟨(),rfl,rfl⟩
 | [],_ :: _,_,_,_,_,_,hx=>by simp [DataW.TrodAll] at hx
 | t :: ts,[],_,_,_,_,_,hx=>by simp [DataW.TrodAll] at hx
 | t :: ts,v :: vs,[],_,_,_,_,hx=>by simp [DataW.TrodAll] at hx
 | t :: ts,v :: vs,d :: ds,ps,τ,h,hv,hx=>by
  obtain ⟨p,q,h1,h2,_⟩:=hx
  unfold Fg at h
  split at h
  ·rename_i a b ha hb
   cases h
   obtain ⟨x,x1,x2⟩:=WE ha (hv 0 t v rfl rfl) h1
   obtain ⟨y,y1,y2⟩:=DY ts vs ds q b hb (fun j t v ht hv'=>hv (j + 1) t v (by simpa using ht) (by simpa using hv')) h2
   exact ⟨(x,y),⟨v,vs,rfl,x1,y1⟩,by show (Ty.wf a x && Ty.wf b y)=true; rw [x2,y2]; rfl⟩
  ·cases h
theorem DZ (hl:laidOutB P=true) {W W':World} (hb:Below W.heap.size W W') {sp':Nat->Bool}:∀ (ts:List TypeId) (vs:List Value) (ds:List (DataW H)) (ps:List MemPlace),
  ts.all (fun t=>P.readableRec t && decide (t < P.types.size))=true->DataW.TrodAll enc P W 0 (fun _=>true) true ts vs ds ps->(∀ x∈ps,x.block < W.heap.size)->(∀ x∈ps,sp' x.block=true) ->
  DataW.TrodAll enc P W' 0 sp' true ts vs ds ps
 | [],[],[],ps,_,h,_,_=>h
 | [],[],_ :: _,_,_,hx,_,_=>by simp [DataW.TrodAll] at hx
 | [],_ :: _,_,_,_,hx,_,_=>by simp [DataW.TrodAll] at hx
 | t :: ts,[],_,_,_,hx,_,_=>by simp [DataW.TrodAll] at hx
 | t :: ts,v :: vs,[],_,_,hx,_,_=>by simp [DataW.TrodAll] at hx
 | t :: ts,v :: vs,d :: ds,ps,hr,hx,hlt,hsp=>by
  obtain ⟨p,q,h1,h2,rfl⟩:=hx
  rw [List.all_cons,Bool.and_eq_true,Bool.and_eq_true] at hr
  refine ⟨p,q,?_,DZ hl hb ts vs ds q hr.2 h2 (fun x hx=>hlt x (by simp [hx])) (fun x hx=>hsp x (by simp [hx])),rfl⟩
  exact WideElems.Trod_stays hl hr.1.1 (of_decide_eq_true hr.1.2) h1 (fun x hx=>hb.same (hlt x (by simp [hx]))) (fun x hx=>hsp x (by simp [hx]))
theorem yO {base:Nat} {sp:Nat->Bool} {hd:Bool}:∀ {ts:List TypeId} {vs:List Value} {ds:List (DataW H)} {ps:List MemPlace},DataW.TrodAll enc P w base sp hd ts vs ds ps->ds.length=ts.length
 | [],[],[],_,_=>rfl
 | [],[],_ :: _,_,hx=>by simp [DataW.TrodAll] at hx
 | [],_ :: _,_,_,hx=>by simp [DataW.TrodAll] at hx
 | t :: ts,[],_,_,hx=>by simp [DataW.TrodAll] at hx
 | t :: ts,v :: vs,[],_,hx=>by simp [DataW.TrodAll] at hx
 | t :: ts,v :: vs,d :: ds,ps,hx=>by
  obtain ⟨p,q,h1,h2,rfl⟩:=hx
  simp [yO h2]
theorem Du {f:Func} {s:ChangeSpec} {apart fresh handsOn again:Bool} {W W':World} {args:Array Value} {v:Value} {ds gs:List (DataW H)} {before pa pv:List MemPlace}
  (hW:DataW.Whole enc P f.params.toList s.vars apart W args.toList ds gs before)
  (hres:∀ (b:Nat) (sp:Nat->Bool) (hd:Bool),DataW.TrodAll enc P W' b sp hd f.resultTypes.toList (v.resultList f.resultTypes.size) (s.fn H (ds ++ gs)).results [])
  (hargs:∀ sp:Nat->Bool,(∀ p∈before,sp p.block=true)->DataW.TrodAll enc P W' 0 sp true f.params.toList args.toList (s.fn H (ds ++ gs)).args pa)
  (hvars:∀ sp:Nat->Bool,(∀ p∈before,sp p.block=true)->DataW.TrodVars enc P W' sp s.vars (s.fn H (ds ++ gs)).vars pv)
  (hps:before=pa ++ pv) (hb:Below W.heap.size W W')
  (hok:∀ (j:Nat) (t:TypeId) (r:Value),f.resultTypes[j]? = some t->(v.resultList f.resultTypes.size)[j]? = some r->Value.okWide P W' .any 0 t r) :
  s.post enc P f apart fresh handsOn again W args v W':=by
 have hlt:∀ p∈before,p.block < W.heap.size:=fun p hp=>hW.lt p hp
 have hold:∀ p∈before,(fun b=>decide (b < W.heap.size)) p.block=true:=fun p hp=>by simpa using hlt p hp
 refine ⟨ds,gs,before,[],pa,pv,hW,hres _ _ _,hargs _ hold,hvars _ hold,World.keptBut_mono (fun p hp=>⟨hp,?_⟩) (hb.frame (· ∈ before)),fun _=>?_⟩
 ·rw [hps,List.mem_append] at hp
  exact Or.inr hp
 ·obtain ⟨_,_,_,_,_,hz,hn⟩:=hW
  refine ⟨hok,_,_,([] ++ pa) ++ pv,⟨[] ++ pa,pv,trodAll_append (hargs _ (fun _ _=>rfl)) (hres _ _ _),hvars _ (fun _ _=>rfl),rfl,?_,?_⟩,?_⟩
  ·intro b off hp
   have hin:MemPlace.cell b off∈before:=by rw [hps]; simpa using hp
   rw [hb.frozen (hlt _ hin)]
   exact hz b off hin
  ·intro ha
   have:=hn ha
   rw [hps] at this
   simpa using this
  ·intro p hp _
   rw [hps]
   simpa using hp
theorem atZ {f:FuncId} {τa τr:Ty} {p:τa.den->Bool} {v:τa.den->τr.den} {M:τa.den->Option τr.den} {y:τr.den} (h:aQ P f ⟨τa,τr,p,v⟩) (hM:∀ x,τa.wf x=true->M x=some y) (hp:∀ x,p x=(M x).isSome:=by intro _; rfl) (hv:∀ x,v x=(M x).getD τr.dflt:=by intro _; rfl):aQ P f ⟨τa,τr,τa.wf,fun _=>y⟩:=by
 intro S w hb x vs hx hr
 have hm:=hM x hx
 have h1:p x=true:=by rw [hp,hm]; rfl
 have h2:v x=y:=by rw [hv,hm]; rfl
 have:=h S w hb x vs h1 hr
 simp only at this
 rw [h2] at this
 exact this
theorem at0 {f:FuncId} {fn:Func} {s:ChangeSpec} {m:Nat} {τ:Ty} {tb:TypeId} (hl:laidOutB P=true)
  (av7:fn.params.toList.all (fun t=>P.readableRec t && decide (t < P.types.size))=true) (hargs:Fg P m fn.params.toList=some τ)
  (hh:aQ P f ⟨τ,.cons .bool .nil,τ.wf,fun _=>(true,())⟩) (hrt:fn.resultTypes = #[tb]) (hub:P.underlying tb=some .bool)
  (hvars:s.vars=[]) (hs:∀ (H:Type) (ds:List (DataW H)),ds.length=fn.params.toList.length->s.fn H ds={ results:=[.lit (.bool true)],args:=ds })
  {fresh handsOn again:Bool} (W:World) (base:Nat) (args:Array Value) (ds gs:List (DataW H)) (before:List MemPlace)
  (hval:∀ (j:Nat) t v,fn.params[j]? = some t->args[j]? = some v->Value.okWide P W .any base t v)
  (hW:DataW.Whole enc P fn.params.toList s.vars false W args.toList ds gs before) :
  Calls P f args W fun e W'=>∃ v,e = .returned v/\s.post enc P fn false fresh handsOn again W args v W':=by
 have hW':=hW
 obtain ⟨p,q,hA,hV,rfl,hfz,DJ⟩:=hW
 rw [hvars] at hV
 obtain ⟨rfl,rfl⟩:=trodVars_none hV
 obtain ⟨x,hx,hwf⟩:=DY (w:=W) (base:=base) _ _ _ _ τ hargs (fun j t v ht hv=>hval j t v (by simpa using ht) (by simpa using hv)) hA
 have hlen:=yO hA
 have hsd:=hs H ds hlen
 refine (hh (old W) W ame x args.toList hwf hx).mono fun e W' ⟨S',rs,he,hr,_,hb⟩=>?_
 obtain ⟨u,ws,rfl,h1,h2⟩:=hr
 cases h1
 rw [show ws=[] from h2] at he
 have he:e = .returned (.bool true):=he
 subst he
 refine ⟨_,rfl,?_⟩
 simp only [List.append_nil] at hW'
 have hlt:=hW'.lt
 refine Du (pa:=p) (pv:=[]) hW' (fun b sp hd=>?_) (fun sp hsp=>?_) (fun sp _=>?_) (by simp) hb (ok_one hrt rfl (okWide_bool_mk hub true))
 ·rw [List.append_nil,hsd,hrt]
  exact trodAll_mk1 (shut_bool hub true)
 ·rw [List.append_nil,hsd]
  exact DZ hl hb _ _ _ _ av7 hA hlt hsp
 ·rw [List.append_nil,hsd,hvars]
  rfl
end Go.Dm
namespace Go.Dm
open Go.RowKit
variable {P:Program} {N:Nat} {G:Gh} {S S':CS} {w w':World} {s:St} {a:Act} {ρ ρ':fA} {F F':Nat->Prop} {E:cg} {Γ:Ctx} {Fw:Fence} {r:Nat} {bw:List fu} {fid:FuncId}
@[reducible] def ct (wy:bk) (id:Nat):List bg:=(om wy.dY id).getD []
inductive LQ (wy:bk) where
 | exit (id:Nat) (y:(aa (ct wy id)).den)
 | ret (y:(aa wy.ret).den)
 | bP (T:TypeId) (τ:Ty) (x:τ.den) (y:(aa wy.bP).den)
 | bad
inductive RQ (ps:List bg) (wy:bk) where
 | next (x:(aa ps).den)
 | out (q:LQ wy)
 | bad
namespace LQ
variable {wy:bk}
def gM (q:LQ wy) (id:Nat):Bool:=match q with
 | .exit id' _=>Nat.beq id' id
 | _=>false
def mh (q:LQ wy) (id:Nat):(aa (ct wy id)).den:=match q with
 | .exit id' y=>match Nat.decEq id' id with
  | isTrue h=>h ▸ y
  | isFalse _=>(aa (ct wy id)).dflt
 | _=>(aa (ct wy id)).dflt
def jF (q:LQ wy):Bool:=match q with
 | .ret _=>true
 | _=>false
def WG (q:LQ wy):(aa wy.ret).den:=match q with
 | .ret y=>y
 | _=>(aa wy.ret).dflt
def eF (q:LQ wy) (T:TypeId) (τ:Ty):Bool:=match q with
 | .bP T' τ' _ _=>Nat.beq T' T && decide (τ'=τ)
 | _=>false
def lf (q:LQ wy) (τ:Ty):τ.den:=match q with
 | .bP _ τ' x _=>(cH τ x).getD τ.dflt
 | _=>τ.dflt
def Fh (q:LQ wy):(aa wy.bP).den:=match q with
 | .bP _ _ _ y=>y
 | _=>(aa wy.bP).dflt
@[simp] theorem yP (id id':Nat) (y):(exit (wy:=wy) id y).gM id'=Nat.beq id id':=rfl
@[simp] theorem ov (id:Nat) (y):(exit (wy:=wy) id y).mh id=y:=by
 simp only [mh]
 cases Nat.decEq id id with
 | isTrue h=>rfl
 | isFalse h=>exact absurd rfl h
end LQ
def ke:List bg->List Nat
 | []=>[]
 | .slot t (.pc (.sl _)) :: ps=>t :: ke ps
 | .slot t (.pc (.map _ _)) :: ps=>t :: ke ps
 | _ :: ps=>ke ps
def rdQ (lo:Nat) (bw:List fu) (ps:List bg) (wy:bk):Out->RQ ps wy
 | .norm s=>match kV s.bw bw,rd lo (dO s (ke ps)) ps with
  | true,some x=>.next x
  | _,_=>.bad
 | .exit id s=>match kV s.bw bw,(om wy.dY id).isSome,rd lo (dO s (ke (ct wy id))) (ct wy id) with
  | true,true,some y=>.out (.exit id y)
  | _,_,_=>.bad
 | .ret s=>match kV s.bw bw,rd lo (dO s (ke wy.ret)) wy.ret with
  | true,some y=>.out (.ret y)
  | _,_=>.bad
 | .bP (.zg T τ x) s=>match kV s.bw bw,rd lo s wy.bP with
  | true,some y=>.out (.bP T τ x y)
  | _,_=>.bad
 | _=>.bad
def fm (lo:Nat) (bw:List fu) (ps:List bg) (f:(aa ps).den->Tree LO) (s:St):Tree Out:=mc lo bw ps f (dO s (ke ps))
def bE {ps:List bg} {wy:bk}:Tree (RQ ps wy)->RQ ps wy
 | .leaf r=>r
 | .br b l r=>bif b then bE l else bE r
 | .any _ _=>.bad
def cG (P:Program) (E:cg) (Γ:Ctx) (lo N:Nat) (bw:List fu) (ps:List bg) (wy:bk) (body:Code) (ls:List Loop) (x:(aa ps).den):Tree (RQ ps wy):=
 fQ P E Γ lo N .any body ls (wr lo .none bw ps x) fun o=>.leaf (rdQ lo bw ps wy o)
def bB {ps:List bg} {wy:bk} (step:(aa ps).den->RQ ps wy):Nat->(aa ps).den->LQ wy
 | 0,_=>.bad
 | n + 1,x=>match step x with
  | .next x'=>bB step n x'
  | .out q=>q
  | .bad=>.bad
def dw:Nat:=4722366482869645213696
def LQ.out {wy:bk} (lo:Nat) (bw:List fu):LQ wy->Out
 | .exit id y=>.exit id (wr lo .none bw (ct wy id) y)
 | .ret y=>.ret (wr lo .none bw wy.ret y)
 | .bP T τ x y=>.bP (.zg T τ x) (wr lo .none bw wy.bP y)
 | .bad=>.bad
theorem Tj (hE:Env P E Γ G Fw) {tr:Bool} (ht:tr=true\/G.iL) {ps:List bg} {wy:bk} {body:Code} {ls:List Loop} (hls:ff P N G fid Fw r body ls)
  (hps:Vp bw tr ps=true) (hwy:wy.wf bw tr=true) {step:(aa ps).den->RQ ps wy} (hstep:∀ x,bE (cG P E Γ G.lo N bw ps wy body ls x)=step x) (n:Nat) {f:(aa ps).den->Tree LO}
  (hf:∀ x,(∀ o,((f x).map (LO.out G.lo bw)).Has o->o ≠ .bad)->bB step n x ≠ .bad/\((f x).map (LO.out G.lo bw)).Has ((bB step n x).out G.lo bw)) :
  dF P N G fid Fw r (.loop body) (fm G.lo bw ps f):=by
 intro s a w h bT
 replace h:=SX.dO hE.gh (ke ps) h
 unfold fm mc at bT ⊢
 split at bT
 case h_2=>exact (bT .bad rfl).elim
 rename_i hd
 try simp only [hd]
 split at bT
 case h_2=>exact (bT .bad rfl).elim
 rename_i x hx
 try simp only [hx]
 obtain ⟨hq,aGB⟩:=hf x fun o ho e=>by subst e; exact bT _ ho
 have h0:=qZ hE.gh h ht hps (cY hd) hx
 have key:∀ (n:Nat) (x:(aa ps).den) (a:Act) (w:World),bB step n x ≠ .bad->SX P N G (wr G.lo .none bw ps x) a w ->
   jZ fid Fw r P body (fun e a' w'=>nj P N G ((bB step n x).out G.lo bw) e a' w') n a w:=by
  intro n
  induction n with
  | zero=>intro x a w hn; exact absurd rfl hn
  | succ n ih =>
   intro x a w hn hs
   unfold jZ
   have hne:step x ≠ .bad:=fun e=>by simp only [bB,e] at hn; exact hn rfl
   refine cN (cF (T:=fun t:Tree (RQ ps wy)=>bE t=step x) (ch:=Tree.any) (K:=fun o=>.leaf (rdQ G.lo bw ps wy o)) hE (fun a b q=>absurd q.symm hne) ⟨fun q=>absurd q.symm hne,fun s' q=>absurd q.symm hne⟩ (hstep x) hls hs) ?_
   rintro e a' w' ⟨o,ho,jA⟩
   have jA:rdQ G.lo bw ps wy o=step x:=jA
   simp only [bk.wf,Bool.and_eq_true] at hwy
   obtain ⟨⟨w1,w2⟩,w3⟩:=hwy
   cases o with
   | bad=>exact absurd jA.symm hne
   | bP d s' =>
    cases d with
    | zg T τ v =>
     cases e <;> try exact ho.elim
     simp only [rdQ] at jA
     split at jA
     case h_2=>exact absurd jA.symm hne
     rename_i y hd hy
     have e1:bB step (n + 1) x = .bP T τ v y:=by simp only [bB,<- jA]
     rw [e1]
     obtain ⟨u,ρ,S,F,h1,h2,h3⟩:=ho
     simp only [Vp,Bool.and_eq_true,Bool.or_eq_true,Bool.not_eq_true'] at w3
     obtain ⟨⟨q1,q2⟩,q3⟩:=w3
     have hd:=cY hd
     subst hd
     refine ⟨u,_,S,F,h1,qX hE.gh h2 q1 q2 ?_ hy,h3⟩
     rcases ht with rfl | ht
     ·exact .inl (q3.resolve_left (by simp))
     ·exact .inr (ht F S w')
    | _=>exact absurd jA.symm hne
   | norm s' =>
    cases e <;> try exact ho.elim
    simp only [rdQ] at jA
    split at jA
    case h_2=>exact absurd jA.symm hne
    rename_i x' hd hx'
    have e1:bB step (n + 1) x=bB step n x':=by simp only [bB,<- jA]
    rw [e1] at hn ⊢
    exact ih x' a' w' hn (qZ hE.gh (SX.dO hE.gh (ke ps) ho) ht hps ((gS _ _).trans (cY hd)) hx')
   | exit id s' =>
    cases e <;> try exact ho.elim
    obtain ⟨rfl,ho⟩:=ho
    simp only [rdQ] at jA
    split at jA
    case h_2=>exact absurd jA.symm hne
    rename_i y hd hid hy
    have e1:bB step (n + 1) x = .exit id y:=by simp only [bB,<- jA]
    rw [e1]
    have hmem:(id,ct wy id)∈wy.dY:=by
     cases hl:om wy.dY id with
     | none=>rw [hl] at hid; cases hid
     | some p=>have:=qY hl; rwa [show ct wy id=p by simp [ct,hl]]
    have:=List.all_eq_true.1 w1 _ hmem
    exact ⟨rfl,qZ hE.gh (SX.dO hE.gh _ ho) ht this ((gS _ _).trans (cY hd)) hy⟩
   | ret s' =>
    cases e <;> try exact ho.elim
    simp only [rdQ] at jA
    split at jA
    case h_2=>exact absurd jA.symm hne
    rename_i y hd hy
    have e1:bB step (n + 1) x = .ret y:=by simp only [bB,<- jA]
    rw [e1]
    exact qZ hE.gh (SX.dO hE.gh _ ho) ht w2 ((gS _ _).trans (cY hd)) hy
 exact cN (jL n (key n x a w hq h0)) fun e a' w' ho=>⟨_,aGB,ho⟩
def ay:Code->List Code
 | .seq a b=>ay a ++ ay b
 | .cond _ a b=>ay a ++ ay b
 | .block _ b=>ay b
 | .scope b=>ay b
 | .loop b=>[.loop b]
 | .rangeFunc g ps as b=>[.rangeFunc g ps as b]
 | _=>[]
theorem fz:∀ c:Code,(ay c).length=Code.loops c
 | .seq a b=>by simp [ay,Code.loops,fz a,fz b]
 | .cond _ a b=>by simp [ay,Code.loops,fz a,fz b]
 | .block _ b=>fz b
 | .scope b=>fz b
 | .loop b=>rfl
 | .rangeFunc g ps as b=>rfl
 | .skip=>rfl
 | .region _ _ _=>rfl
 | .exit _=>rfl
 | .ret=>rfl
 | .label _=>rfl
 | .goto _=>rfl
 | .refuse _=>rfl
inductive Kn (P:Program) (N:Nat) (G:Gh) (fid:FuncId) (Fw:Fence) (r:Nat):List Code->List Loop->Prop
 | nil:Kn P N G fid Fw r [] []
 | cons {c:Code} {f:St->Tree Out} {cs:List Code} {ls:List Loop} (h:dF P N G fid Fw r c f) (t:Kn P N G fid Fw r cs ls):Kn P N G fid Fw r (c :: cs) (.known f :: ls)
 | WH {b:Code} {n:Nat} {inner:List Loop} {cs:List Code} {ls:List Loop} (h:ff P N G fid Fw r b inner) (t:Kn P N G fid Fw r cs ls):Kn P N G fid Fw r (.loop b :: cs) (.ia n inner :: ls)
theorem Kn.split:∀ {as bs:List Code} {ls:List Loop},Kn P N G fid Fw r (as ++ bs) ls->Kn P N G fid Fw r as (ls.take as.length)/\Kn P N G fid Fw r bs (ls.drop as.length)
 | [],_,_,h=>⟨by simpa using Kn.nil,by simpa using h⟩
 | a :: as,bs,ls,h=>by
  cases h with
  | cons h1 t =>
   obtain ⟨q1,q2⟩:=Kn.split t
   exact ⟨.cons h1 q1,q2⟩
  | WH h1 t =>
   obtain ⟨q1,q2⟩:=Kn.split t
   exact ⟨.WH h1 q1,q2⟩
theorem aP:∀ {c:Code} {ls:List Loop},Kn P N G fid Fw r (ay c) ls->ff P N G fid Fw r c ls
 | .seq a b,ls,h=>by
  obtain ⟨h1,h2⟩:=Kn.split h
  rw [fz] at h1 h2
  exact ⟨aP h1,aP h2⟩
 | .cond _ a b,ls,h=>by
  obtain ⟨h1,h2⟩:=Kn.split h
  rw [fz] at h1 h2
  exact ⟨aP h1,aP h2⟩
 | .block _ b,ls,h=>aP (c:=b) h
 | .scope b,ls,h=>aP (c:=b) h
 | .loop b,ls,h=>by cases h with
  | cons h1 _=>exact h1
  | WH h1 _=>exact h1
 | .rangeFunc g ps as b,ls,h=>by cases h with | cons h1 _=>exact h1
 | .skip,_,_=>trivial
 | .region _ _ _,_,_=>trivial
 | .exit _,_,_=>trivial
 | .ret,_,_=>trivial
 | .label _,_,_=>trivial
 | .goto _,_,_=>trivial
 | .refuse _,_,_=>trivial
def bn:Option Code->Code
 | some (.loop b)=>b
 | _=>.skip
theorem Jd {f:FuncId} {fn:Func} (h:P.funcs[f]? = some fn) (hn:(fn.name == "runtime.NumGoroutine")=false) (hb:fn.body.isNone=false):eY P f:=by
 intro args w
 have hn':fn.name ≠ "runtime.NumGoroutine" := fun e=>by rw [e] at hn; simp at hn
 have hb':fn.body≠none:=fun e=>by rw [e] at hb; cases hb
 simp [callFunc,h,hn',hb']
theorem aX {ps:List bg} {wy:bk} (b:Bool) (l r:Tree (RQ ps wy)):bE (bif b then l else r)=bif b then bE l else bE r:=by cases b <;> rfl
theorem az {α:Type} (b:Bool) (l r:Tree (Option α)):(bif b then l else r).sure=bif b then l.sure else r.sure:=by cases b <;> rfl
def W (n:Int):Int:=IntKind.i64.wrap n
def mn (a b:Int):Int:=if b < a then b else a
def mx (a b:Int):Int:=if b > a then b else a
def Tk (t:Nat) (n:Int) (f g:St->Tree Out) (s:St):Tree Out:=match s.env t with
 | .v (.pc (.int .i64) m)=>match decide ((show Int from m)=n) with
  | true=>f s
  | false=>g s
 | _=>g s
theorem Je {fid:FuncId} {Fw:Fence} {r:Nat} {c:Code} {t:Nat} {n:Int} {f g:St->Tree Out} (hf:dF P N G fid Fw r c f) (hg:dF P N G fid Fw r c g):dF P N G fid Fw r c (Tk t n f g):=by
 intro s a w hs bT
 have:Tk t n f g s=f s\/Tk t n f g s=g s:=by
  unfold Tk
  split
  ·split
   ·exact .inl rfl
   ·exact .inr rfl
  ·exact .inr rfl
 rcases this with e | e
 ·rw [e] at bT ⊢; exact hf s a w hs bT
 ·rw [e] at bT ⊢; exact hg s a w hs bT
end Go.Dm

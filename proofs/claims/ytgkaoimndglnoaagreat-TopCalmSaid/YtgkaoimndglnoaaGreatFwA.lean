/-
 The framework: an interpreter over typed data,and why what it says of a call is true.
-/
import Derived.WalkKit
import Derived.RangeFuncMany
import Derived.RangeFuncLeaves
import Derived.RecoverIn
import Derived.Deep.MidRow
import Derived.Great.BuildSlice
import Derived.Laws.OwnMore
import Derived.ChangeKeysEq
import Derived.Laws.StructEq
import Derived.Laws.MakeOwn
import Derived.WideKeyEntry
import Derived.OrdersIn
import Derived.Laws.Cover3
import Derived.LoopN
import Derived.LoopNIn
import Derived.Scope
import Derived.Recover
import Derived.ProofKit
import Derived.OpenShut
set_option linter.unusedVariables false
set_option linter.unusedSimpArgs false
namespace Go.Dm
open Go.RowKit
structure Sl (α:Type) where
 n:Nat
 g:Nat->α
def Sl.list {α:Type} (s:Sl α):List α:=(List.range s.n).map s.g
inductive Ty where
 | int (k:IntKind)
 | bool
 | sl (e:Ty)
 | ptr (e:Ty)
 | agg (e:Ty)
 | nil
 | cons (h t:Ty)
 | fn (a r:Ty)
 | seq (e:Ty)
 | map (k v:Ty)
 | vl
 deriving DecidableEq
@[reducible] def Ty.den:Ty->Type
 | .int _=>Int
 | .bool=>Bool
 | .sl e=>Sl e.den
 | .ptr e=>e.den
 | .agg e=>e.den
 | .nil=>Unit
 | .cons h t=>h.den×t.den
 | .fn a r=>a.den->Bool×r.den
 | .seq e=>Sl e.den
 | .map k v=>k.den->Option v.den
 | .vl=>Unit
def Ty.dflt:(τ:Ty)->τ.den
 | .int _=>(0:Int)
 | .bool=>false
 | .sl e=>⟨0,fun _=>e.dflt⟩
 | .ptr e=>e.dflt
 | .agg e=>e.dflt
 | .nil=>()
 | .cons h t=>(h.dflt,t.dflt)
 | .fn _ r=>fun _=>(false,r.dflt)
 | .seq e=>⟨0,fun _=>e.dflt⟩
 | .map _ _=>fun _=>none
 | .vl=>()
def Ty.cells:Ty->Nat
 | .nil=>0
 | .cons _ t=>t.cells + 1
 | _=>1
def Ty.one:Ty->Bool
 | .int _ | .bool | .sl _ | .ptr _ | .fn _ _ | .seq _ | .map _ _ | .vl=>true
 | _=>false
def Ty.flat:Ty->Bool
 | .nil=>true
 | .cons h t=>h.one && t.flat
 | _=>false
def Ty.single:Ty->Bool
 | .nil | .cons _ _=>false
 | _=>true
def Ty.plain:Ty->Bool
 | .int _ | .bool | .nil=>true
 | .agg e=>e.plain
 | .cons h t=>h.single && (h.plain && t.plain)
 | _=>false
def encs:(τ:Ty)->τ.den->List Value
 | .int k,n=>[.int k n]
 | .bool,b=>[.bool b]
 | .agg e,x=>[.agg (encs e x).toArray]
 | .nil,_=>[]
 | .cons h t,x=>encs h (show h.den×t.den from x).1 ++ encs t (show h.den×t.den from x).2
 | _,_=>[]
abbrev CS:=Nat->Nat->Prop
structure Pl (w w':World):Prop where
 size:w.heap.size<=w'.heap.size
 drawn:w.drawn<=w'.drawn
 sz:∀ b arr T f,b < w.heap.size->w'.heap[b]? = some (.cells arr T f)->∃ qx T0 f0,w.heap[b]? = some (.cells qx T0 f0)/\qx.size=arr.size
theorem Pl.refl (w:World):Pl w w:=⟨Nat.le_refl _,Nat.le_refl _,fun _ arr T f _ h=>⟨arr,T,f,h,rfl⟩⟩
theorem Pl.trans {a b c:World} (h:Pl a b) (k:Pl b c):Pl a c:=
 ⟨Nat.le_trans h.size k.size,Nat.le_trans h.drawn k.drawn,fun i arr T f hi hc=>by
  obtain ⟨KZ,T1,f1,h1,e1⟩:=k.sz i arr T f (Nat.lt_of_lt_of_le hi h.size) hc
  obtain ⟨qx,T0,f0,h0,e0⟩:=h.sz i KZ T1 f1 hi h1
  exact ⟨qx,T0,f0,h0,e0.trans e1⟩⟩
theorem Pl.one {w w':World} {b:Nat} (hs:w.heap.size<=w'.heap.size) (hd:w.drawn<=w'.drawn) (ho:∀ k,k < w.heap.size->k≠b->w'.heap[k]? = w.heap[k]?)
  (hb:∀ arr T f,b < w.heap.size->w'.heap[b]? = some (.cells arr T f)->∃ qx T0 f0,w.heap[b]? = some (.cells qx T0 f0)/\qx.size=arr.size):Pl w w':=
 ⟨hs,hd,fun i arr T f hi hc=>by
  by_cases e:i=b
  ·subst e; exact hb arr T f hi hc
  ·exact ⟨arr,T,f,(ho i hi e).symm.trans hc,rfl⟩⟩
theorem Pl.below {w w':World} (h:Below w.heap.size w w') (hd:w.drawn<=w'.drawn):Pl w w':=
 ⟨h.size,hd,fun i arr T f hi hc=>⟨arr,T,f,(h.block i hi).symm.trans hc,rfl⟩⟩
structure Ext0 (S:CS) (w:World) (S':CS) (w':World):Prop where
 size:w.heap.size<=w'.heap.size
 sub:∀ b o,S b o->S' b o
 same:∀ b o,S b o->w'.cell? ⟨b,o,none⟩=w.cell? ⟨b,o,none⟩
 maps:∀ b o es c,S b o->w.heap[b]? = some (.map es c)->w'.heap[b]? = some (.map es c)
 bd:∀ b o,S' b o->b < w'.heap.size
 pl:Pl w w'
structure Ext (S:CS) (w:World) (S':CS) (w':World):Prop extends Ext0 S w S' w' where
 new:∀ b o,S' b o->S b o\/w.heap.size<=b
def Bd (S:CS) (w:World):Prop:=∀ b o,S b o->b < w.heap.size
theorem Ext0.refl {S:CS} {w:World} (h:Bd S w):Ext0 S w S w:=⟨Nat.le_refl _,fun _ _ h=>h,fun _ _ _=>rfl,fun _ _ _ _ _ h=>h,h,.refl w⟩
theorem Ext.refl {S:CS} {w:World} (h:Bd S w):Ext S w S w:=⟨.refl h,fun _ _ h=>.inl h⟩
theorem Ext0.trans {S S' Ii:CS} {w w' w'':World} (h:Ext0 S w S' w') (h':Ext0 S' w' Ii w''):Ext0 S w Ii w'':=
 ⟨Nat.le_trans h.size h'.size,fun b o x=>h'.sub b o (h.sub b o x),fun b o x=>(h'.same b o (h.sub b o x)).trans (h.same b o x),
  fun b o es c x y=>h'.maps b o es c (h.sub b o x) (h.maps b o es c x y),h'.bd,h.pl.trans h'.pl⟩
theorem Ext.trans {S S' Ii:CS} {w w' w'':World} (h:Ext S w S' w') (h':Ext S' w' Ii w''):Ext S w Ii w'':=
 ⟨h.toExt0.trans h'.toExt0,fun b o x=>(h'.new b o x).elim (fun y=>h.new b o y) (fun y=>.inr (Nat.le_trans h.size y))⟩
structure dX (D:Nat->Prop) (w w':World):Prop where
 os:w'.os=w.os
 tape:w'.tape=w.tape
 output:w'.output=w.output
 size:w.heap.size<=w'.heap.size
 block:∀ k,D k->w'.heap[k]? = w.heap[k]?
theorem dX.refl (D:Nat->Prop) (w:World):dX D w w:=⟨rfl,rfl,rfl,Nat.le_refl _,fun _ _=>rfl⟩
theorem dX.trans {D:Nat->Prop} {a b c:World} (h:dX D a b) (k:dX D b c):dX D a c:=
 ⟨k.os.trans h.os,k.tape.trans h.tape,k.output.trans h.output,Nat.le_trans h.size k.size,fun i hi=>(k.block i hi).trans (h.block i hi)⟩
theorem dX.mono {D D':Nat->Prop} {w w':World} (h:dX D w w') (hd:∀ k,D' k->D k):dX D' w w':=⟨h.os,h.tape,h.output,h.size,fun k hk=>h.block k (hd k hk)⟩
theorem dX.vp {n:Nat} {w w':World} (h:Below n w w'):dX (· < n) w w':=⟨h.os,h.tape,h.output,h.size,h.block⟩
theorem dX.below {n:Nat} {w w':World} (h:dX (· < n) w w'):Below n w w':=⟨h.os,h.tape,h.output,h.size,h.block⟩
theorem dX.drew {D:Nat->Prop} {a w:World} (h:dX D a w):dX D a w.drew:=⟨h.os,h.tape,h.output,h.size,h.block⟩
structure gI (F:Fence):Prop where
 fn:∀ f,F.fn f
 depth:F.depth=none
 alive:F.alive=false
section
variable {P:Program} {F:Fence}
theorem gI.wide:gI Fence.wide:=⟨fun _=>trivial,rfl,rfl⟩
theorem gI.inRound (h:gI F) (l:Nat):gI (F.inRound l):=⟨h.fn,h.depth,h.alive⟩
theorem gI.fenced (h:gI F) (m:Machine):m.fenced P F:=by
 intro g _
 refine ⟨fun q=>?_,.inl (h.fn _),fun f _=>h.fn f,fun d q=>?_⟩
 ·rw [h.alive] at q; cases q
 ·rw [h.depth] at q; cases q
theorem gI.room (h:gI F) (n:Nat):F.room n:=fun d q=>by rw [h.depth] at q; cases q
theorem gI.steps (h:gI F) {m m':Machine} (hs:Steps P m m'):StepsIn (Machine.fenced P F) P m m':=(StepsIn.of_steps hs).mono fun m _=>h.fenced m
theorem gI.comes (h:gI F) {m m':Machine} {e:Ending} (hs:Comes P m m' e):ComesIn (Machine.fenced P F) P m m' e:=by
 cases e with
 | outgrown=>exact hs
 | returned v=>exact h.steps hs
 | panicked c=>exact h.steps hs
theorem gI.calls (h:gI F) {n:Nat} {f:FuncId} {args:Array Value} {w:World} {R:Ending->World->Prop} (hc:Calls P f args w R):CallsIn F n P f args w R:=
 ⟨h.fn f,fun cs _=>let ⟨e,w',fr,q,s,x⟩:=hc cs; ⟨e,w',fr,q,h.comes s,x⟩⟩
theorem gI.EA (h:gI F) {p:Prop}:F.depth.isSome=true->p:=fun q=>by rw [h.depth] at q; cases q
theorem gI.round {F':Fence} (_:gI F) (h':gI F') {n n' l:Nat} {f:FuncId} {tmps:Array Value} {assign body:Code} {w:World} {R:Ending->World->Prop} (hc:RoundIn F n P l f tmps assign body w R) (hF:gI F) :
  RoundIn F' n' P l f tmps assign body w R:=
 ⟨h'.fn f,fun c cs _=>let ⟨e,w',q,s⟩:=hc.2 c cs (hF.room _); ⟨e,w',q,by cases e <;> first | exact s | exact h'.steps (StepsIn.steps s)⟩⟩
end
def pack:List Value->Value
 | [v]=>v
 | vs=>.tuple vs.toArray
def sY (S:CS) (w:World) (b o:Nat) (us:List Value):Prop:=∀ j v,us[j]? = some v->S b (o + j)/\w.cell? ⟨b,o + j,none⟩=some v
def eY (P:Program) (f:FuncId):Prop:=∀ (args:Array Value) (w:World),(callFunc f args).run P w = .ok (.enter f args) w
structure xl (S:CS) (w w':World):Prop where
 cell:∀ b o,S b o->w'.cell? ⟨b,o,none⟩=w.cell? ⟨b,o,none⟩
 maps:∀ b o es c,S b o->w.heap[b]? = some (.map es c)->w'.heap[b]? = some (.map es c)
 pl:Pl w w'
theorem xl.refl (S:CS) (w:World):xl S w w:=⟨fun _ _ _=>rfl,fun _ _ _ _ _ h=>h,.refl w⟩
theorem xl.trans {S:CS} {a b c:World} (h:xl S a b) (h':xl S b c):xl S a c:=
 ⟨fun b o x=>(h'.cell b o x).trans (h.cell b o x),fun b o es k x y=>h'.maps b o es k x (h.maps b o es k x y),h.pl.trans h'.pl⟩
theorem xl.mono {S S':CS} {a b:World} (h:xl S a b) (hs:∀ b o,S' b o->S b o):xl S' a b:=⟨fun b o x=>h.cell b o (hs b o x),fun b o es c x=>h.maps b o es c (hs b o x),h.pl⟩
theorem Ext0.kps {S S':CS} {w w':World} (h:Ext0 S w S' w'):xl S w w':=⟨h.same,h.maps,h.pl⟩
structure Cons (α:Type) where
 J:List α->(Nat->Prop)->CS->World->Prop
 JS:List α->(Nat->Prop)->CS->World->Prop
 JP:List α->List PanicEntry->(Nat->Prop)->CS->World->Prop
structure Cons.Ok {α:Type} (C:Cons α):Prop where
 J:∀ l F S S' w w',C.J l F S w->(∀ b,F b->b < w.heap.size)->dX F w w'->xl S w w'->(∀ b o,S b o->S' b o)->C.J l F S' w'
 JS:∀ l F S S' w w',C.JS l F S w->(∀ b,F b->b < w.heap.size)->dX F w w'->xl S w w'->(∀ b o,S b o->S' b o)->C.JS l F S' w'
 JP:∀ l ch F S S' w w',C.JP l ch F S w->(∀ b,F b->b < w.heap.size)->dX F w w'->xl S w w'->(∀ b o,S b o->S' b o)->C.JP l ch F S' w'
structure xm (F:Nat->Prop) (w:World) (F':Nat->Prop) (w':World):Prop where
 sub:∀ b,F b->F' b
 new:∀ b,F' b->F b\/w.heap.size<=b
 bd:∀ b,F' b->b < w'.heap.size
theorem xm.refl {F:Nat->Prop} {w w':World} (h:∀ b,F b->b < w.heap.size) (hs:w.heap.size<=w'.heap.size):xm F w F w':=⟨fun _ x=>x,fun _ x=>.inl x,fun b x=>Nat.lt_of_lt_of_le (h b x) hs⟩
theorem xm.trans {F F' F'':Nat->Prop} {w w' w'':World} (h:xm F w F' w') (h':xm F' w' F'' w'') (hs:w.heap.size<=w'.heap.size):xm F w F'' w'':=
 ⟨fun b x=>h'.sub b (h.sub b x),fun b x=>(h'.new b x).elim (fun y=>h.new b y) (fun y=>.inr (Nat.le_trans hs y)),h'.bd⟩
def zH {α:Type} (P:Program) (Q:CS->World->α->List Value->Prop) (C:Cons α) (S0:CS) (l:Nat) (items:List α):Prop:=
 ∀ (k:List α) (F:Nat->Prop) (S:CS) (W:World) (x:α) (vs:List Value),k ++ [x] <+: items->C.J k F S W->(∀ b,F b->b < W.heap.size)->Bd S W->(∀ b o,S b o->F b->S0 b o)->Q S W x vs ->
  ∃ fn tmps assign body,(Instr.yield l vs.toArray).run P W = .ok (.round l fn tmps assign body) W /\
   RoundIn Fence.wide 0 P l fn tmps assign body W fun e W'=>∃ F',xm F W F' W'/\dX (fun b=>b < W.heap.size/\¬ F b) W W'/\xl S W W' /\
    ((e = .returned (.bool true)/\C.J (k ++ [x]) F' S W')\/(e = .returned (.bool false)/\C.JS (k ++ [x]) F' S W')\/∃ ch,e = .panicked ch/\C.JP (k ++ [x]) ch F' S W')
def Vu {α:Type} (P:Program) (Q:CS->World->α->List Value->Prop) (f:FuncId) (first caps:Array Value) (items:List α) (S:CS) (w:World):Prop:=
 ∀ (C:Cons α),C.Ok->∀ (F:Nat->Prop) (l:Nat),C.J [] F S w->(∀ b,F b↔b < w.heap.size)->zH P Q C S l items ->
  Calls P f (first ++ #[.func (.yield l) #[] #[]] ++ caps) w fun e w'=>∃ F' S',xm F w F' w'/\xl S w w' /\
   ((e = .returned (.tuple #[])/\(C.J items F' S' w'\/∃ l',l' <+: items/\C.JS l' F' S' w'))\/∃ l' ch,l' <+: items/\e = .panicked ch/\C.JP l' ch F' S' w')
def nK (k v:Ty) (m:k.den->Option v.den) (es:Array MapEntry):Prop:=
 ∃ l:List (k.den×v.den),es.toList.map (fun e=>(e.key,e.val))=l.map (fun p=>(pack (encs k p.1),pack (encs v p.2)))/\(l.map (·.1)).Nodup /\
  (∀ p∈l,m p.1=some p.2)/\∀ x y,m x=some y->(x,y)∈l
def Stm (es:Array MapEntry) (c:Nat):Prop:=(∀ e∈es.toList,e.born < c)/\(es.toList.map (·.born)).Nodup
def adl (k v:Ty) (m:k.den->Option v.den) (es:Array MapEntry) (c:Nat):Prop:=nK k v m es/\Stm es c
def R (P:Program):(τ:Ty)->CS->World->τ.den->List Value->Prop
 | .int k,_,_,n,vs=>vs=[.int k n]
 | .bool,_,_,b,vs=>vs=[.bool b]
 | .sl e,S,w,s,vs=>(s.n=0/\∃ a cap,vs=[.slice a 0 cap])\/∃ b o cap,vs=[.slice (some ⟨b,o,none⟩) s.n cap]/\s.n<=cap/\cap<=maxLen /\
  ∀ i,i < s.n->∃ us,R P e S w (s.g i) us/\us.length=e.cells/\sY S w b (o + i * e.cells) us
 | .ptr e,S,w,x,vs=>∃ b o us,vs=[.pointer (some ⟨b,o,none⟩)]/\R P e S w x us/\us.length=e.cells/\sY S w b o us
 | .agg e,S,w,x,vs=>∃ us,vs=[.agg us.toArray]/\R P e S w x us/\us.length=e.cells
 | .nil,_,_,_,vs=>vs=[]
 | .cons h t,S,w,x,vs=>∃ u ws,vs=u :: ws/\R P h S w (show h.den×t.den from x).1 [u]/\R P t S w (show h.den×t.den from x).2 ws
 | .fn a r,S,w,F,vs=>∃ f first caps,vs=[.func (.func f) first caps]/\eY P f/\∀ S' w',Ext0 S w S' w'->∀ (x:a.den) us,((show a.den->Bool×r.den from F) x).1=true->R P a S' w' x us ->
  Calls P f (first ++ us.toArray ++ caps) w' (fun e w''=>∃ Ii rs,e = .returned (pack rs)/\R P r Ii w'' ((show a.den->Bool×r.den from F) x).2 rs/\Ext S' w' Ii w''/\Below w'.heap.size w' w'')
 | .seq e,S,w,s,vs=>∃ f first caps,vs=[.func (.func f) first caps]/\eY P f/\∀ S' w',Ext0 S w S' w'->Vu P (R P e) f first caps (show Sl e.den from s).list S' w'
 | .map k v,S,w,m,vs=>k.plain=true/\v.plain=true/\k.single=true/\v.single=true/\((∃ r,vs=[.map r]/\r=none/\∀ x,(show k.den->Option v.den from m) x=none)\/∃ b es c,vs=[.map (some b)]/\S b 0/\w.heap[b]? = some (.map es c)/\nK k v m es)
 | .vl,_,_,_,vs=>∃ v,vs=[v]/\v.oneCell'=true
theorem sY.mono {S S':CS} {w w':World} {b o:Nat} {us:List Value} (h:sY S w b o us) (e:Ext0 S w S' w'):sY S' w' b o us:=fun j v hv =>
 ⟨e.sub _ _ (h j v hv).1,(e.same _ _ (h j v hv).1).trans (h j v hv).2⟩
theorem R.mono {P:Program}:∀ {τ:Ty} {S S':CS} {w w':World} {x:τ.den} {vs:List Value},R P τ S w x vs->Ext0 S w S' w'->R P τ S' w' x vs
 | .int _,_,_,_,_,_,_,h,_=>h
 | .bool,_,_,_,_,_,_,h,_=>h
 | .sl e,S,S',w,w',x,vs,h,ex=>by
  rcases h with h | ⟨b,o,cap,h1,h2,h3,h4⟩
  ·exact .inl h
  ·refine .inr ⟨b,o,cap,h1,h2,h3,fun i hi=>?_⟩
   obtain ⟨us,a,l,m⟩:=h4 i hi
   exact ⟨us,R.mono a ex,l,m.mono ex⟩
 | .ptr e,S,S',w,w',x,vs,h,ex=>by
  obtain ⟨b,o,us,h1,h2,l,h3⟩:=h
  exact ⟨b,o,us,h1,R.mono h2 ex,l,h3.mono ex⟩
 | .agg e,S,S',w,w',x,vs,h,ex=>by
  obtain ⟨us,h1,h2,l⟩:=h
  exact ⟨us,h1,R.mono h2 ex,l⟩
 | .nil,_,_,_,_,_,_,h,_=>h
 | .cons h t,S,S',w,w',x,vs,hh,ex=>by
  obtain ⟨u,ws,h1,h2,h3⟩:=hh
  exact ⟨u,ws,h1,R.mono h2 ex,R.mono h3 ex⟩
 | .fn a r,S,S',w,w',F,vs,h,ex=>by
  obtain ⟨f,first,caps,h1,hc,h2⟩:=h
  exact ⟨f,first,caps,h1,hc,fun Ii w'' ex'=>h2 Ii w'' (ex.trans ex')⟩
 | .seq e,S,S',w,w',F,vs,h,ex=>by
  obtain ⟨f,first,caps,h1,hc,h2⟩:=h
  exact ⟨f,first,caps,h1,hc,fun Ii w'' ex'=>h2 Ii w'' (ex.trans ex')⟩
 | .map k v,S,S',w,w',F,vs,h,ex=>by
  obtain ⟨p1,p2,p3,p4,h | ⟨b,es,c,h1,h2,h3,h4⟩⟩:=h
  ·exact ⟨p1,p2,p3,p4,.inl h⟩
  ·exact ⟨p1,p2,p3,p4,.inr ⟨b,es,c,h1,ex.sub _ _ h2,ex.maps _ _ _ _ h2 h3,h4⟩⟩
 | .vl,_,_,_,_,_,_,h,_=>h
theorem R.one {P:Program} {τ:Ty} {S:CS} {w:World} {x:τ.den} {vs:List Value} (ho:τ.one=true) (h:R P τ S w x vs):∃ v,vs=[v]/\v.oneCell'=true:=by
 cases τ with
 | int k=>exact ⟨_,h,rfl⟩
 | bool=>exact ⟨_,h,rfl⟩
 | sl e=>rcases h with ⟨_,a,c,h⟩ | ⟨b,o,cap,h,_⟩ <;> exact ⟨_,h,rfl⟩
 | ptr e=>obtain ⟨b,o,us,h,_⟩:=h; exact ⟨_,h,rfl⟩
 | fn a r=>obtain ⟨f,first,caps,h,_⟩:=h; exact ⟨_,h,rfl⟩
 | seq e=>obtain ⟨f,first,caps,h,_⟩:=h; exact ⟨_,h,rfl⟩
 | map k v=>obtain ⟨_,_,_,_,⟨r,h,_⟩ | ⟨b,es,c,h,_⟩⟩:=h <;> exact ⟨_,h,rfl⟩
 | vl=>exact h
 | _=>cases ho
theorem R.len {P:Program}:∀ {τ:Ty} {S:CS} {w:World} {x:τ.den} {vs:List Value},R P τ S w x vs->vs.length=τ.cells
 | .int _,_,_,_,_,h=>by rw [show _=[_] from h]; rfl
 | .bool,_,_,_,_,h=>by rw [show _=[_] from h]; rfl
 | .sl e,_,_,_,_,h=>by rcases h with ⟨_,a,c,h⟩ | ⟨b,o,cap,h,_⟩ <;> rw [h] <;> rfl
 | .ptr e,_,_,_,_,h=>by obtain ⟨b,o,us,h,_⟩:=h; rw [h]; rfl
 | .agg e,_,_,_,_,h=>by obtain ⟨us,h,_⟩:=h; rw [h]; rfl
 | .nil,_,_,_,_,h=>by rw [show _=[] from h]; rfl
 | .cons h t,_,_,x,_,hh=>by
  obtain ⟨u,ws,h1,h2,h3⟩:=hh
  rw [h1]; simp [Ty.cells,R.len h3]
 | .fn a r,_,_,_,_,h=>by obtain ⟨f,first,caps,h,_⟩:=h; rw [h]; rfl
 | .seq e,_,_,_,_,h=>by obtain ⟨f,first,caps,h,_⟩:=h; rw [h]; rfl
 | .map k v,_,_,_,_,h=>by obtain ⟨_,_,_,_,⟨r,h,_⟩ | ⟨b,es,c,h,_⟩⟩:=h <;> rw [h] <;> rfl
 | .vl,_,_,_,_,h=>by obtain ⟨v,h,_⟩:=h; rw [h]; rfl
theorem R.flat {P:Program}:∀ {τ:Ty} {S:CS} {w:World} {x:τ.den} {vs:List Value},τ.flat=true->R P τ S w x vs->∀ v∈vs,v.oneCell'=true
 | .nil,_,_,_,_,_,h=>by rw [show _=[] from h]; simp
 | .cons h t,_,_,x,_,hf,hh=>by
  obtain ⟨u,ws,h1,h2,h3⟩:=hh
  simp only [Ty.flat,Bool.and_eq_true] at hf
  obtain ⟨v,hv,ho⟩:=R.one hf.1 h2
  cases hv
  rw [h1]
  intro v hv
  rcases List.mem_cons.1 hv with rfl | hv
  ·exact ho
  ·exact R.flat hf.2 h3 v hv
theorem gZ:∀ (τ:Ty) (x:τ.den),τ.plain=true->(encs τ x).length=τ.cells
 | .int _,_,_=>rfl
 | .bool,_,_=>rfl
 | .nil,_,_=>rfl
 | .agg _,_,_=>rfl
 | .cons h t,x,hp=>by
  simp only [Ty.plain,Bool.and_eq_true] at hp
  have h1:=gZ h x.1 hp.2.1
  have h2:=gZ t x.2 hp.2.2
  have h3:h.cells=1:=by cases h <;> first | rfl | cases hp.1
  show (encs h x.1 ++ encs t x.2).length=t.cells + 1
  rw [List.length_append,h1,h2,h3]; omega
theorem R.plain {P:Program}:∀ {τ:Ty} {S:CS} {w:World} {x:τ.den} {vs:List Value},τ.plain=true->(R P τ S w x vs↔vs=encs τ x)
 | .int _,_,_,_,_,_=>Iff.rfl
 | .bool,_,_,_,_,_=>Iff.rfl
 | .nil,_,_,_,_,_=>Iff.rfl
 | .agg e,S,w,x,vs,hp=>by
  have ih:=fun vs=>R.plain (P:=P) (τ:=e) (S:=S) (w:=w) (x:=x) (vs:=vs) hp
  constructor
  ·rintro ⟨us,rfl,h2,h3⟩
   obtain rfl:=(ih us).1 h2
   rfl
  ·rintro rfl
   exact ⟨encs e x,rfl,(ih _).2 rfl,gZ e x hp⟩
 | .cons h t,S,w,x,vs,hp=>by
  simp only [Ty.plain,Bool.and_eq_true] at hp
  have ih1:=fun vs=>R.plain (P:=P) (τ:=h) (S:=S) (w:=w) (x:=x.1) (vs:=vs) hp.2.1
  have ih2:=fun vs=>R.plain (P:=P) (τ:=t) (S:=S) (w:=w) (x:=x.2) (vs:=vs) hp.2.2
  constructor
  ·rintro ⟨u,ws,rfl,h2,h3⟩
   show u :: ws=encs h x.1 ++ encs t x.2
   rw [<- (ih1 _).1 h2,<- (ih2 _).1 h3]; rfl
  ·rintro rfl
   have l1:=gZ h x.1 hp.2.1
   have l3:h.cells=1:=by cases h <;> first | rfl | cases hp.1
   obtain ⟨u,hu⟩:∃ u,encs h x.1=[u]:=List.length_eq_one_iff.1 (by omega)
   exact ⟨u,encs t x.2,by show encs h x.1 ++ _=_; rw [hu]; rfl,(ih1 _).2 hu.symm,(ih2 _).2 rfl⟩
structure Con where
 args:Ty
 res:Ty
 pre:args.den->Bool
 fn:args.den->res.den
def aQ (P:Program) (f:FuncId) (c:Con):Prop:=
 ∀ (S:CS) (w:World),Bd S w->∀ (x:c.args.den) (vs:List Value),c.pre x=true->R P c.args S w x vs ->
  Calls P f vs.toArray w (fun e w'=>∃ S' rs,e = .returned (pack rs)/\R P c.res S' w' (c.fn x) rs/\Ext S w S' w'/\Below w.heap.size w w')
theorem aQ.fn {P:Program} {f:FuncId} {c:Con} (hc:eY P f) (h:aQ P f c) {S:CS} {w:World} :
  R P (.fn c.args c.res) S w (fun x=>(c.pre x,c.fn x)) [.func (.func f) #[] #[]]:=
 ⟨f,#[],#[],rfl,hc,fun S' w' ex x us hp hr=>by
  simpa using h S' w' ex.bd x us hp hr⟩
end Go.Dm
namespace Go.Dm
open Go.RowKit
inductive DC where
 | pc (τ:Ty) (x:τ.den)
 | own (id bG:Nat) (e:Ty) (s:Sl e.den)
 | ptr (id off:Nat)
 | KP (id off:Nat)
 | La (id bG i off:Nat)
 | row (id bG:Nat)
 | mp (id:Nat)
 | rows (id:Nat)
 | Pn (id i:Nat)
 | sub (id bG i n:Nat)
 | xo (id bG i j off:Nat)
 | iM (f:FuncId) (ids:List Nat)
 | lR (f:FuncId) (τ:Ty) (x:τ.den) (ids:List Nat)
 | zg (T:TypeId) (τ:Ty) (x:τ.den)
 | jI
 | mU
 | qD
 | top
inductive Slot where
 | v (d:DC)
 | agg (ds:List DC)
 | tup (τ:Ty) (x:τ.den)
 | ta (b:Bool)
 | pr (ds:List DC) (τ:Ty) (x:τ.den)
 | un
 | top
inductive bu where
 | none
 | gone
 | box (ds:List DC)
 | chain (bG:Nat) (T:TypeId) (k n:Nat)
 | row (bG:Nat) (T:TypeId) (e:Ty) (s:Sl e.den)
 | mp (k v:Ty) (m:k.den->Option v.den)
 | rows (bG:Nat) (T:TypeId) (e:Ty) (d:Sl (Sl e.den))
structure Tr where
 e:Ty
 live:Bool
 s:Sl e.den
def Tr.none:Tr:=⟨.nil,false,⟨0,fun _=>()⟩⟩
inductive fu where
 | mark
 | marks
 | iM (f:FuncId) (ids:List Nat)
structure St where
 env:Nat->Slot
 heap:Nat->bu
 tr:Tr
 base:Nat
 bw:List fu
inductive Tree (α:Type) where
 | leaf (a:α)
 | br (b:Bool) (l r:Tree α)
 | any (l r:Tree α)
def Tree.run {α β:Type} (ch:β->β->β) (K:α->β):Tree α->β
 | .leaf a=>K a
 | .br b l r=>bif b then l.run ch K else r.run ch K
 | .any l r=>ch (l.run ch K) (r.run ch K)
def Tree.Has {α:Type} (a:α):Tree α->Prop
 | .leaf b=>a=b
 | .br b l r=>if b then l.Has a else r.Has a
 | .any l r=>l.Has a\/r.Has a
def Tree.gJ {α:Type} (p:α->Prop):Tree α->Prop
 | .leaf b=>p b
 | .br b l r=>if b then l.gJ p else r.gJ p
 | .any l r=>l.gJ p/\r.gJ p
def Tree.map {α β:Type} (f:α->β):Tree α->Tree β
 | .leaf a=>.leaf (f a)
 | .br b l r=>.br b (l.map f) (r.map f)
 | .any l r=>.any (l.map f) (r.map f)
structure mV where
 wt:Option Slot
 wh:List (Nat×bu)
 rh:List Nat
 loc:Bool
 tr:Option Tr
inductive OR where
 | ok (e:mV)
 | bP (d:DC) (e:mV)
 | bad
inductive Br where
 | one (r:Option mV)
 | br (b:Bool) (x y:Br)
def Br.run {β:Type} (K:Option mV->β):Br->β
 | .one r=>K r
 | .br b x y=>bif b then x.run K else y.run K
theorem Br.run_eq {β:Type} (K:Option mV->β):∀ b:Br,b.run K=K (b.run id)
 | .one _=>rfl
 | .br b x y=>by
  cases b
  ·exact Br.run_eq K y
  ·exact Br.run_eq K x
def Br.fix (rh:List Nat):Br->Br
 | .one none=>.one none
 | .one (some e)=>.one (some ⟨e.wt,e.wh,rh,true,none⟩)
 | .br b x y=>.br b (x.fix rh) (y.fix rh)
def Br.tree:Br->Tree OR
 | .one none=>.leaf .bad
 | .one (some e)=>.leaf (.ok e)
 | .br b x y=>.br b x.tree y.tree
theorem Br.zI {rh:List Nat}:∀ {b:Br} {e:mV},(b.fix rh).run id=some e->e.rh=rh/\e.tr=none/\e.loc=true
 | .one none,e,h=>by cases h
 | .one (some e0),e,h=>by cases h; exact ⟨rfl,rfl,rfl⟩
 | .br b x y,e,h=>by
  cases b with
  | true=>exact Br.zI (b:=x) h
  | false=>exact Br.zI (b:=y) h
theorem Br.AI:∀ {b:Br} {e:mV},b.run id=some e->∀ r,b.tree.Has r->r = .ok e
 | .one none,e,h,r,hr=>by cases h
 | .one (some e0),e,h,r,hr=>by cases h; exact hr
 | .br b x y,e,h,r,hr=>by
  cases b with
  | true=>exact Br.AI (b:=x) h r (by simpa [Br.tree,Tree.Has] using hr)
  | false=>exact Br.AI (b:=y) h r (by simpa [Br.tree,Tree.Has] using hr)
def Vv (ids:List Slot->List Nat) (app:List Slot->List bu->Nat->Br) (args:List Slot) (heap:Nat->bu) (bJ:Nat):Br:=(app args ((bJ :: ids args).map heap) bJ).fix (bJ :: ids args)
def er (s:Slot) (wh:List (Nat×bu)) (rh:List Nat):Br:=.one (some ⟨some s,wh,rh,true,none⟩)
def cV (s:Slot):Br:=er s [] []
def bad:Br:=.one none
def kN (b:Bool) (s:Slot) (rh:List Nat):Br:=.br b (er s [] rh) bad
structure Dc where
 fst:Ty
 cap:Ty
 e:Ty
 pre:fst.den->cap.den->Bool
 items:fst.den->cap.den->Sl e.den
inductive Ent where
 | pure (c:Con)
 | iter (c:Dc)
 | gen (app:List Slot->(Nat->bu)->Tr->Nat->Tree OR)
 | row (w:Bool) (n:Nat) (τa:Ty) (T:TypeId) (e:Ty) (R:τa.den->Option (Sl e.den))
 | loc (ids:List Slot->List Nat) (app:List Slot->List bu->Nat->Br)
abbrev Ctx:=FuncId->Option Ent
def ee:(τ:Ty)->τ.den->List DC
 | .nil,_=>[]
 | .cons h t,x=>(match h.one with | true=>.pc h (show h.den×t.den from x).1 | false=>.top) :: ee t (show h.den×t.den from x).2
 | τ,x=>[match τ.one with | true=>.pc τ x | false=>.top]
def AJ:(τ:Ty)->τ.den->Slot
 | .agg e,x=>match e.flat with
  | true=>.agg (ee e x)
  | false=>.top
 | τ,x=>match τ.one with
  | true=>.v (.pc τ x)
  | false=>.top
def jk:(τ:Ty)->τ.den->Slot
 | .cons h .nil,x=>AJ h (show h.den×Unit from x).1
 | .cons h (.cons h' t),x=>.tup (.cons h (.cons h' t)) x
 | .nil,x=>.tup .nil x
 | _,_=>.top
def cH {σ:Ty} (τ:Ty) (x:σ.den):Option τ.den:=if h:σ=τ then some (h ▸ x) else none
def xp:(τ:Ty)->DC->Option τ.den
 | .vl,.jI=>none
 | .vl,_=>some ()
 | τ,.pc _ x=>cH τ x
 | τ,.own _ _ e s=>cH (σ:=.sl e) τ s
 | .sl e,.mU=>some ⟨0,fun _=>e.dflt⟩
 | _,_=>none
def eV:(τ:Ty)->List DC->Option τ.den
 | .nil,[]=>some ()
 | .cons h t,d :: ds=>match xp h d,eV t ds with
  | some x,some y=>some (x,y)
  | _,_=>none
 | _,_=>none
def ej:(τ:Ty)->Slot->Option τ.den
 | .agg e,.agg ds=>eV e ds
 | τ,.v d=>xp τ d
 | _,_=>none
def ef:(τ:Ty)->List Slot->Option τ.den
 | .nil,[]=>some ()
 | .cons h t,d :: ds=>match ej h d,ef t ds with
  | some x,some y=>some (x,y)
  | _,_=>none
 | _,_=>none
def dI:Slot->Option (List DC)
 | .v d=>some [d]
 | .agg ds=>some ds
 | _=>none
def vq:Value->DC
 | .int k n=>.pc (.int k) n
 | .bool b=>.pc .bool b
 | .slice none 0 0=>.mU
 | .nilIface=>.qD
 | _=>.top
def mW:Value->Slot
 | .agg cs=>match cs.toList.all (·.oneCell') with
  | true=>.agg (cs.toList.map vq)
  | false=>.top
 | v=>match v.oneCell' with
  | true=>.v (vq v)
  | false=>.top
def val (Γ:Ctx) (env:Nat->Slot):Operand->Slot
 | .tmp t=>env t
 | .const v=>mW v
 | .func f=>match Γ f with
  | some (.pure c)=>.v (.pc (.fn c.args c.res) (fun x=>(c.pre x,c.fn x)))
  | some (.gen _)=>.v (.iM f [])
  | _=>.top
 | .global _=>.top
def uni (τ:Ty):List DC->Option (List τ.den)
 | []=>some []
 | .pc _ x :: ds=>match cH τ x,uni τ ds with
  | some y,some ys=>some (y :: ys)
  | _,_=>none
 | _ :: _=>none
def cellAt (ds:List DC) (o:Nat):DC:=
 match ds with
 | .pc τ x :: _=>match uni τ ds with
  | some xs=>.pc τ (xs.getD o x)
  | none=>ds.getD o .top
 | ds=>ds.getD o .top
def cv (P:Program) (t:TypeId):Option Bool:=
 match P.underlying t with
 | some (.struct _) | some (.array _ _)=>some true
 | some _=>some false
 | none=>none
def cy (P:Program) (t:TypeId):Option Nat:=(P.info? t).map (·.size)
def viewAt (P:Program) (t:TypeId) (ds:List DC) (o:Nat) (rh:List Nat):Br:=
 match cy P t with
 | some n=>match cv P t with
  | some true=>kN (decide (o + n<=ds.length)) (.agg ((List.range n).map fun j=>cellAt ds (o + j))) rh
  | some false=>kN (decide (o < ds.length)) (.v (cellAt ds o)) rh
  | none=>bad
 | none=>bad
def splice (ds:List DC) (o:Nat) (cs:List DC):List DC:=ds.take o ++ cs ++ ds.drop (o + cs.length)
def vu (ds:List DC) (o:Nat) (cs:List DC):List DC:=
 match ds with
 | .pc τ x :: _=>match uni τ ds,uni τ cs with
  | some xs,some ys=>(List.range ds.length).map fun j=>.pc τ (bif Nat.ble o j && Nat.blt j (o + cs.length) then ys.getD (j - o) x else xs.getD j x)
  | _,_=>splice ds o cs
 | ds=>splice ds o cs
def qE:Ty->Nat->Ty
 | τ,0=>τ
 | .cons _ t,n + 1=>qE t n
 | τ,_ + 1=>τ
def AK:(τ:Ty)->(n:Nat)->τ.den->(qE τ n).den
 | .int _,0,x | .bool,0,x | .sl _,0,x | .ptr _,0,x | .agg _,0,x | .nil,0,x | .cons _ _,0,x | .fn _ _,0,x | .seq _,0,x | .map _ _,0,x | .vl,0,x=>x
 | .cons h t,n + 1,x=>AK t n (show h.den×t.den from x).2
 | .int _,_ + 1,x | .bool,_ + 1,x | .sl _,_ + 1,x | .ptr _,_ + 1,x | .agg _,_ + 1,x | .nil,_ + 1,x | .fn _ _,_ + 1,x | .seq _,_ + 1,x | .map _ _,_ + 1,x | .vl,_ + 1,x=>x
def nth:(τ:Ty)->τ.den->Nat->Slot
 | .cons h _,x,0=>AJ h (Prod.fst (show h.den×_ from x))
 | .cons h t,x,n + 1=>nth t (show h.den×t.den from x).2 n
 | _,_,_=>.top
def yq (place:Nat->Option (Nat×Nat)):List DC->List (Nat×Slot)->Option (List DC)
 | cells,[]=>some cells
 | cells,(i,s) :: rest=>match place i,dI s with
  | some (off,size),some cs=>match decide (cs.length=size/\off + cs.length<=cells.length) with
   | true=>yq place (splice cells off cs) rest
   | false=>none
  | _,_=>none
def fW (P:Program) (t:TypeId):Option (List DC):=((P.info? t).bind (·.zero)).bind fun v=>dI (mW v)
def places (P:Program) (fs:Array Field):Nat->Option (Nat×Nat):=fun i=>(fs[i]?).bind fun f=>(cy P f.type).map fun n=>(f.offset,n)
def Lb (P:Program) (t:TypeId) (parts:List (Nat×Slot)):Option (List DC):=
 (fW P t).bind fun z=>match P.underlying t with
  | some (.struct fs)=>match fs.toList.all fun f=>(cy P f.type).isSome with
   | true=>yq (places P fs) z parts
   | false=>none
  | some (.array _ e)=>(cy P e).bind fun n=>yq (fun i=>some (i * n,n)) z parts
  | _=>none
def AL:DC->Option Ty
 | .pc τ _=>some τ
 | .own _ _ e _=>some (.sl e)
 | _=>none
def eZ:List DC->Option Ty
 | []=>some .nil
 | d :: ds=>match AL d,eZ ds with
  | some h,some t=>some (.cons h t)
  | _,_=>none
def chunks (τ:Ty):Nat->List DC->Option (List τ.den)
 | 0,_=>some []
 | n + 1,ds=>match eV τ (ds.take τ.cells),chunks τ n (ds.drop τ.cells) with
  | some x,some xs=>some (x :: xs)
  | _,_=>none
def AM (rec:TypeId->Option (List Ty)):List Field->Option (List Ty)
 | []=>some []
 | f :: fs=>match rec f.type,AM rec fs with
  | some l,some r=>some (l ++ r)
  | _,_=>none
def zJ:List Ty->Ty
 | []=>.nil
 | t :: ts=>.cons t (zJ ts)
def mX (P:Program):Nat->TypeId->Option (List Ty)
 | 0,_=>none
 | n + 1,t=>match P.underlying t with
  | some (.int k)=>some [.int k]
  | some .bool=>some [.bool]
  | some (.slice e)=>(mX P n e).map fun l=>[.sl (zJ l)]
  | some (.struct fs)=>AM (mX P n) fs.toList
  | some (.array k e)=>(mX P n e).map fun l=>(List.replicate k l).flatten
  | _=>none
def avh (P:Program) (e:TypeId) (cs:List DC):Option Ty:=match eZ cs with
 | some τ=>some τ
 | none=>(mX P 8 e).map zJ
def lT (P:Program) (t:TypeId) (bJ:Nat) (len:Nat) (parts:List (Nat×Slot)):Br:=
 match P.underlying t with
 | some (.slice e)=>match len with
  | 0=>match parts,cy P e with
   | [],some _=>er (.v .mU) [] [bJ]
   | _,_=>bad
  | len=>match cy P e,(fW P e).isSome with
   | some n,true=>match yq (fun i=>some (i * n,n)) (List.replicate (len * n) .top) parts with
    | some cs=>match avh P e (cs.take n) with
     | some τ=>match chunks τ len cs,Nat.beq n τ.cells && Nat.blt 0 n && Nat.ble (len * n) 16777216 && τ.flat with
      | some (x :: xs),true=>er (.v (.own bJ 0 τ ⟨len,fun i=>(x :: xs).getD i x⟩)) [(bJ,.chain 0 e τ.cells len)] [bJ]
      | _,_=>bad
     | none=>bad
    | none=>bad
   | _,_=>bad
 | _=>bad
def ints:DC->DC->Option Bool
 | .pc (.int k) a,.pc (.int k') b=>if k=k' then some (decide ((show Int from a)=(show Int from b))) else none
 | .pc .bool a,.pc .bool b=>some ((show Bool from a) == (show Bool from b))
 | _,_=>none
def isNone:bu->Bool
 | .none=>true
 | _=>false
def vv:List DC->List DC->Option Bool
 | [],[]=>some true
 | a :: as,b :: bs=>match ints a b,vv as bs with
  | some x,some y=>some (x && y)
  | _,_=>none
 | _,_=>none
abbrev Vw:=TypeId->Option Ty
def aij (k:IntKind) (a b:Int):Int:=(BitVec.ofInt k.bits a &&& BitVec.ofInt k.bits b).toNat
def aln (k:IntKind) (a y:Int):Int:=a * 2 ^ (min y.toNat k.bits)
def alo (k:IntKind) (a y:Int):Int:=a.fdiv (2 ^ (min y.toNat k.bits))
def aik (op:BinOp) (k:IntKind) (a b:Int):Br:=
 match op with
 | .add=>cV (.v (.pc (.int k) (k.wrap (a + b))))
 | .sub=>cV (.v (.pc (.int k) (k.wrap (a - b))))
 | .mul=>cV (.v (.pc (.int k) (k.wrap (a * b))))
 | .quo=>.br (decide (b=0)) bad (cV (.v (.pc (.int k) (k.wrap (a.tdiv b)))))
 | .rem=>.br (decide (b=0)) bad (cV (.v (.pc (.int k) (a.tmod b))))
 | .and=>cV (.v (.pc (.int k) (k.wrap (aij k a b))))
 | .eql=>cV (.v (.pc .bool (decide (a=b))))
 | .neq=>cV (.v (.pc .bool (!decide (a=b))))
 | .lss=>cV (.v (.pc .bool (decide (a < b))))
 | .leq=>cV (.v (.pc .bool (decide (a<=b))))
 | .gtr=>cV (.v (.pc .bool (decide (b < a))))
 | .geq=>cV (.v (.pc .bool (decide (b<=a))))
 | _=>bad
def shiftOp (op:BinOp) (k:IntKind) (a y:Int):Br:=
 match op with
 | .shl=>.br (decide (y < 0)) bad (cV (.v (.pc (.int k) (k.wrap (aln k a y)))))
 | .shr=>.br (decide (y < 0)) bad (cV (.v (.pc (.int k) (alo k a y))))
 | _=>bad
def ado:BinOp->Bool
 | .shl | .shr=>true
 | _=>false
def rowOf:Slot->Option ((e:Ty)×Sl e.den)
 | .v (.pc (.sl e) s)=>some ⟨e,s⟩
 | .v (.own _ _ e s)=>some ⟨e,s⟩
 | _=>none
def Ij (s:Slot) (tr:Option Tr):Tree OR:=.leaf (.ok ⟨some s,[],[],false,tr⟩)
def qF (want:Bool):Slot->Tree OR
 | .v .mU=>.any (Ij (.v (.pc .bool want)) none) (Ij (.v (.pc .bool (!want))) none)
 | s=>match rowOf s with
  | some ⟨_,r⟩=>.br (Nat.blt 0 r.n) (Ij (.v (.pc .bool (!want))) none) (.any (Ij (.v (.pc .bool want)) none) (Ij (.v (.pc .bool (!want))) none))
  | none=>.leaf .bad
def nL:Operand->Bool
 | .const (.slice none 0 0)=>true
 | _=>false
def nM:Operand->Bool
 | .const .nilIface=>true
 | _=>false
def Lc (P:Program) (E:Vw) (op:BinOp) (t:TypeId) (yo:Operand):Slot->Slot->Br
 | .v (.pc (.int k) a),.v (.pc (.int k') b)=>match ado op with
  | true=>shiftOp op k a b
  | false=>match decide (k=k') with
   | true=>aik op k a b
   | false=>bad
 | .v (.pc .bool a),.v (.pc .bool b)=>match op,P.underlying t with
  | .eql,some .bool=>cV (.v (.pc .bool ((show Bool from a) == (show Bool from b))))
  | .neq,some .bool=>cV (.v (.pc .bool (!((show Bool from a) == (show Bool from b)))))
  | _,_=>bad
 | .agg as,.agg bs=>match E t with
  | some τ=>match decide (eZ as=some τ/\eZ bs=some τ),vv as bs,op with
   | true,some b,.eql=>cV (.v (.pc .bool b))
   | true,some b,.neq=>cV (.v (.pc .bool (!b)))
   | _,_,_=>bad
  | none=>bad
 | .v (.zg _ _ _),.v .qD=>match nM yo,op,P.underlying t with
  | true,.eql,some (.interface _)=>cV (.v (.pc .bool false))
  | true,.neq,some (.interface _)=>cV (.v (.pc .bool true))
  | _,_,_=>bad
 | .v .qD,.v .qD=>match nM yo,op,P.underlying t with
  | true,.eql,some (.interface _)=>cV (.v (.pc .bool true))
  | true,.neq,some (.interface _)=>cV (.v (.pc .bool false))
  | _,_,_=>bad
 | _,_=>bad
def ail:UnOp->Slot->Br
 | .neg,.v (.pc (.int k) a)=>cV (.v (.pc (.int k) (k.wrap (0 - (show Int from a)))))
 | .not,.v (.pc .bool b)=>cV (.v (.pc .bool (!(show Bool from b))))
 | _,_=>bad
def alp (heap:Nat->bu):Slot->Br
 | .v .mU=>cV (.v (.pc (.int .i64) (0:Int)))
 | .v (.row id bG)=>match heap id with
  | .row cur _ _ s=>match Nat.beq bG cur with
   | true=>er (.v (.pc (.int .i64) (s.n:Int))) [] [id]
   | false=>bad
  | _=>bad
 | .v (.rows id)=>match heap id with
  | .rows _ _ _ d=>er (.v (.pc (.int .i64) (d.n:Int))) [] [id]
  | _=>bad
 | .v (.sub id bG _ n)=>match heap id with
  | .rows cur _ _ _=>match Nat.beq bG cur with
   | true=>er (.v (.pc (.int .i64) (n:Int))) [] [id]
   | false=>bad
  | _=>bad
 | s=>match rowOf s with
  | some ⟨_,r⟩=>cV (.v (.pc (.int .i64) (r.n:Int)))
  | none=>bad
def cj {α:Type} (a b:Sl α):Sl α:=⟨a.n + b.n,fun i=>bif Nat.blt i a.n then a.g i else b.g (i - a.n)⟩
def cw:List Ty->Ty
 | []=>.nil
 | t :: ts=>.cons t (cw ts)
def sg (P:Program) (rw:Bool) (lo bJ:Nat) (heap:Nat->bu) (T:TypeId) (s x:Slot):Br:=
 match P.underlying T,rowOf x with
 | some (.slice E),some ⟨e,xs⟩=>match P.info? E with
  | some i=>match Nat.beq i.size e.cells && Nat.blt 0 i.size && Nat.blt 0 i.bytes && decide (i.zero.map (fun z=>z.cells.size)=some i.size) && e.flat,s with
   | true,.v .mU=>match heap bJ with
    | .none=>.br (decide (xs.n * i.bytes<=140737488355328)) (match rw with
     | true=>er (.v (.row bJ 0)) [(bJ,.row 0 E e xs)] [bJ]
     | false=>er (.v (.own bJ 0 e xs)) [(bJ,.chain 0 E e.cells xs.n)] [bJ]) bad
    | _=>bad
   | true,.v (.own id bG e' r)=>match heap id,cH (σ:=.sl e') (.sl e) r with
    | .chain Ld E' k n,some r=>match Nat.beq bG Ld && Nat.beq E E' && Nat.beq k e.cells with
     | true=>.br (decide ((r.n + xs.n) * i.bytes<=140737488355328)) (er (.v (.own id (bG + 1) e (cj r xs))) [(id,.chain (bG + 1) E e.cells (r.n + xs.n))] [id]) bad
     | false=>bad
    | _,_=>bad
   | true,.v (.row id bG)=>match heap id with
    | .row Ld E' e' r=>match cH (σ:=.sl e') (.sl e) r with
     | some r=>match Nat.ble lo id && Nat.beq bG Ld && Nat.beq E E' with
      | true=>.br (decide ((r.n + xs.n) * i.bytes<=140737488355328)) (er (.v (.row id (bG + 1))) [(id,.row (bG + 1) E e (cj r xs))] [id]) bad
      | false=>bad
     | none=>bad
    | _=>bad
   | _,_=>bad
  | none=>bad
 | _,_=>bad
def yu (rec:TypeId->Option (List Ty)):List Field->Option (List Ty)
 | []=>some []
 | f :: fs=>match rec f.type,yu rec fs with
  | some l,some r=>some (l ++ r)
  | _,_=>none
def tN (P:Program):Nat->TypeId->Option (List Ty)
 | 0,_=>none
 | n + 1,t=>match P.underlying t with
  | some (.int k)=>some [.int k]
  | some .bool=>some [.bool]
  | some (.struct fs)=>yu (tN P n) fs.toList
  | _=>none
def tO:Nat->Ty->Ty
 | 0,_=>.nil
 | m + 1,.cons h t=>.cons h (tO m t)
 | _ + 1,_=>.nil
def AN:Nat->Ty->Ty
 | 0,τ=>τ
 | m + 1,.cons _ t=>AN m t
 | _ + 1,τ=>τ
def Po:(m:Nat)->(τ:Ty)->(tO m τ).den->(AN m τ).den->τ.den
 | 0,_,_,z=>z
 | m + 1,.cons h t,y,z=>((show h.den×(tO m t).den from y).1,Po m t (show h.den×(tO m t).den from y).2 z)
 | _ + 1,.int _,_,z | _ + 1,.bool,_,z | _ + 1,.sl _,_,z | _ + 1,.ptr _,_,z | _ + 1,.agg _,_,z | _ + 1,.nil,_,z | _ + 1,.fn _ _,_,z | _ + 1,.seq _,_,z | _ + 1,.map _ _,_,z | _ + 1,.vl,_,z=>z
def xq:Con->List Slot->Option Con
 | c,[]=>some c
 | ⟨.cons h t,res,pre,fn⟩,s :: ss=>match ej h s with
  | some x=>xq ⟨t,res,fun y=>pre (x,y),fun y=>fn (x,y)⟩ ss
  | none=>none
 | _,_=>none
def aim (c:Con) (first caps:List Slot):Br:=
 match xq c first with
 | some c'=>match ef (AN (c'.args.cells - caps.length) c'.args) caps with
  | some z=>cV (.v (.pc (.fn (tO (c'.args.cells - caps.length) c'.args) c'.res) fun y=>(c'.pre (Po _ _ y z),c'.fn (Po _ _ y z))))
  | none=>bad
 | none=>bad
def sj:List Slot->Option (List Nat)
 | []=>some []
 | .v (.ptr id 0) :: r=>(sj r).map (id :: ·)
 | _=>none
def ain (c:Con) (args:List Slot):Br:=
 match ef c.args args with
 | some x=>kN (c.pre x) (jk c.res (c.fn x)) []
 | none=>bad
def fnD (a r:Ty) (F:a.den->Bool×r.den) (args:List Slot):Br:=
 match ef a args with
 | some x=>kN (F x).1 (jk r (F x).2) []
 | none=>bad
def AO (tr : Tr) (args : List Slot) : Tree OR :=
  match tr.live, ef tr.e args with
  | true, some x => .any
      (Ij (.v (.pc .bool true)) (some ⟨tr.e, true, cj tr.s ⟨1, fun _ => x⟩⟩))
      (.any (Ij (.v (.pc .bool false)) (some ⟨tr.e, false, cj tr.s ⟨1, fun _ => x⟩⟩))
        (.leaf (.bP .jI ⟨none, [], [], false, some ⟨tr.e, false, cj tr.s ⟨1, fun _ => x⟩⟩⟩)))
  | _, _ => .leaf .bad
def nN (P:Program) (t:TypeId) (heap:Nat->bu) (x:Slot) (i:Slot):Br:=
 match i with
 | .v (.pc (.int _) n)=>match P.underlying t with
  | some (.slice e)=>match x with
   | .v (.row id bG)=>match heap id,cy P e with
    | .row cur _ τ s,some k=>match Nat.beq k τ.cells && Nat.beq bG cur with
     | true=>.br (decide (0<=(show Int from n)/\(show Int from n) < s.n)) (er (.v (.La id bG (show Int from n).toNat 0)) [] [id]) bad
     | false=>bad
    | _,_=>bad
   | .v (.rows id)=>match heap id,cy P e with
    | .rows _ _ _ d,some k=>match Nat.beq k 1 with
     | true=>.br (decide (0<=(show Int from n)/\(show Int from n) < d.n)) (er (.v (.Pn id (show Int from n).toNat)) [] [id]) bad
     | false=>bad
    | _,_=>bad
   | .v (.sub id bG i m)=>match heap id,cy P e with
    | .rows cur _ τ _,some k=>match Nat.beq k τ.cells && Nat.beq bG cur with
     | true=>.br (decide (0<=(show Int from n)/\(show Int from n) < m)) (er (.v (.xo id bG i (show Int from n).toNat 0)) [] [id]) bad
     | false=>bad
    | _,_=>bad
   | x=>match rowOf x,cy P e with
    | some ⟨τ,s⟩,some k=>match Nat.beq k τ.cells with
     | true=>kN (decide (0<=(show Int from n)/\(show Int from n) < s.n)) (.v (.pc (.ptr τ) (s.g (show Int from n).toNat))) []
     | false=>bad
    | _,_=>bad
  | some (.array len e)=>match x,cy P e with
   | .v (.ptr id off),some k=>kN (decide (0<=(show Int from n)/\(show Int from n) < len)) (.v (.KP id (off + (show Int from n).toNat * k))) []
   | .v (.KP id off),some k=>kN (decide (0<=(show Int from n)/\(show Int from n) < len)) (.v (.KP id (off + (show Int from n).toNat * k))) []
   | .v (.pc (.ptr τ) x),some k=>match τ.flat && Nat.blt ((show Int from n).toNat * k) τ.cells with
    | true=>kN (decide (0<=(show Int from n)/\(show Int from n) < len)) (.v (.pc (.ptr (qE τ ((show Int from n).toNat * k))) (AK τ ((show Int from n).toNat * k) x))) []
    | false=>bad
   | _,_=>bad
  | _=>bad
 | _=>bad
def tQ (off:Nat):Slot->Br
 | .v (.ptr id o)=>cV (.v (.ptr id (o + off)))
 | .v (.KP id o)=>cV (.v (.KP id (o + off)))
 | .v (.La id bG i o)=>cV (.v (.La id bG i (o + off)))
 | .v (.xo id bG i j o)=>cV (.v (.xo id bG i j (o + off)))
 | .v (.pc (.ptr e) x)=>match Nat.blt off e.cells && e.flat with
  | true=>cV (.v (.pc (.ptr (qE e off)) (AK e off x)))
  | false=>bad
 | _=>bad
def zK (least:Bool):Slot->Slot->Br
 | .v (.pc (.int k) a),.v (.pc (.int _) b)=>cV (.v (.pc (.int k) (match least with
  | true=>if (show Int from b) < (show Int from a) then b else a
  | false=>if (show Int from b) > (show Int from a) then b else a)))
 | _,_=>bad
def Vx:Slot->Bool
 | .top=>false
 | _=>true
def alq:Slot->Option Ty
 | .v d=>AL d
 | .agg ds=>(eZ ds).map .agg
 | _=>none
def cm {α:Type} (s:Sl α) (i:Nat) (x:α):Sl α:=⟨s.n,fun j=>bif Nat.beq j i then x else s.g j⟩
def Le (P:Program) (t:TypeId) (heap:Nat->bu) (a:Slot) (cs:List DC):Br:=
 match a with
 | .v (.ptr id off)=>match heap id,cy P t with
  | .box ds,some n=>.br (decide (cs.length=n/\off + cs.length<=ds.length)) (er .top [(id,.box (splice ds off cs))] [id]) bad
  | _,_=>bad
 | .v (.KP id off)=>match heap id,cy P t with
  | .box ds,some n=>.br (decide (cs.length=n/\off + cs.length<=ds.length)) (er .top [(id,.box (vu ds off cs))] [id]) bad
  | _,_=>bad
 | .v (.La id bG i off)=>match heap id,cy P t with
  | .row cur T e s,some n=>match eV e (splice (ee e (s.g i)) off cs) with
   | some x=>.br (Nat.beq bG cur && decide (cs.length=n/\off + cs.length<=e.cells)) (er .top [(id,.row cur T e (cm s i x))] [id]) bad
   | none=>bad
  | _,_=>bad
 | .v (.xo id bG i j off)=>match heap id,cy P t with
  | .rows cur T e d,some n=>match eV e (splice (ee e ((d.g i).g j)) off cs) with
   | some x=>.br (Nat.beq bG cur && decide (cs.length=n/\off + cs.length<=e.cells)) (er .top [(id,.rows cur T e (cm d i (cm (d.g i) j x)))] [id]) bad
   | none=>bad
  | _,_=>bad
 | .v (.Pn id i)=>match cs,heap id,cy P t with
  | [.row tS bG],.rows cur T e d,some n=>match heap tS with
   | .row Sq T2 e2 s2=>match cH (σ:=.sl e2) (.sl e) s2,Nat.beq n 1 && Nat.beq bG Sq && Nat.beq T T2 with
    | some s3,true=>er .top [(tS,.gone),(id,.rows (cur + 1) T e (cm d i s3))] [id,tS]
    | _,_=>bad
   | _=>bad
  | _,_,_=>bad
 | _=>bad
def Vy (P:Program) (t:TypeId) (heap:Nat->bu):Slot->Br
 | .v (.ptr id off) | .v (.KP id off)=>match heap id with
  | .box ds=>viewAt P t ds off [id]
  | _=>bad
 | .v (.La id bG i off)=>match heap id with
  | .row cur _ e s=>match Nat.beq bG cur with
   | true=>viewAt P t (ee e (s.g i)) off [id]
   | false=>bad
  | _=>bad
 | .v (.Pn id i)=>match heap id with
  | .rows cur _ _ d=>viewAt P t [.sub id cur i (d.g i).n] 0 [id]
  | _=>bad
 | .v (.xo id bG i j off)=>match heap id with
  | .rows cur _ e d=>match Nat.beq bG cur with
   | true=>viewAt P t (ee e ((d.g i).g j)) off [id]
   | false=>bad
  | _=>bad
 | .v (.pc (.ptr e) x)=>match e.flat with
  | true=>viewAt P t (ee e x) 0 []
  | false=>bad
 | _=>bad
def zL:Operand->Operand->Bool
 | .tmp a,.tmp b=>Nat.beq a b
 | _,_=>false
def sk (P:Program) (el:TypeId) (bJ:Nat) (i:TypeInfo) (cs:List DC) (n:Int):Br:=
 match P.underlying el,cs with
 | some (.slice el2),[.mU]=>match (mX P 8 el2).map zJ,cy P el2 with
  | some τ,some k=>match Nat.beq i.size 1 && Nat.beq k τ.cells && Nat.blt 0 k && τ.flat with
   | true=>.br (decide (0 < n/\n<=281474976710656/\n * i.bytes<=281474976710656)) (er (.v (.rows bJ)) [(bJ,.rows 0 el2 τ ⟨n.toNat,fun _=>⟨0,fun _=>τ.dflt⟩⟩)] [bJ]) bad
   | false=>bad
  | _,_=>bad
 | _,_=>bad
def nO (P:Program) (t:TypeId) (bJ:Nat) (heap:Nat->bu) (l c:Operand) (ls:Slot):Br:=
 match P.underlying t,zL l c,ls,heap bJ with
 | some (.slice el),true,.v (.pc (.int .i64) n),.none=>match P.info? el,fW P el with
  | some i,some cs=>match eZ cs with
   | some τ=>match eV τ cs with
    | some z=>match Nat.beq i.size τ.cells && Nat.blt 0 i.size && τ.plain && τ.flat with
     | true=>.br (decide (0<=(show Int from n)/\(show Int from n)<=281474976710656/\(show Int from n) * i.bytes<=281474976710656))
      (er (.v (.row bJ 0)) [(bJ,.row 0 el τ ⟨(show Int from n).toNat,fun _=>z⟩)] [bJ]) bad
     | false=>bad
    | none=>bad
   | none=>sk P el bJ i cs (show Int from n)
  | _,_=>bad
 | _,_,_,_=>bad
def sn (P:Program) (t:TypeId) (heap:Nat->bu) (id bG i m:Nat) (lo hi:Option Slot):Br:=
 match P.underlying t,lo,hi,heap id with
 | some (.slice el),none,some (.v (.pc (.int _) b)),.rows cur _ _ _=>match cy P el,Nat.beq bG cur with
  | some _,true=>.br (decide (0<=(show Int from b)/\(show Int from b)<=m)) (er (.v (.sub id bG i (show Int from b).toNat)) [] [id]) bad
  | _,_=>bad
 | _,_,_,_=>bad
def Lf (P:Program) (t:TypeId) (x:Slot) (lo hi:Option Slot):Br:=
 match P.underlying t,rowOf x with
 | some (.slice el),some ⟨e,s⟩=>match cy P el with
  | some k=>match Nat.beq k e.cells with
   | true =>
    let go (a b:Int):Br:=kN (decide (0<=a/\a<=b/\b<=s.n)) (.v (.pc (.sl e) ⟨(b - a).toNat,fun i=>s.g (i + a.toNat)⟩)) []
    match lo,hi with
    | none,none=>go 0 s.n
    | some (.v (.pc (.int _) a)),none=>go a s.n
    | none,some (.v (.pc (.int _) b))=>go 0 b
    | some (.v (.pc (.int _) a)),some (.v (.pc (.int _) b))=>go a b
    | _,_=>bad
   | false=>bad
  | none=>bad
 | _,_=>bad
def gG (P:Program) (t:TypeId):Option Ty:=
 match tN P 8 t with
 | some l=>match P.underlying t,l with
  | some (.struct _),l=>some (.agg (cw l))
  | some _,[τ]=>some τ
  | _,_=>none
 | none=>none
def xu (P:Program) (t:TypeId):Option Slot:=((P.info? t).bind (·.zero)).map mW
def AP (P:Program) (t:TypeId):Option DC:=
 match (P.info? t).bind (·.zero) with
 | some z=>match z.oneCell' with
  | true=>some (vq z)
  | false=>none
 | none=>none
def Pp (v:Ty) (ok:Bool) (r:Option v.den) (z:v.den):Slot:=
 match ok with
 | true=>.tup (.cons v (.cons .bool .nil)) (r.getD z,(r.isSome,()))
 | false=>.v (.pc v (r.getD z))
def zM (P:Program) (K:TypeId->Bool) (t:TypeId) (heap:Nat->bu) (x i:Slot) (ok:Bool):Br:=
 match P.underlying t with
 | some (.map kt vt)=>match K kt,gG P kt,gG P vt,xu P vt with
  | true,some k,some v,some z=>match v.single && (v.one || ok),ej k i,ej v z with
   | true,some key,some z =>
    let out (m:k.den->Option v.den) (rh:List Nat):Br:=er (Pp v ok (m key) z) [] rh
    match x with
    | .v (.mp id)=>match heap id with
     | .mp k' v' m=>match cH (σ:=.map k' v') (.map k v) m with
      | some m=>out m [id]
      | none=>bad
     | _=>bad
    | .v (.pc (.map k' v') m)=>match cH (σ:=.map k' v') (.map k v) m with
     | some m=>out m []
     | none=>bad
    | _=>bad
   | _,_,_=>bad
  | _,_,_,_=>bad
 | _=>bad
def fP {k v:Ty} (eq:k.den->k.den->Bool) (m:k.den->Option v.den) (x:k.den) (y:v.den):k.den->Option v.den:=fun z=>bif eq z x then some y else m z
def nJ:(τ:Ty)->τ.den->τ.den->Bool
 | .int _,a,b=>decide ((show Int from a)=(show Int from b))
 | .bool,a,b=>(show Bool from a) == (show Bool from b)
 | .agg e,a,b=>nJ e a b
 | .nil,_,_=>true
 | .cons h t,a,b=>nJ h (show h.den×t.den from a).1 (show h.den×t.den from b).1 && nJ t (show h.den×t.den from a).2 (show h.den×t.den from b).2
 | _,_,_=>false
def nP (P:Program) (K:TypeId->Bool) (t:TypeId) (heap:Nat->bu) (x i y:Slot):Br:=
 match P.underlying t with
 | some (.map kt vt)=>match K kt,gG P kt,gG P vt,x with
  | true,some k,some v,.v (.mp id)=>match heap id with
   | .mp k' v' m=>match cH (σ:=.map k' v') (.map k v) m,ej k i,ej v y,v.single with
    | some m,some key,some val,true=>er .top [(id,.mp k v (fP (nJ k) m key val))] [id]
    | _,_,_,_=>bad
   | _=>bad
  | _,_,_,_=>bad
 | _=>bad
def vw (P:Program) (t:TypeId) (bJ:Nat) (heap:Nat->bu):Br:=
 match P.underlying t,heap bJ with
 | some (.map kt vt),.none=>match gG P kt,gG P vt with
  | some k,some v=>match k.plain && v.plain && k.single && v.single with
   | true=>er (.v (.mp bJ)) [(bJ,.mp k v fun _=>none)] [bJ]
   | false=>bad
  | _,_=>bad
 | _,_=>bad
def yw (P:Program) (asserted:TypeId) (ok:Bool) (x:Slot):Br:=
 match P.underlying asserted,(P.info? asserted).bind (·.zero),ok with
 | some (.interface _),_,_=>bad
 | some _,some _,true=>match x with
  | .v (.zg T τ d)=>match Nat.beq T asserted with
   | true=>cV (.tup (.cons τ (.cons .bool .nil)) (d,(true,())))
   | false=>cV (.ta false)
  | .v .qD=>cV (.ta false)
  | _=>bad
 | _,_,_=>bad
structure cg where
 eq:TypeId->Option Ty
 key:TypeId->Bool
 bw:Bool
 rws:List Nat:=[]
 keep:List FuncId:=[]
def DH:Slot->Br
 | .v (.pc (.ptr e) x)=>cV (.v (.pc (.ptr e) x))
 | .v (.pc (.fn a r) x)=>cV (.v (.pc (.fn a r) x))
 | .v (.pc (.seq e) x)=>cV (.v (.pc (.seq e) x))
 | .v (.ptr id off)=>cV (.v (.ptr id off))
 | .v (.KP id off)=>cV (.v (.KP id off))
 | .v (.La id bG i off)=>cV (.v (.La id bG i off))
 | .v (.iM f ids)=>cV (.v (.iM f ids))
 | .v (.lR f τ x ids)=>cV (.v (.lR f τ x ids))
 | _=>bad
def tT (w:Bool) (bJ:Nat) (e:Ty) (s:Sl e.den):Slot:=match w with
 | true=>.v (.row bJ 0)
 | false=>.v (.own bJ 0 e s)
def dJ (w:Bool) (T:TypeId) (e:Ty) (s:Sl e.den):bu:=match w with
 | true=>.row 0 T e s
 | false=>.chain 0 T e.cells s.n
def nQ (w:Bool) (n:Nat) (τa:Ty) (T:TypeId) (e:Ty) (R:τa.den->Option (Sl e.den)) (args:List Slot) (heap:Nat->bu) (_:Tr) (bJ:Nat):Tree OR:=
 match Nat.ble args.length n,ef τa args,heap bJ with
 | true,some x,.none=>.br (R x).isSome (.leaf (.ok ⟨some (tT w bJ e ((R x).getD ⟨0,fun _=>e.dflt⟩)),[(bJ,dJ w T e ((R x).getD ⟨0,fun _=>e.dflt⟩))],[bJ],false,none⟩)) (.leaf .bad)
 | _,_,_=>.leaf .bad
def AQ (w:Bool) (n:Nat) (τa:Ty) (T:TypeId) (e:Ty) (R:τa.den->Option (Sl e.den)) (args:List Slot) (heap:Nat->bu) (bJ:Nat):Br:=
 match Nat.ble args.length n,ef τa args,heap bJ with
 | true,some x,.none=>.br (R x).isSome (er (tT w bJ e ((R x).getD ⟨0,fun _=>e.dflt⟩)) [(bJ,dJ w T e ((R x).getD ⟨0,fun _=>e.dflt⟩))] [bJ]) bad
 | _,_,_=>bad
def aio:Slot->Bool
 | .v (.sub _ _ _ _)=>true
 | _=>false
def qk (heap:Nat->bu):Slot->Slot
 | .v (.sub id bG i n)=>match heap id with
  | .rows cur _ e d=>match Nat.beq bG cur with
   | true=>.v (.pc (.sl e) ⟨n,(d.g i).g⟩)
   | false=>.top
  | _=>.top
 | s=>s
def xw:List Slot->List Nat
 | []=>[]
 | .v (.sub id _ _ _) :: r=>id :: xw r
 | _ :: r=>xw r
def Vz (c:Con) (heap:Nat->bu) (args:List Slot):Br:=
 match c.res.plain,ef c.args (args.map (qk heap)) with
 | true,some x=>kN (c.pre x) (jk c.res (c.fn x)) (xw args)
 | _,_=>bad
def AR (w:Bool) (n:Nat) (τa:Ty) (T:TypeId) (e:Ty) (R:τa.den->Option (Sl e.den)) (args:List Slot) (heap:Nat->bu) (bJ:Nat):Br:=
 match e.plain && e.flat && Nat.ble args.length n,args,τa,R,heap bJ with
 | true,[x],.cons h .nil,R,.none=>match qk heap x with
  | .v (.pc τ y)=>match cH (σ:=τ) h y with
   | some y=>.br (R (y,())).isSome (er (tT w bJ e ((R (y,())).getD ⟨0,fun _=>e.dflt⟩)) [(bJ,dJ w T e ((R (y,())).getD ⟨0,fun _=>e.dflt⟩))] (bJ :: xw args)) bad
   | none=>bad
  | _=>bad
 | _,_,_,_,_=>bad
def AS (Γ:Ctx) (ok:Bool) (bJ:Nat) (heap:Nat->bu) (x:Operand) (sx:Slot) (args:List Slot):Br:=
 match x with
 | .func f=>match Γ f with
  | some (.pure c)=>match args.any aio with
   | true=>Vz c heap args
   | false=>ain c args
  | some (.row w n τa T e R)=>match ok with
   | true=>match args.any aio with
    | true=>AR w n τa T e R args heap bJ
    | false=>AQ w n τa T e R args heap bJ
   | false=>bad
  | some (.loc ids app)=>match ok with
   | true=>Vv ids app args heap bJ
   | false=>bad
  | _=>bad
 | _=>match sx with
  | .v (.pc (.fn a r) F)=>fnD a r F args
  | _=>bad
def AT (Γ:Ctx) (heap:Nat->bu) (tr:Tr) (bJ:Nat) (x:Operand) (sx:Slot) (args:List Slot):Option (Tree OR):=
 match x with
 | .func f=>match Γ f with
  | some (.gen app)=>some (app args heap tr bJ)
  | _=>none
 | _=>match sx with
  | .v (.iM f ids)=>match Γ f with
   | some (.gen app)=>some (app (args ++ ids.map fun i=>.v (.ptr i 0)) heap tr bJ)
   | _=>none
  | .v (.lR f τ x ids)=>match Γ f with
   | some (.gen app)=>some (app (args ++ .v (.pc (.ptr τ) x) :: ids.map fun i=>.v (.ptr i 0)) heap tr bJ)
   | _=>none
  | .v .jI=>some (AO tr args)
  | _=>none
def xx (Γ:Ctx) (f:FuncId) (first caps:List Slot):Br:=
 match Γ f with
 | some (.pure c)=>aim c first caps
 | some (.iter c)=>match ef c.fst first,ef c.cap caps with
  | some x,some y=>kN (c.pre x y) (.v (.pc (.seq c.e) (c.items x y))) []
  | _,_=>bad
 | some (.gen _)=>match first,caps with
  | [],.v (.pc (.ptr τ) x) :: caps=>match sj caps with
   | some ids=>cV (.v (.lR f τ x ids))
   | none=>bad
  | [],caps=>match sj caps with
   | some ids=>cV (.v (.iM f ids))
   | none=>bad
  | _,_=>bad
 | some (.row _ _ _ _ _ _)=>bad
 | some (.loc _ _)=>bad
 | none=>bad
def vm (P:Program) (E:cg) (Γ:Ctx) (lo base:Nat) (o:Oper) (env:Nat->Slot) (heap:Nat->bu):Br:=
 let bJ:=base + o.dst.getD 0
 match o.op with
 | .move x | .assign x=>cV (val Γ env x)
 | .pick c a b=>match val Γ env c with
  | .v (.pc .bool t)=>.br t (cV (val Γ env a)) (cV (val Γ env b))
  | _=>bad
 | .box _ x=>match Nat.ble lo bJ,dI (val Γ env x),heap bJ with
  | true,some cs,.none=>er (.v (.ptr bJ 0)) [(bJ,.box cs)] [bJ]
  | _,_,_=>bad
 | .alloc t=>match Nat.ble lo bJ,fW P t,heap bJ with
  | true,some cs,.none=>er (.v (.ptr bJ 0)) [(bJ,.box cs)] [bJ]
  | _,_,_=>bad
 | .build t ps=>match Lb P t (ps.toList.map fun p=>(p.1,val Γ env p.2)) with
  | some cs=>cV (.agg cs)
  | none=>bad
 | .buildSlice t n ps=>match Nat.ble lo bJ,heap bJ with
  | true,.none=>lT P t bJ n (ps.toList.map fun p=>(p.1,val Γ env p.2))
  | _,_=>bad
 | .load t a=>Vy P t heap (val Γ env a)
 | .store t a x=>match dI (val Γ env x) with
  | some cs=>Le P t heap (val Γ env a) cs
  | none=>bad
 | .fieldAddr s x f=>match P.underlying s with
  | some (.struct fs)=>match fs[f]? with
   | some fd=>match cy P fd.type with
    | some (_ + 1)=>tQ fd.offset (val Γ env x)
    | _=>bad
   | none=>bad
  | _=>bad
 | .field s x f=>match P.underlying s with
  | some (.struct fs)=>match fs[f]?,val Γ env x with
   | some fd,.agg ds=>viewAt P fd.type ds fd.offset []
   | _,_=>bad
  | _=>bad
 | .indexAddr t x i=>nN P t heap (val Γ env x) (val Γ env i)
 | .index t x i=>match P.underlying t,val Γ env x,val Γ env i with
  | some (.array len e),.agg ds,.v (.pc (.int _) n)=>match cy P e with
   | some k=>.br (decide ((show Int from n) < len/\0<=(show Int from n))) (viewAt P e ds ((show Int from n).toNat * k) []) bad
   | none=>bad
  | _,_,_=>bad
 | .extract t n=>match val Γ env t with
  | .tup τ x=>match Vx (nth τ x n) with
   | true=>cV (nth τ x n)
   | false=>bad
  | .ta b=>match n with
   | 0=>cV .top
   | 1=>cV (.v (.pc .bool b))
   | _=>bad
  | .pr ds τ x=>match n with
   | 0=>cV (.agg ds)
   | n + 1=>match Vx (nth τ x n) with
    | true=>cV (nth τ x n)
    | false=>bad
  | _=>bad
 | .binOp op t x y _=>Lc P E.eq op t y (val Γ env x) (val Γ env y)
 | .unOp op _ x=>ail op (val Γ env x)
 | .convert src dst x=>match P.underlying src,P.underlying dst,val Γ env x with
  | some _,some (.int k),.v (.pc (.int _) n)=>cV (.v (.pc (.int k) (k.wrap n)))
  | _,_,_=>bad
 | .makeSlice t l c=>match Nat.ble lo bJ with
  | true=>nO P t bJ heap l c (val Γ env l)
  | false=>bad
 | .makeMap t r=>match Nat.ble lo bJ,r with
  | true,none=>vw P t bJ heap
  | _,_=>bad
 | .slice t x l h m=>match m with
  | none=>match val Γ env x with
   | .v (.sub id bG i n)=>sn P t heap id bG i n (l.map (val Γ env)) (h.map (val Γ env))
   | sx=>Lf P t sx (l.map (val Γ env)) (h.map (val Γ env))
  | some _=>bad
 | .lookup t x i ok=>zM P E.key t heap (val Γ env x) (val Γ env i) ok
 | .mapUpdate t x i y=>nP P E.key t heap (val Γ env x) (val Γ env i) (val Γ env y)
 | .makeInterface t x=>match P.underlying t with
  | some (.interface _)=>bad
  | some _=>match alq (val Γ env x) with
   | some τ=>match ej τ (val Γ env x) with
    | some d=>cV (.v (.zg t τ d))
    | none=>bad
   | none=>bad
  | none=>bad
 | .nilCheck x=>DH (val Γ env x)
 | .typeAssert x _ asserted ok=>yw P asserted ok (val Γ env x)
 | .call c=>match c.callee with
  | .builtin .len=>match c.args.toList with
   | [x]=>match c.argTypes.toList with
    | [t]=>match P.underlying t with
     | some (.slice _)=>alp heap (val Γ env x)
     | _=>bad
    | _=>bad
   | _=>bad
  | .builtin .append=>match c.args.toList,c.argTypes.toList with
   | [s,x],[T,T']=>match Nat.ble lo bJ && Nat.beq T T' && o.dst.isSome with
    | true=>sg P (E.rws.any (Nat.beq (o.dst.getD 0))) lo bJ heap T (val Γ env s) (val Γ env x)
    | false=>bad
   | _,_=>bad
  | .builtin .min=>match c.args.toList with
   | [x,y]=>zK true (val Γ env x) (val Γ env y)
   | _=>bad
  | .builtin .max=>match c.args.toList with
   | [x,y]=>zK false (val Γ env x) (val Γ env y)
   | _=>bad
  | .value x=>AS Γ (Nat.ble lo bJ) bJ heap x (val Γ env x) (c.args.toList.map (val Γ env))
  | _=>bad
 | .makeFunc fn first caps=>match fn with
  | .func f=>xx Γ f (first.toList.map (val Γ env)) (caps.toList.map (val Γ env))
  | _=>bad
 | _=>bad
def KQ (P:Program) (Γ:Ctx) (lo base:Nat) (o:Oper) (env:Nat->Slot) (heap:Nat->bu) (tr:Tr):Option (Tree OR):=
 match o.op with
 | .call c=>match c.callee with
  | .value x=>match Nat.ble lo (base + o.dst.getD 0) with
   | true=>AT Γ heap tr (base + o.dst.getD 0) x (val Γ env x) (c.args.toList.map (val Γ env))
   | false=>none
  | _=>none
 | .panic x=>match val Γ env x with
  | .v (.zg T τ d)=>some (.leaf (.bP (.zg T τ d) ⟨none,[],[],false,none⟩))
  | _=>none
 | .binOp op t x y _=>match nL y,op,P.underlying t with
  | true,.eql,some (.slice _)=>some (qF true (val Γ env x))
  | true,.neq,some (.slice _)=>some (qF false (val Γ env x))
  | _,_,_=>none
 | _=>none
def setEnv (env:Nat->Slot) (t:Nat) (s:Slot):Nat->Slot:=fun u=>bif Nat.beq u t then s else env u
def aE (heap:Nat->bu) (t:Nat) (o:bu):Nat->bu:=fun u=>bif Nat.beq u t then o else heap u
def gz (env:Nat->Slot) (dst:Option Nat) (s:Slot):Nat->Slot:=
 match dst with
 | some d=>setEnv env d s
 | none=>env
def cE (heap:Nat->bu):List (Nat×bu)->Nat->bu
 | []=>heap
 | (i,o) :: r=>cE (aE heap i o) r
def Sr (tr:Tr):Option Tr->Tr
 | some t=>t
 | none=>tr
def St.er (s:St) (dst:Option Nat) (e:mV):St:=
 ⟨gz s.env dst (e.wt.getD .top),cE s.heap e.wh,Sr s.tr e.tr,s.base,s.bw⟩
end Go.Dm
namespace Go.Dm
open Go.RowKit
def cg.rw (E:cg) (rws:List Nat) (keep:List FuncId):cg:={ E with rws:=rws,keep:=keep }
structure FP where
 i:Nat
 rh:List Nat
 wh:List Nat
 loc:Bool
def aFf:OR->Option mV
 | .ok e=>some e
 | _=>none
def Tree.det (t:Tree OR):Option mV:=t.run (fun _ _=>none) aFf
def opD (P:Program) (E:cg) (Γ:Ctx) (lo base:Nat) (o:Oper) (env:Nat->Slot) (heap:Nat->bu) (tr:Tr):Option mV:=
 match KQ P Γ lo base o env heap tr with
 | some t=>t.det
 | none=>(vm P E Γ lo base o env heap).run id
def iN {β:Type} (P:Program) (E:cg) (Γ:Ctx) (lo N:Nat) (ops:Array Oper) (i:Nat) (o:Oper) (s:St) (K:Option (St×FP)->β):β:=
 let go (s:St):β:=match KQ P Γ lo s.base o s.env s.heap s.tr with
  | some t=>t.run (fun _ _=>K none) fun
   | .ok e=>K (some (s.er o.dst e,⟨i,e.rh,e.wh.map (·.1),false⟩))
   | _=>K none
  | none=>(vm P E Γ lo s.base o s.env s.heap).run fun
   | some e=>K (some (s.er o.dst { e with tr:=none },⟨i,e.rh,e.wh.map (·.1),true⟩))
   | none=>K none
 match o.dst.all (Nat.blt · N) with
 | false=>K none
 | true=>match o.guard with
  | none=>go s
  | some (j,want)=>match (ops[j]?).bind (·.dst) with
   | none=>K none
   | some t=>match s.env t with
    | .v (.pc .bool b)=>bif b
     then (match want with
      | true=>go { s with env:=setEnv s.env t (.v (.pc .bool true)) }
      | false=>K (some ({ s with env:=gz (setEnv s.env t (.v (.pc .bool true))) o.dst .un },⟨i,[],[],true⟩)))
     else (match want with
      | false=>go { s with env:=setEnv s.env t (.v (.pc .bool false)) }
      | true=>K (some ({ s with env:=gz (setEnv s.env t (.v (.pc .bool false))) o.dst .un },⟨i,[],[],true⟩)))
    | .un=>K (some ({ s with env:=gz s.env o.dst .un },⟨i,[],[],true⟩))
    | _=>K none
def tU {β:Type} (P:Program) (E:cg) (Γ:Ctx) (lo N:Nat) (ops:Array Oper):List Oper->Nat->List FP->St->(Option (St×List FP)->β)->β
 | [],_,log,s,K=>K (some (s,log))
 | o :: l,i,log,s,K=>iN P E Γ lo N ops i o s fun
  | some (s',fp)=>tU P E Γ lo N ops l (i + 1) (fp :: log) s' K
  | none=>K none
def meets (a b:List Nat):Bool:=a.any fun x=>b.any (Nat.beq x)
def EB (a b:FP):Bool:=!meets a.wh b.rh && !meets b.wh a.rh && !meets a.wh b.wh
def dH (ops:Array Oper):Nat->Nat->Nat->Bool
 | 0,_,_=>false
 | n + 1,j,i=>match ops[j]? with
  | some o=>o.after.toList.any fun e=>Region.binds .any e && (Nat.beq e.on i || dH ops n e.on i)
  | none=>false
def qG (ops:Array Oper) (later zN:FP):Bool:=
 match ops[later.i]?,ops[zN.i]? with
 | some ol,some oe=>(later.loc && zN.loc && (oe.apart ops ol && ol.apart ops oe && EB zN later)) || dH ops ops.size later.i zN.i
 | _,_=>false
def lU (ops:Array Oper):List FP->Bool
 | []=>true
 | f :: l=>l.all (qG ops f) && lU ops l
def eC (ops:Array Oper):Bool:=ops.toList.zipIdx.all fun p=>p.1.after.toList.all fun e=>!Region.binds .any e || Nat.blt e.on p.2
def mY (ops:Array Oper):Bool:=ops.toList.all fun o=>match o.op with | .select _ _=>false | .defer _=>false | _=>true
inductive Out where
 | norm (s:St)
 | exit (id:Nat) (s:St)
 | ret (s:St)
 | bP (d:DC) (s:St)
 | bad
inductive Loop where
 | ia (n:Nat) (inner:List Loop)
 | known (f:St->Tree Out)
def Code.loops:Code->Nat
 | .seq a b=>Code.loops a + Code.loops b
 | .cond _ a b=>Code.loops a + Code.loops b
 | .block _ b=>Code.loops b
 | .scope b=>Code.loops b
 | .loop _=>1
 | .rangeFunc _ _ _ _=>1
 | _=>0
def VA (s:St) (t:Nat):St:=
 match s.env t with
 | .v (.ptr id 0)=>match s.heap id with
  | .box ds=>match eZ ds with
   | some τ=>match eV τ ds with
    | some x=>{ s with env:=setEnv s.env t (.v (.pc (.ptr τ) x)),heap:=aE s.heap id .gone }
    | none=>s
   | none=>s
  | _=>s
 | _=>s
def tV (s:St) (t:Nat):St:=
 match s.env t with
 | .v (.row id bG)=>match s.heap id with
  | .row cur _ e x=>match Nat.beq bG cur with
   | true=>{ s with env:=setEnv s.env t (.v (.pc (.sl e) x)),heap:=aE s.heap id .gone }
   | false=>s
  | _=>s
 | .v (.mp id)=>match s.heap id with
  | .mp k v m=>{ s with env:=setEnv s.env t (.v (.pc (.map k v) m)),heap:=aE s.heap id .gone }
  | _=>s
 | _=>s
def sq:St->List Nat->St
 | s,[]=>s
 | s,t :: ts=>sq (VA s t) ts
def dO:St->List Nat->St
 | s,[]=>s
 | s,t :: ts=>dO (tV s t) ts
def bZ:List DC->(Nat->bu)->List DC×(Nat->bu)
 | [],h=>([],h)
 | .row id bG :: ds,h=>match h id with
  | .row cur _ e x=>match Nat.beq bG cur with
   | true=>let r:=bZ ds (aE h id .gone); (.pc (.sl e) x :: r.1,r.2)
   | false=>let r:=bZ ds h; (.row id bG :: r.1,r.2)
  | _=>let r:=bZ ds h; (.row id bG :: r.1,r.2)
 | d :: ds,h=>let r:=bZ ds h; (d :: r.1,r.2)
def VB:List DC->Bool
 | []=>false
 | .row _ _ :: _=>true
 | _ :: ds=>VB ds
def AU (s:St) (t:Nat):St:=
 match s.env t with
 | .v (.ptr id 0)=>match s.heap id with
  | .box ds=>match VB ds with
   | true=>{ s with heap:=aE (bZ ds s.heap).2 id (.box (bZ ds s.heap).1) }
   | false=>s
  | _=>s
 | _=>s
def jv:St->List Nat->St
 | s,[]=>s
 | s,t :: ts=>jv (AU s t) ts
def tmpsOf (a:Array Operand):List Nat:=a.toList.filterMap fun | .tmp t=>some t | _=>none
def captured (Γ:Ctx) (ops:Array Oper):List Nat:=ops.toList.flatMap fun o=>match o.op with
 | .makeFunc (.func f) _ caps=>match Γ f with
  | some (.gen _)=>[]
  | _=>tmpsOf caps
 | _=>[]
def Lg (E:cg) (o:Oper) (l:List Nat):List Nat:=
 match o.op with
 | .call { callee:=.value (.func f),.. }=>match E.keep.any (Nat.beq f) with
  | true=>l
  | false=>tmpsOf o.op.operands ++ l
 | .call { callee:=.value _,.. }=>tmpsOf o.op.operands ++ l
 | .build _ _ | .buildSlice _ _ _ | .makeInterface _ _=>tmpsOf o.op.operands ++ l
 | .move x | .assign x=>match o.dst,x with
  | some d,.tmp t=>match l.any (Nat.beq d) with
   | true=>t :: l
   | false=>l
  | _,_=>l
 | _=>l
def VC (E:cg) (ops:Array Oper):List Nat:=ops.toList.foldr (Lg E) []
def als (P:Program) (E:cg) (ops:Array Oper):List Nat:=ops.toList.filterMap fun o=>match o.op with
 | .load t (.tmp x)=>match cv P t,o.dst with
  | some true,_=>some x
  | some false,some d=>match (VC E ops).any (Nat.beq d) with
   | true=>some x
   | false=>none
  | _,_=>none
 | _=>none
def zh (P:Program) (E:cg) (Γ:Ctx) (s:St) (ops:Array Oper):St:=sq (jv (jv (dO s (VC E ops)) (als P E ops)) (captured Γ ops)) (captured Γ ops)
def nextRegion (N:Nat) (s:St):St:={ s with base:=s.base + N }
def Ik {β:Type} (N:Nat) (ops:Array Oper) (K:Out->β):Option (St×List FP)->β
 | some (s',log)=>match eC ops && lU ops log && mY ops with
  | true=>K (.norm (nextRegion N s'))
  | false=>K .bad
 | none=>K .bad
inductive Stp where
 | ok (s:St)
 | bP (d:DC) (s:St)
 | bad
def VD (Γ:Ctx) (c:Call) (env:Nat->Slot):Option fu:=
 match c.callee,c.args.toList with
 | .value (.tmp t),[]=>match env t with
  | .v (.iM f ids)=>match Γ f with
   | some (.gen _)=>some (.iM f ids)
   | _=>none
  | _=>none
 | _,_=>none
def Ss {β:Type} (P:Program) (E:cg) (Γ:Ctx) (lo:Nat) (ch:β->β->β) (o:Oper) (s:St) (K:Stp->β):β:=
 match o.op with
 | .defer c=>match E.bw,VD Γ c s.env with
  | true,some d=>K (.ok { s with env:=gz s.env o.dst .top,bw:=d :: s.bw })
  | _,_=>K .bad
 | _=>match KQ P Γ lo s.base o s.env s.heap s.tr with
  | some t=>t.run ch fun
   | .ok e=>K (.ok (s.er o.dst e))
   | .bP d e=>K (.bP d (s.er none e))
   | .bad=>K .bad
  | none=>(vm P E Γ lo s.base o s.env s.heap).run fun
   | some e=>K (.ok (s.er o.dst e))
   | none=>K .bad
def Il {β:Type} (P:Program) (E:cg) (Γ:Ctx) (lo N:Nat) (ch:β->β->β) (ops:Array Oper) (o:Oper) (s:St) (K:Stp->β):β:=
 match o.dst.all (Nat.blt · N) with
 | false=>K .bad
 | true=>match o.guard with
  | none=>Ss P E Γ lo ch o s K
  | some (j,want)=>match (ops[j]?).bind (·.dst) with
   | none=>K .bad
   | some t=>match s.env t with
    | .v (.pc .bool b)=>bif b
     then (match want with
      | true=>Ss P E Γ lo ch o { s with env:=setEnv s.env t (.v (.pc .bool true)) } K
      | false=>K (.ok { s with env:=gz (setEnv s.env t (.v (.pc .bool true))) o.dst .un }))
     else (match want with
      | false=>Ss P E Γ lo ch o { s with env:=setEnv s.env t (.v (.pc .bool false)) } K
      | true=>K (.ok { s with env:=gz (setEnv s.env t (.v (.pc .bool false))) o.dst .un }))
    | .un=>K (.ok { s with env:=gz s.env o.dst .un })
    | _=>K .bad
def VE {β:Type} (P:Program) (E:cg) (Γ:Ctx) (lo N:Nat) (ch:β->β->β) (ops:Array Oper):List Oper->St->(Out->β)->β
 | [],s,K=>K (.norm (nextRegion N s))
 | o :: l,s,K=>Il P E Γ lo N ch ops o s fun
  | .ok s'=>VE P E Γ lo N ch ops l s' K
  | .bP d s'=>K (.bP d s')
  | .bad=>K .bad
def adp {β:Type} (next:St->β) (K:Out->β):Out->β
 | .norm s'=>next s'
 | .exit id s'=>K (.exit id s')
 | .ret s'=>K (.ret s')
 | .bP d s'=>K (.bP d s')
 | .bad=>K .bad
def EC {β:Type} (id:Nat) (K:Out->β):Out->β
 | .exit id' s'=>match Nat.beq id' id with
  | true=>K (.norm s')
  | false=>K (.exit id' s')
 | .norm s'=>K (.norm s')
 | .ret s'=>K (.ret s')
 | .bP d s'=>K (.bP d s')
 | .bad=>K .bad
def aip (c:Operand) (b:Bool) (s:St):St:=
 match c with
 | .tmp u=>{ s with env:=setEnv s.env u (.v (.pc .bool b)) }
 | _=>s
def avi (E:cg) (o:Op):Bool:=
 match o with
 | .call { callee:=.value (.func f),.. }=>E.keep.any (Nat.beq (Nat.add f 1000))
 | _=>false
def VF (E:cg) (ops:Array Oper) (k:Nat):Bool:=
  (match ops[k]? with
    | some o=>avi E o.op
    | none=>false) && (List.range k).all (fun i=>dH ops ops.size k i) && (List.range ops.size).all fun j=>Nat.ble j k || dH ops ops.size j k
def adq (E:cg) (ops:Array Oper):Option Nat:=
 match E.keep with
 | _ :: _=>(List.range ops.size).find? (VF E ops)
 | []=>none
def alu {β:Type} (P:Program) (E:cg) (Γ:Ctx) (lo N:Nat) (ch:β->β->β) (ops:Array Oper) (k:Nat) (K:Out->β):Option (St×List FP)->β
 | some (s',log)=>match eC ops && lU ops log && mY ops,ops[k]? with
  | true,some o=>Il P E Γ lo N ch ops o s' fun
   | .ok s2=>tU P E Γ lo N ops (ops.toList.drop (k + 1)) (k + 1) [] s2 (Ik N ops K)
   | .bP d s2=>K (.bP d s2)
   | .bad=>K .bad
  | _,_=>K .bad
 | none=>K .bad
def alv:Op->Option (TypeId×Nat×Nat)
 | .lookup T (.tmp m) (.tmp x) false=>some (T,m,x)
 | _=>none
def alx:Op->Option (Nat×Operand)
 | .binOp .add _ (.tmp x) y _=>some (x,y)
 | _=>none
def aly:Op->Option (TypeId×Nat×Nat)
 | .mapEntry T (.tmp m) (.tmp x)=>some (T,m,x)
 | _=>none
def alz:Op->Option (Nat×Nat)
 | .extract (.tmp t) i=>some (t,i)
 | _=>none
def alA:Op->Option (Nat×Nat×Nat)
 | .entryStore _ (.tmp m) (.tmp t) (.tmp y)=>some (m,t,y)
 | _=>none
def aiq:Operand->Bool
 | .tmp _=>false
 | _=>true
def AV (ops:Array Oper) (i:Nat):Option (Op×Option Nat):=
 match ops[i]? with
 | some o=>match o.guard with
  | none=>some (o.op,o.dst)
  | some _=>none
 | none=>none
structure Pq where
 T:TypeId
 m:Nat
 x:Nat
 y:Operand
 d0:Nat
 d1:Nat
 d2:Nat
 d3:Nat
def xy (ops:Array Oper) (k:Nat):Option Pq:=
 match AV ops k,AV ops (k + 1),AV ops (k + 2),AV ops (k + 3),AV ops (k + 4) with
 | some (o0,some d0),some (o1,some d1),some (o2,some d2),some (o3,some d3),some (o4,none) =>
  match alv o0,alx o1,aly o2,alz o3,alA o4 with
  | some (T,m,x),some (x1,y),some (T2,m2,x2),some (t3,i3),some (m4,t4,y4) =>
   match Nat.beq x1 d0 && aiq y && Nat.beq T2 T && Nat.beq m2 m && Nat.beq x2 x && Nat.beq t3 d2 && Nat.beq i3 1 && Nat.beq m4 m && Nat.beq t4 d3 && Nat.beq y4 d1 with
   | true=>some ⟨T,m,x,y,d0,d1,d2,d3⟩
   | false=>none
  | _,_,_,_,_=>none
 | _,_,_,_,_=>none
def Pq.Lh (c:Pq) (N:Nat):Bool:=
 Nat.blt c.d0 N && Nat.blt c.d1 N && Nat.blt c.d2 N && Nat.blt c.d3 N && !Nat.beq c.d0 c.d1 && !Nat.beq c.d0 c.d2 && !Nat.beq c.d0 c.d3 && !Nat.beq c.d1 c.d2 && !Nat.beq c.d1 c.d3 && !Nat.beq c.d2 c.d3 &&
  !Nat.beq c.m c.d0 && !Nat.beq c.m c.d1 && !Nat.beq c.m c.d2 && !Nat.beq c.m c.d3 && !Nat.beq c.x c.d0 && !Nat.beq c.x c.d1 && !Nat.beq c.x c.d2 && !Nat.beq c.x c.d3
def jx (ops:Array Oper) (k:Nat):Bool:=
 Nat.beq ops.size (k + 5) && (List.range k).all (fun i=>dH ops ops.size k i && dH ops ops.size (k + 2) i) && dH ops ops.size (k + 1) k && dH ops ops.size (k + 3) (k + 2) && dH ops ops.size (k + 4) (k + 1) && dH ops ops.size (k + 4) (k + 3)
def VG (ops:Array Oper) (k:Nat):Bool:=
 match xy ops k with
 | some _=>jx ops k
 | none=>false
def Pr (E:cg) (ops:Array Oper):Option Nat:=
 match E.keep.any (Nat.beq 2000) with
 | true=>(List.range ops.size).find? (VG ops)
 | false=>none
def VH (P:Program) (E:cg) (Γ:Ctx) (N:Nat) (c:Pq) (s:St):Option St:=
 match P.underlying c.T with
 | some (.map kt vt)=>match E.key kt,gG P kt,gG P vt,AP P vt,s.env c.m,val Γ s.env c.y,Pq.Lh c N with
  | true,some k,some (.int ki),some z,.v (.mp id),.v (.pc (.int kj) n),true=>match s.heap id,ej k (s.env c.x),xp (.int ki) z,decide (ki=kj) with
   | .mp k' v' m',some key,some zd,true=>match cH (σ:=.map k' v') (.map k (.int ki)) m' with
    | some m=>some { s with env:=setEnv (setEnv (setEnv (setEnv s.env c.d0 .top) c.d1 .top) c.d2 .top) c.d3 .top,heap:=aE s.heap id (.mp k (.int ki) (fP (nJ k) m key (ki.wrap ((show Int from (m key).getD zd) + (show Int from n))))) }
    | none=>none
   | _,_,_,_=>none
  | _,_,_,_,_,_,_=>none
 | _=>none
def alB {β:Type} (P:Program) (E:cg) (Γ:Ctx) (N:Nat) (ops:Array Oper) (k:Nat) (K:Out->β):Option (St×List FP)->β
 | some (s',log)=>match eC ops && lU ops log && mY ops,xy ops k with
  | true,some c=>match VH P E Γ N c s' with
   | some s2=>K (.norm (nextRegion N s2))
   | none=>K .bad
  | _,_=>K .bad
 | none=>K .bad
def Pt {β:Type} (body:St->(Out->β)->β):Nat->St->(Out->β)->β
 | 0,_,K=>K .bad
 | n + 1,s,K=>body s (adp (fun s'=>Pt body n s' K) K)
def fQ {β:Type} (P:Program) (E:cg) (Γ:Ctx) (lo N:Nat) (ch:β->β->β):Code->List Loop->St->(Out->β)->β
 | .skip,_,s,K=>K (.norm s)
 | .region _ ops draw,_,s,K=>match draw with
  | false=>VE P E Γ lo N ch ops ops.toList (zh P E Γ s ops) K
  | true=>match Pr E ops with
   | some k=>tU P E Γ lo N ops (ops.toList.take k) 0 [] (zh P E Γ s ops) (alB P E Γ N ops k K)
   | none=>match adq E ops with
    | none=>tU P E Γ lo N ops ops.toList 0 [] (zh P E Γ s ops) (Ik N ops K)
    | some k=>tU P E Γ lo N ops (ops.toList.take k) 0 [] (zh P E Γ s ops) (alu P E Γ lo N ch ops k K)
 | .seq a b,ls,s,K=>fQ P E Γ lo N ch a (ls.take (Code.loops a)) s (adp (fun s'=>fQ P E Γ lo N ch b (ls.drop (Code.loops a)) s' K) K)
 | .cond c a b,ls,s,K=>match val Γ s.env c with
  | .v (.pc .bool t)=>bif t
   then fQ P E Γ lo N ch a (ls.take (Code.loops a)) (aip c true s) K
   else fQ P E Γ lo N ch b (ls.drop (Code.loops a)) (aip c false s) K
  | _=>K .bad
 | .block id b,ls,s,K=>fQ P E Γ lo N ch b ls s (EC id K)
 | .exit id,_,s,K=>K (.exit id s)
 | .ret,_,s,K=>K (.ret s)
 | .label _,_,s,K=>K (.norm s)
 | .scope b,ls,s,K=>fQ P E Γ lo N ch b ls s K
 | .loop b,ls,s,K=>match ls with
  | .ia n inner :: _=>Pt (fun s' K'=>fQ P E Γ lo N ch b inner s' K') n s K
  | .known f :: _=>(f s).run ch K
  | []=>K .bad
 | .rangeFunc _ _ _ _,ls,s,K=>match ls with
  | .known f :: _=>(f s).run ch K
  | _=>K .bad
 | _,_,_,K=>K .bad
end Go.Dm
namespace Go.Dm
open Go.RowKit
theorem bF {i d:Nat} (h:i≠d):Nat.beq i d=false:=by
 cases hb:Nat.beq i d with
 | false=>rfl
 | true=>exact absurd (Nat.eq_of_beq_eq_true hb) h
abbrev fA:=Nat->Option Nat
structure Gh where
 M:Nat->Prop
 F0:Nat->Prop
 S0:CS
 w0:World
 e:Ty
 C:Cons e.den
 items:List e.den
 l:Nat
 SI:CS
 lo:Nat
 ic:Nat->Option Nat
def Gh.Y (G:Gh):Value:=.func (.yield G.l) #[] #[]
def YG (G:Gh) (s:St):Prop:=∀ z:Sl G.e.den,s.tr=⟨G.e,false,z⟩->z.list <+: G.items
structure Gh.Ok (P:Program) (G:Gh):Prop where
 c:G.C.Ok
 y:zH P (R P G.e) G.C G.SI G.l G.items
 ic:∀ id b,G.ic id=some b->id < G.lo
def VI (w:World) (ρ:fA) (id:Nat) (T:TypeId) (k:Nat) (e:Ty) (n:Nat) (v:Value):Prop:=
 k=e.cells/\((ρ id=none/\n=0/\∃ a,v = .slice a 0 0) \/
  ∃ b cap cur,ρ id=some b/\v = .slice (some ⟨b,0,none⟩) n cap/\n<=cap/\cap<=maxLen/\w.heap[b]? = some (.cells cur T (0,0))/\cur.size=cap * k)
def DI (w:World) (ρ:fA) (id:Nat) (e:Ty) (n:Nat) (v:Value):Prop:=
 (n=0/\∃ a,v = .slice a 0 0)\/∃ b cap,ρ id=some b/\v = .slice (some ⟨b,0,none⟩) n cap/\n<=cap/\cap<=maxLen/\b < w.heap.size/\∀ arr T f,w.heap[b]? = some (.cells arr T f)->arr.size=cap * e.cells
def vz (w:World) (ρ:fA) (id i:Nat) (a:Option Addr) (n cap:Nat):Prop:=∃ b arr T,ρ id=some b/\w.heap[b]? = some (.cells arr T (0,0))/\arr[i]? = some (.slice a n cap)
def dS (heap:Nat->bu) (ρ:fA) (id off:Nat) (v:Value):Prop:=
 heap id ≠ .none/\(∃ a,v = .pointer (some a))/\∀ ds,heap id = .box ds->∃ b,ρ id=some b/\v = .pointer (some ⟨b,off,none⟩)
def dn (heap:Nat->bu) (ρ:fA):List Nat->List Value->Prop
 | [],[]=>True
 | id :: r,v :: vs=>dS heap ρ id 0 v/\dn heap ρ r vs
 | _,_=>False
def RC (P:Program) (Y:Value) (S:CS) (w:World) (heap:Nat->bu) (ρ:fA):DC->Value->Prop
 | .pc τ x,v=>τ.one=true/\R P τ S w x [v]
 | .own id bG e s,v=>R P (.sl e) S w s [v]/\e.flat=true/\∃ cur T k n,heap id = .chain cur T k n/\bG<=cur/\(bG=cur->n=s.n/\VI w ρ id T k e n v)
 | .ptr id off,v=>dS heap ρ id off v
 | .KP id off,v=>dS heap ρ id off v
 | .La id bG i off,v=>heap id ≠ .none/\(∃ a,v = .pointer (some a))/\∀ cur T e s,heap id = .row cur T e s->bG<=cur/\(bG=cur->∃ b,ρ id=some b/\v = .pointer (some ⟨b,i * e.cells + off,none⟩)/\i < s.n)
 | .row id bG,v=>heap id ≠ .none/\(∃ a n c,v = .slice a n c)/\∀ cur T e s,heap id = .row cur T e s->bG<=cur/\(bG=cur->DI w ρ id e s.n v)
 | .mp id,v=>heap id ≠ .none/\(∃ r,v = .map r)/\∀ k e m,heap id = .mp k e m->∃ b,ρ id=some b/\v = .map (some b)
 | .rows id,v=>heap id ≠ .none/\(∃ a n c,v = .slice a n c)/\∀ cur T e d,heap id = .rows cur T e d->∃ b cap,ρ id=some b/\v = .slice (some ⟨b,0,none⟩) d.n cap/\d.n<=cap/\cap<=maxLen
 | .Pn id i,v=>heap id ≠ .none/\(∃ a,v = .pointer (some a))/\∀ cur T e d,heap id = .rows cur T e d->∃ b,ρ id=some b/\v = .pointer (some ⟨b,i,none⟩)/\i < d.n
 | .sub id bG i n,v=>heap id ≠ .none/\(∃ a n c,v = .slice a n c)/\∀ cur T e d,heap id = .rows cur T e d->bG<=cur/\(bG=cur->i < d.n/\n<=(d.g i).n/\∃ a cap,vz w ρ id i a (d.g i).n cap/\v = .slice a n cap)
 | .xo id bG i j off,v=>heap id ≠ .none/\(∃ a,v = .pointer (some a))/\∀ cur T e d,heap id = .rows cur T e d->bG<=cur/\(bG=cur->i < d.n/\j < (d.g i).n/\∃ b cap,vz w ρ id i (some ⟨b,0,none⟩) (d.g i).n cap/\v = .pointer (some ⟨b,j * e.cells + off,none⟩))
 | .iM f ids,v=>eY P f/\∃ us,v = .func (.func f) #[] us.toArray/\dn heap ρ ids us
 | .lR f τ x ids,v=>eY P f/\∃ u us,v = .func (.func f) #[] (u :: us).toArray/\R P (.ptr τ) S w x [u]/\dn heap ρ ids us
 | .zg T τ x,v=>∃ u,v = .iface T u/\R P τ S w x [u]
 | .jI,v=>v=Y
 | .mU,v=>∃ a,v = .slice a 0 0
 | .qD,v=>v = .nilIface
 | .top,v=>v.oneCell'=true
def RL (rc:DC->Value->Prop) (ds:List DC) (us:List Value):Prop:=ds.length=us.length/\∀ (j:Nat) (d:DC) (u:Value),ds[j]? = some d->us[j]? = some u->rc d u
def RS (P:Program) (Y:Value) (S:CS) (w:World) (heap:Nat->bu) (ρ:fA):Slot->Value->Prop
 | .v d,v=>RC P Y S w heap ρ d v
 | .agg ds,v=>∃ us:List Value,v = .agg us.toArray/\RL (RC P Y S w heap ρ) ds us
 | .tup τ x,v=>∃ us:List Value,v = .tuple us.toArray/\R P τ S w x us
 | .ta b,v=>∃ u,v = .tuple #[u,.bool b]
 | .pr ds τ x,v=>∃ us us2:List Value,v = .tuple (.agg us.toArray :: us2).toArray/\RL (RC P Y S w heap ρ) ds us/\R P τ S w x us2
 | .un,v=>v=undef
 | .top,_=>True
def vn (G:Gh) (F:Nat->Prop) (b:Nat):Prop:=(G.w0.heap.size<=b\/G.M b)/\¬ F b
def OI (P : Program) (G : Gh) (S : CS) (w : World) (heap : Nat → bu) (ρ : fA) (F : Nat → Prop) (id : Nat) : bu → Prop
  | .none => True
  | .gone => True
  | .box ds => ∃ b arr T, ρ id = some b ∧ vn G F b ∧ w.heap[b]? = some (.cells arr T (0, 0)) ∧ RL (RC P G.Y S w heap ρ) ds arr.toList ∧ ∀ o, ¬ S b o
  | .chain _ _ k n => (ρ id = none ∧ n = 0) ∨ ∃ b, ρ id = some b ∧ vn G F b ∧ b < w.heap.size ∧ (∃ c T f, w.heap[b]? = some (.cells c T f)) ∧ ∀ o, S b o → o < n * k
  | .row _ T e s => (e.flat = true ∧ 0 < e.cells) ∧ ((ρ id = none ∧ s.n = 0) ∨ ∃ b arr, ρ id = some b ∧ vn G F b ∧ w.heap[b]? = some (.cells arr T (0, 0)) ∧ s.n * e.cells ≤ arr.size ∧
      (∀ i, i < s.n → ∃ us, R P e S w (s.g i) us ∧ us.length = e.cells ∧ ∀ j v, us[j]? = some v → arr[i * e.cells + j]? = some v) ∧ ∀ o, ¬ S b o)
  | .mp k v m => ∃ b es c, ρ id = some b ∧ vn G F b ∧ w.heap[b]? = some (.map es c) ∧ (k.plain = true ∧ v.plain = true ∧ k.single = true ∧ v.single = true) ∧ adl k v m es c ∧ ∀ o, ¬ S b o
  | .rows _ _ e d => (e.flat = true ∧ 0 < e.cells) ∧ ∃ b arr T, ρ id = some b ∧ vn G F b ∧ w.heap[b]? = some (.cells arr T (0, 0)) ∧ arr.size = d.n ∧ (∀ o, ¬ S b o) ∧
      (∀ (i j b' n m c c' : Nat), arr[i]? = some (Value.slice (some ⟨b', 0, none⟩) (n + 1) c) → arr[j]? = some (Value.slice (some ⟨b', 0, none⟩) (m + 1) c') → i = j) ∧
      ∀ i, i < d.n → ∃ a cap, arr[i]? = some (Value.slice a (d.g i).n cap) ∧ ((d.g i).n = 0 ∨ 0 < (d.g i).n ∧ ∃ b' gA T', a = some ⟨b', 0, none⟩ ∧ b' ≠ b ∧ vn G F b' ∧ w.heap[b']? = some (.cells gA T' (0, 0)) ∧
        (d.g i).n ≤ cap ∧ cap ≤ maxLen ∧ (d.g i).n * e.cells ≤ gA.size ∧
        (∀ j, j < (d.g i).n → ∃ us, R P e S w ((d.g i).g j) us ∧ us.length = e.cells ∧ ∀ k v, us[k]? = some v → gA[j * e.cells + k]? = some v) ∧ ∀ o, ¬ S b' o)
def Own (w:World) (ρ:fA) (id:Nat) (o:bu) (b:Nat):Prop:=match o with
 | .none=>False
 | .gone=>False
 | .rows _ _ _ _=>ρ id=some b\/∃ i n cap,vz w ρ id i (some ⟨b,0,none⟩) (n + 1) cap
 | _=>ρ id=some b
def gp:bu->Bool
 | .chain _ _ _ _=>true
 | _=>false
def VJ:bu->Bool
 | .row _ _ _ _=>true
 | _=>false
def live:bu->Prop
 | .none=>False
 | .gone=>False
 | _=>True
def marksOf (ds:List Deferred):List Nat:=ds.filterMap fun d=>match d.target with
 | .collected D=>some D
 | _=>none
def lV (n0:Nat) (w:World) (F:Nat->Prop):List Deferred->List Deferred->Prop
 | [],_=>True
 | d :: ms,ds=>(∃ D,d={ target:=.collected D,args:=#[] }/\n0<=D/\¬ F D/\w.heap[D]? = some (.deferred (some []))/\D ∉ marksOf (ms ++ ds))/\lV n0 w F ms ds
theorem lV.imp {n0 n1:Nat} {w w':World} {F F':Nat->Prop}:∀ {ms ds:List Deferred},lV n0 w F ms ds->(∀ D,D∈marksOf (ms ++ ds)->n0<=D->¬ F D->w.heap[D]? = some (.deferred (some []))->n1<=D/\¬ F' D/\w'.heap[D]? = some (.deferred (some [])))->lV n1 w' F' ms ds
 | [],_,_,_=>trivial
 | d :: ms,ds,⟨⟨D,h1,h2,h3,h4,h5⟩,h⟩,hi=>by
  have q:=hi D (by rw [h1]; simp [marksOf]) h2 h3 h4
  exact ⟨⟨D,h1,q.1,q.2.1,q.2.2,h5⟩,h.imp fun D' hD'=>hi D' (by rw [h1]; simpa [marksOf] using Or.inr hD')⟩
def dz (n0:Nat) (w:World) (heap:Nat->bu) (ρ:fA) (F:Nat->Prop):List fu->List Deferred->Prop
 | [],[]=>True
 | .mark :: r,d :: ds=>(∃ D,d={ target:=.collected D,args:=#[] }/\n0<=D/\¬ F D/\w.heap[D]? = some (.deferred (some []))/\D ∉ marksOf ds)/\dz n0 w heap ρ F r ds
 | .iM f ids :: r,d :: ds=>(∃ us,d={ target:=.fn (.func f) us.toArray,args:=#[] }/\dn heap ρ ids us)/\dz n0 w heap ρ F r ds
 | .marks :: r,dd=>∃ ms ds,dd=ms ++ ds/\lV n0 w F ms ds/\dz n0 w heap ρ F r ds
 | _,_=>False
def Im (G:Gh) (t:Tr) (F:Nat->Prop) (S:CS) (w:World):Prop:=
 ∃ (live:Bool) (x:Sl G.e.den),t=⟨G.e,live,x⟩/\match live with
  | true=>G.C.J x.list F S w
  | false=>∃ l',l' <+: x.list/\G.C.JS l' F S w
structure SR (P:Program) (N:Nat) (G:Gh) (s:St) (a:Act) (w:World) (ρ:fA) (S:CS) (F:Nat->Prop):Prop where
 size:a.tmps.size=N
 bw:dz G.w0.heap.size w s.heap ρ F s.bw a.defers
 env:∀ t,RS P G.Y S w s.heap ρ (s.env t) (a.tmps.getD t undef)
 obj:∀ id,OI P G S w s.heap ρ F id (s.heap id)
 inj:∀ i j b,Own w ρ i (s.heap i) b->Own w ρ j (s.heap j) b->i=j
 ext:Ext0 G.S0 G.w0 S w
 new:∀ b o,S b o->G.S0 b o\/G.w0.heap.size<=b\/G.M b
 same:dX (fun b=>b < G.w0.heap.size/\¬ G.M b/\¬ G.F0 b) G.w0 w
 tr:Im G s.tr F S w
 fb:∀ b,F b->b < w.heap.size
 f0:∀ b,b < G.w0.heap.size->F b->G.F0 b
 sub:∀ b,G.F0 b->F b
 fs:∀ b o,S b o->F b->G.SI b o
 pins:∀ id b,G.ic id=some b->ρ id=some b/\gp (s.heap id)=false
section
variable {P:Program} {N:Nat} {G:Gh} {S S':CS} {w w':World} {s:St} {a:Act} {ρ ρ':fA} {F F':Nat->Prop} {heap heap':Nat->bu} {Y:Value}
theorem SR.bd (h:SR P N G s a w ρ S F):Bd S w:=h.ext.bd
theorem dS.one {id off:Nat} {v:Value} (h:dS heap ρ id off v):v.oneCell'=true:=by
 obtain ⟨_,⟨a,rfl⟩,_⟩:=h; rfl
theorem RC.jV {d:DC} {v:Value} (hY:Y.oneCell'=true) (h:RC P Y S w heap ρ d v):v.oneCell'=true:=by
 cases d with
 | pc τ x=>obtain ⟨u,hu,ho⟩:=R.one h.1 h.2; cases hu; exact ho
 | own id bG e s=>obtain ⟨u,hu,ho⟩:=R.one (τ:=.sl e) rfl h.1; cases hu; exact ho
 | ptr id off=>exact dS.one h
 | KP id off=>exact dS.one h
 | La id bG i off=>obtain ⟨_,⟨a,rfl⟩,_⟩:=h; rfl
 | row id bG=>obtain ⟨_,⟨a,n,c,rfl⟩,_⟩:=h; rfl
 | mp id=>obtain ⟨_,⟨r,rfl⟩,_⟩:=h; rfl
 | rows id=>obtain ⟨_,⟨a,n,c,rfl⟩,_⟩:=h; rfl
 | Pn id i=>obtain ⟨_,⟨a,rfl⟩,_⟩:=h; rfl
 | sub id bG i n=>obtain ⟨_,⟨a,n,c,rfl⟩,_⟩:=h; rfl
 | xo id bG i j off=>obtain ⟨_,⟨a,rfl⟩,_⟩:=h; rfl
 | iM f ids=>obtain ⟨_,us,rfl,_⟩:=h; rfl
 | lR f τ x ids=>obtain ⟨_,u,us,rfl,_⟩:=h; rfl
 | zg T τ x=>obtain ⟨u,rfl,_⟩:=h; rfl
 | jI=>rw [show v=Y from h]; exact hY
 | mU=>obtain ⟨a,rfl⟩:=h; rfl
 | qD=>rw [show v=_ from h]; rfl
 | top=>exact h
theorem Gh.jS (G:Gh):G.Y.oneCell'=true:=rfl
theorem RL.nil {rc:DC->Value->Prop}:RL rc [] []:=⟨rfl,by simp⟩
theorem RL.cons {rc:DC->Value->Prop} {d:DC} {u:Value} {ds:List DC} {us:List Value} (h:rc d u) (h':RL rc ds us):RL rc (d :: ds) (u :: us):=
 ⟨by simp [h'.1],fun j d' u' h1 h2=>by
  cases j with
  | zero=>simp at h1 h2; subst h1 h2; exact h
  | succ j=>simp at h1 h2; exact h'.2 j _ _ h1 h2⟩
theorem RL.of_cons {rc:DC->Value->Prop} {d:DC} {u:Value} {ds:List DC} {us:List Value} (h:RL rc (d :: ds) (u :: us)):rc d u/\RL rc ds us:=
 ⟨h.2 0 _ _ rfl rfl,by have:=h.1; simpa using this,fun j d' u' h1 h2=>h.2 (j + 1) _ _ (by simpa using h1) (by simpa using h2)⟩
theorem RL.imp {rc rc':DC->Value->Prop} {ds:List DC} {us:List Value} (h:RL rc ds us) (hi:∀ d u,rc d u->rc' d u):RL rc' ds us:=
 ⟨h.1,fun j d u h1 h2=>hi _ _ (h.2 j d u h1 h2)⟩
theorem RL.append {rc:DC->Value->Prop} {ds ds':List DC} {us us':List Value} (h:RL rc ds us) (h':RL rc ds' us'):RL rc (ds ++ ds') (us ++ us'):=by
 refine ⟨by simp [h.1,h'.1],fun j d u h1 h2=>?_⟩
 by_cases hj:j < ds.length
 ·rw [List.getElem?_append_left hj] at h1
  rw [List.getElem?_append_left (by rw [<- h.1]; exact hj)] at h2
  exact h.2 j _ _ h1 h2
 ·rw [List.getElem?_append_right (by omega)] at h1
  rw [List.getElem?_append_right (by rw [<- h.1]; omega),<- h.1] at h2
  exact h'.2 _ _ _ h1 h2
theorem RL.take {rc:DC->Value->Prop} {ds:List DC} {us:List Value} (h:RL rc ds us) (n:Nat):RL rc (ds.take n) (us.take n):=by
 refine ⟨by simp [h.1],fun j d u h1 h2=>?_⟩
 rw [List.getElem?_take] at h1 h2
 split at h1
 ·rename_i hj
  rw [if_pos hj] at h2
  exact h.2 j _ _ h1 h2
 ·cases h1
theorem RL.drop {rc:DC->Value->Prop} {ds:List DC} {us:List Value} (h:RL rc ds us) (n:Nat):RL rc (ds.drop n) (us.drop n):=by
 refine ⟨by simp [h.1],fun j d u h1 h2=>?_⟩
 rw [List.getElem?_drop] at h1 h2
 exact h.2 _ _ _ h1 h2
theorem RL.jV {ds:List DC} {us:List Value} (hY:Y.oneCell'=true) (h:RL (RC P Y S w heap ρ) ds us):∀ u∈us,u.oneCell'=true:=fun u hu=>by
 obtain ⟨j,hj,rfl⟩:=List.getElem_of_mem hu
 exact RC.jV hY (h.2 j _ _ (List.getElem?_eq_getElem (by rw [h.1]; exact hj)) (List.getElem?_eq_getElem hj))
def Kept (w w':World) (ρ ρ':fA) (id:Nat):bu->bu->Prop
 | .none,_=>True
 | .gone,o'=>o' = .gone
 | .box _,o'=>o' = .gone\/((∃ ds',o' = .box ds')/\ρ' id=ρ id)
 | .chain cur T k n,o'=>∃ cur' n',o' = .chain cur' T k n'/\cur<=cur'/\(cur'=cur->n'=n/\ρ' id=ρ id/\∀ b,ρ id=some b->∀ arr T,w.heap[b]? = some (.cells arr T (0,0))->w'.heap[b]? = w.heap[b]?)
 | .row cur T e s,o'=>o' = .gone\/∃ cur' s',o' = .row cur' T e s'/\cur<=cur'/\(cur'=cur->s'.n=s.n/\(ρ' id=ρ id\/s.n=0/\ρ id=none))
 | .mp k v _,o'=>o' = .gone\/((∃ m',o' = .mp k v m')/\ρ' id=ρ id)
 | .rows cur T e d,o'=>o' = .gone\/∃ cur' d',o' = .rows cur' T e d'/\cur<=cur'/\d'.n=d.n/\ρ' id=ρ id/\(cur'=cur->(∀ i,i < d.n->(d'.g i).n=(d.g i).n)/\∀ b,ρ id=some b->w'.heap[b]? = w.heap[b]?)
theorem Kept.refl {o:bu} {id:Nat} (hρ:ρ' id=ρ id) (hb:∀ b,ρ id=some b->live o->w'.heap[b]? = w.heap[b]?):Kept w w' ρ ρ' id o o:=by
 cases o with
 | none=>trivial
 | gone=>rfl
 | box ds=>exact .inr ⟨⟨_,rfl⟩,hρ⟩
 | chain cur T k n=>exact ⟨cur,n,rfl,Nat.le_refl _,fun _=>⟨rfl,hρ,fun b hb' _ _ _=>hb b hb' trivial⟩⟩
 | row cur T e s=>exact .inr ⟨_,_,rfl,Nat.le_refl _,fun _=>⟨rfl,.inl hρ⟩⟩
 | mp k v m=>exact .inr ⟨⟨_,rfl⟩,hρ⟩
 | rows cur T e d=>exact .inr ⟨_,_,rfl,Nat.le_refl _,rfl,hρ,fun _=>⟨fun _ _=>rfl,fun b hb'=>hb b hb' trivial⟩⟩
theorem Kept.lW {o o':bu} {id:Nat} (h:Kept w w' ρ ρ' id o o') (ho:o ≠ .none):o' ≠ .none:=by
 cases o with
 | none=>exact absurd rfl ho
 | gone=>rw [show o'=_ from h]; simp
 | box ds=>rcases h with rfl | ⟨⟨_,rfl⟩,_⟩ <;> simp
 | chain cur T k n=>obtain ⟨_,_,rfl,_⟩:=h; simp
 | row cur T e s=>rcases h with rfl | ⟨_,_,rfl,_⟩ <;> simp
 | mp k v m=>rcases h with rfl | ⟨⟨_,rfl⟩,_⟩ <;> simp
 | rows cur T e d=>rcases h with rfl | ⟨_,_,rfl,_⟩ <;> simp
theorem vz.tr {id i:Nat} {ad:Option Addr} {n cap:Nat} (h:vz w ρ id i ad n cap) (hρ:ρ' id=ρ id) (hb:∀ b,ρ id=some b->w'.heap[b]? = w.heap[b]?):vz w' ρ' id i ad n cap:=by
 obtain ⟨b,arr,T,h1,h2,h3⟩:=h
 exact ⟨b,arr,T,hρ.trans h1,(hb b h1).trans h2,h3⟩
theorem Kept.vA {id:Nat} {o:bu} {cur:Nat} {T:TypeId} {e:Ty} {d':Sl (Sl e.den)} {o':bu} (h:Kept w w' ρ ρ' id o o') (ho:o ≠ .none) (hd:o' = .rows cur T e d') :
  ∃ d AW,o = .rows AW T e d/\d'.n=d.n/\ρ' id=ρ id/\AW<=cur/\(cur=AW->(∀ i,i < d.n->(d'.g i).n=(d.g i).n)/\∀ b,ρ id=some b->w'.heap[b]? = w.heap[b]?):=by
 cases o with
 | none=>exact absurd rfl ho
 | gone=>rw [show o'=_ from h] at hd; cases hd
 | box ds=>rcases h with e | ⟨⟨_,e⟩,_⟩ <;> (rw [e] at hd; cases hd)
 | chain cur T k n=>obtain ⟨_,_,e,_⟩:=h; rw [e] at hd; cases hd
 | row cur T e s=>rcases h with e | ⟨_,_,e,_⟩ <;> (rw [e] at hd; cases hd)
 | mp k v m=>rcases h with e | ⟨⟨_,e⟩,_⟩ <;> (rw [e] at hd; cases hd)
 | rows AW T0 e0 d =>
  rcases h with q | ⟨c2,d2,q,q1,q2,q3,q4⟩
  ·rw [q] at hd; cases hd
  ·rw [q] at hd; cases hd
   exact ⟨d,AW,rfl,q2,q3,q1,q4⟩
theorem Own.lv {id b:Nat} {o:bu} (h:Own w ρ id o b):live o:=by cases o <;> first | exact h.elim | trivial
theorem Own.of {id b:Nat} {o:bu} (hl:live o) (h:ρ id=some b):Own w ρ id o b:=by cases o <;> first | exact hl.elim | exact h | exact .inl h
theorem Own.tr {id b:Nat} {o:bu} (h:Own w ρ id o b) (hρ:ρ' id=ρ id) (hb:∀ b,ρ id=some b->live o->w'.heap[b]? = w.heap[b]?):Own w' ρ' id o b:=by
 cases o with
 | none=>exact h.elim
 | gone=>exact h.elim
 | rows _ _ _ _ =>
  rcases h with h | ⟨i,n,cap,h⟩
  ·exact .inl (hρ.trans h)
  ·exact .inr ⟨i,n,cap,h.tr hρ fun b hb'=>hb b hb' trivial⟩
 | _=>exact hρ.trans h
theorem dS.tr {id off:Nat} {v:Value} (h:dS heap ρ id off v) (hk:Kept w w' ρ ρ' id (heap id) (heap' id)):dS heap' ρ' id off v:=by
 obtain ⟨h1,h2,h3⟩:=h
 refine ⟨hk.lW h1,h2,fun ds' hd=>?_⟩
 cases ho:heap id with
 | none=>exact absurd ho h1
 | gone=>rw [ho] at hk; rw [show heap' id=_ from hk] at hd; cases hd
 | box ds =>
  rw [ho] at hk
  obtain ⟨b,h4,h5⟩:=h3 ds ho
  rcases hk with hk | ⟨_,hk⟩
  ·rw [hk] at hd; cases hd
  ·exact ⟨b,hk.trans h4,h5⟩
 | chain cur T k n=>rw [ho] at hk; obtain ⟨_,_,e,_⟩:=hk; rw [e] at hd; cases hd
 | row cur T e s=>rw [ho] at hk; rcases hk with e | ⟨_,_,e,_⟩ <;> (rw [e] at hd; cases hd)
 | mp k v m=>rw [ho] at hk; rcases hk with e | ⟨⟨_,e⟩,_⟩ <;> (rw [e] at hd; cases hd)
 | rows _ T e s=>rw [ho] at hk; rcases hk with e | ⟨_,_,e,_⟩ <;> (rw [e] at hd; cases hd)
theorem dn.tr (hk:∀ id,Kept w w' ρ ρ' id (heap id) (heap' id)):∀ {ids:List Nat} {us:List Value},dn heap ρ ids us->dn heap' ρ' ids us
 | [],[],_=>trivial
 | _ :: _,_ :: _,h=>⟨h.1.tr (hk _),dn.tr hk h.2⟩
 | [],_ :: _,h=>h.elim
 | _ :: _,[],h=>h.elim
theorem RC.tr {d:DC} {v:Value} (h:RC P Y S w heap ρ d v) (ex:Ext0 S w S' w') (hk:∀ id,Kept w w' ρ ρ' id (heap id) (heap' id)):RC P Y S' w' heap' ρ' d v:=by
 cases d with
 | pc τ x=>exact ⟨h.1,h.2.mono ex⟩
 | own id bG e s =>
  obtain ⟨h1,hf,cur,T,k,n,h2,h3,h4⟩:=h
  have:=hk id
  rw [h2] at this
  obtain ⟨cur',n',e1,e2,e3⟩:=this
  refine ⟨h1.mono ex,hf,cur',T,k,n',e1,by omega,fun hv=>?_⟩
  have hc:cur'=cur:=by omega
  obtain ⟨rfl,hb,hw⟩:=e3 hc
  obtain ⟨s0,s1,s2⟩:=h4 (by omega)
  refine ⟨s0,s1,?_⟩
  rw [hb]
  rcases s2 with s2 | ⟨b,cap,cr,q0,q1,q2,q3,q4,q5⟩
  ·exact .inl s2
  ·exact .inr ⟨b,cap,cr,q0,q1,q2,q3,(hw b q0 _ _ q4).trans q4,q5⟩
 | ptr id off=>exact dS.tr h (hk id)
 | KP id off=>exact dS.tr h (hk id)
 | La id bG i off =>
  obtain ⟨h1,h2,h3⟩:=h
  refine ⟨(hk id).lW h1,h2,fun cur T e s' hd=>?_⟩
  have hk:=hk id
  cases ho:heap id with
  | row AW T0 e0 s =>
   rw [ho] at hk
   rcases hk with q | ⟨c2,s2,q,qc,qq⟩
   ·rw [q] at hd; cases hd
   ·rw [q] at hd; cases hd
    obtain ⟨hle,h3⟩:=h3 _ _ _ _ ho
    refine ⟨by omega,fun hv=>?_⟩
    obtain ⟨qn,qr⟩:=qq (by omega)
    obtain ⟨b,h4,h5,h6⟩:=h3 (by omega)
    have qr:=qr.resolve_right (by omega)
    exact ⟨b,qr.trans h4,h5,by omega⟩
  | none=>exact absurd ho h1
  | gone=>rw [ho] at hk; rw [show heap' id=_ from hk] at hd; cases hd
  | box ds=>rw [ho] at hk; rcases hk with e | ⟨⟨_,e⟩,_⟩ <;> (rw [e] at hd; cases hd)
  | chain cur T k n=>rw [ho] at hk; obtain ⟨_,_,e,_⟩:=hk; rw [e] at hd; cases hd
  | mp k v m=>rw [ho] at hk; rcases hk with e | ⟨⟨_,e⟩,_⟩ <;> (rw [e] at hd; cases hd)
  | rows _ T e s=>rw [ho] at hk; rcases hk with e | ⟨_,_,e,_⟩ <;> (rw [e] at hd; cases hd)
 | row id bG =>
  obtain ⟨h1,h2,h3⟩:=h
  refine ⟨(hk id).lW h1,h2,fun cur T e s' hd=>?_⟩
  have hk:=hk id
  cases ho:heap id with
  | row AW T0 e0 s =>
   rw [ho] at hk
   rcases hk with q | ⟨c2,s2,q,qc,qq⟩
   ·rw [q] at hd; cases hd
   ·rw [q] at hd; cases hd
    obtain ⟨hle,h3⟩:=h3 _ _ _ _ ho
    refine ⟨by omega,fun hv=>?_⟩
    obtain ⟨qn,qr⟩:=qq (by omega)
    rcases h3 (by omega) with ⟨h5,h6⟩ | ⟨b,cap,h4,h5,h6,h7,h7',h8⟩
    ·exact .inl ⟨by omega,h6⟩
    ·have qr:=qr.resolve_right (fun q=>by rw [h4] at q; cases q.2)
     exact .inr ⟨b,cap,qr.trans h4,by rw [qn]; exact h5,by omega,h7,Nat.lt_of_lt_of_le h7' ex.size,fun arr T f ha=>by
      obtain ⟨qx,T0,f0,q1,q2⟩:=ex.pl.sz b arr T f h7' ha
      rw [<- q2]; exact h8 _ _ _ q1⟩
  | none=>exact absurd ho h1
  | gone=>rw [ho] at hk; rw [show heap' id=_ from hk] at hd; cases hd
  | box ds=>rw [ho] at hk; rcases hk with e | ⟨⟨_,e⟩,_⟩ <;> (rw [e] at hd; cases hd)
  | chain cur T k n=>rw [ho] at hk; obtain ⟨_,_,e,_⟩:=hk; rw [e] at hd; cases hd
  | mp k v m=>rw [ho] at hk; rcases hk with e | ⟨⟨_,e⟩,_⟩ <;> (rw [e] at hd; cases hd)
  | rows _ T e s=>rw [ho] at hk; rcases hk with e | ⟨_,_,e,_⟩ <;> (rw [e] at hd; cases hd)
 | mp id =>
  obtain ⟨h1,h2,h3⟩:=h
  refine ⟨(hk id).lW h1,h2,fun k e m' hd=>?_⟩
  have hk:=hk id
  cases ho:heap id with
  | mp k0 e0 m =>
   rw [ho] at hk
   rcases hk with q | ⟨⟨m2,q⟩,qr⟩
   ·rw [q] at hd; cases hd
   ·rw [q] at hd; cases hd
    obtain ⟨b,h4,h5⟩:=h3 _ _ _ ho
    exact ⟨b,qr.trans h4,h5⟩
  | none=>exact absurd ho h1
  | gone=>rw [ho] at hk; rw [show heap' id=_ from hk] at hd; cases hd
  | box ds=>rw [ho] at hk; rcases hk with e | ⟨⟨_,e⟩,_⟩ <;> (rw [e] at hd; cases hd)
  | chain cur T k n=>rw [ho] at hk; obtain ⟨_,_,e,_⟩:=hk; rw [e] at hd; cases hd
  | row _ T e s=>rw [ho] at hk; rcases hk with e | ⟨_,_,e,_⟩ <;> (rw [e] at hd; cases hd)
  | rows _ T e s=>rw [ho] at hk; rcases hk with e | ⟨_,_,e,_⟩ <;> (rw [e] at hd; cases hd)
 | rows id =>
  obtain ⟨h1,h2,h3⟩:=h
  refine ⟨(hk id).lW h1,h2,fun cur T e d' hd=>?_⟩
  obtain ⟨d,AW,q0,q1,q2,_,_⟩:=Kept.vA (hk id) h1 hd
  obtain ⟨b,cap,h4,h5,h6,h7⟩:=h3 _ _ _ _ q0
  exact ⟨b,cap,q2.trans h4,by rw [q1]; exact h5,by omega,h7⟩
 | Pn id i =>
  obtain ⟨h1,h2,h3⟩:=h
  refine ⟨(hk id).lW h1,h2,fun cur T e d' hd=>?_⟩
  obtain ⟨d,AW,q0,q1,q2,_,_⟩:=Kept.vA (hk id) h1 hd
  obtain ⟨b,h4,h5,h6⟩:=h3 _ _ _ _ q0
  exact ⟨b,q2.trans h4,h5,by omega⟩
 | sub id bG i n =>
  obtain ⟨h1,h2,h3⟩:=h
  refine ⟨(hk id).lW h1,h2,fun cur T e d' hd=>?_⟩
  obtain ⟨d,AW,q0,q1,q2,q3,q4⟩:=Kept.vA (hk id) h1 hd
  obtain ⟨h4,h5⟩:=h3 _ _ _ _ q0
  refine ⟨by omega,fun e1=>?_⟩
  obtain ⟨h6,h7,a,cap,h8,h9⟩:=h5 (by omega)
  obtain ⟨q5,q6⟩:=q4 (by omega)
  exact ⟨by omega,by rw [q5 i h6]; exact h7,a,cap,by rw [q5 i h6]; exact h8.tr q2 q6,h9⟩
 | xo id bG i j off =>
  obtain ⟨h1,h2,h3⟩:=h
  refine ⟨(hk id).lW h1,h2,fun cur T e d' hd=>?_⟩
  obtain ⟨d,AW,q0,q1,q2,q3,q4⟩:=Kept.vA (hk id) h1 hd
  obtain ⟨h4,h5⟩:=h3 _ _ _ _ q0
  refine ⟨by omega,fun e1=>?_⟩
  obtain ⟨h6,h7,b,cap,h8,h9⟩:=h5 (by omega)
  obtain ⟨q5,q6⟩:=q4 (by omega)
  exact ⟨by omega,by rw [q5 i h6]; exact h7,b,cap,by rw [q5 i h6]; exact h8.tr q2 q6,h9⟩
 | iM f ids=>obtain ⟨hc,us,h1,h2⟩:=h; exact ⟨hc,us,h1,h2.tr hk⟩
 | lR f τ x ids=>obtain ⟨hc,u,us,h1,h2,h3⟩:=h; exact ⟨hc,u,us,h1,h2.mono ex,h3.tr hk⟩
 | zg T τ x=>obtain ⟨u,h1,h2⟩:=h; exact ⟨u,h1,h2.mono ex⟩
 | jI=>exact h
 | mU=>exact h
 | qD=>exact h
 | top=>exact h
theorem RS.tr {d:Slot} {v:Value} (h:RS P Y S w heap ρ d v) (ex:Ext0 S w S' w') (hk:∀ id,Kept w w' ρ ρ' id (heap id) (heap' id)):RS P Y S' w' heap' ρ' d v:=by
 cases d with
 | v d=>exact RC.tr (P:=P) h ex hk
 | agg ds=>obtain ⟨us,h1,h2⟩:=h; exact ⟨us,h1,h2.imp fun d u hd=>hd.tr ex hk⟩
 | tup τ x=>obtain ⟨us,h1,h2⟩:=h; exact ⟨us,h1,h2.mono ex⟩
 | ta b=>exact h
 | pr ds τ x=>obtain ⟨us,us2,h1,h2,h3⟩:=h; exact ⟨us,us2,h1,h2.imp fun d u hd=>hd.tr ex hk,h3.mono ex⟩
 | un=>exact h
 | top=>trivial
theorem OI.tr {id:Nat} {o:bu} (h:OI P G S w heap ρ F id o) (ex:Ext0 S w S' w') (hk:∀ id,Kept w w' ρ ρ' id (heap id) (heap' id)) (hρ:ρ' id=ρ id)
  (hb0:∀ b,Own w ρ id o b->w'.heap[b]? = w.heap[b]? /\ (∀ i,S' b i->S b i)/\(F' b->F b)):OI P G S' w' heap' ρ' F' id o:=by
 have hb:∀ b,ρ id=some b->live o->w'.heap[b]? = w.heap[b]? /\ (∀ i,S' b i->S b i)/\(F' b->F b):=fun b q1 q2=>hb0 b (.of q2 q1)
 cases o with
 | none=>exact True.intro
 | gone=>exact True.intro
 | box ds =>
  obtain ⟨b,arr,T,h1,h2,h3,h4,h5⟩:=h
  obtain ⟨b1,b2,b3⟩:=hb b h1 trivial
  exact ⟨b,arr,T,hρ.trans h1,⟨h2.1,fun q=>h2.2 (b3 q)⟩,b1.trans h3,h4.imp fun d u hd=>hd.tr ex hk,fun i q=>h5 i (b2 i q)⟩
 | chain cur T k n =>
  rcases h with ⟨h1,h2⟩ | ⟨b,h1,h2,h3,h4,h5⟩
  ·exact .inl ⟨hρ.trans h1,h2⟩
  ·obtain ⟨b1,b2,b3⟩:=hb b h1 trivial
   exact .inr ⟨b,hρ.trans h1,⟨h2.1,fun q=>h2.2 (b3 q)⟩,Nat.lt_of_lt_of_le h3 ex.size,by rw [b1]; exact h4,fun i q=>h5 i (b2 i q)⟩
 | row cur T e s =>
  obtain ⟨h4,⟨h1,h2⟩ | ⟨b,arr,h1,h2,h3,h5,h6,h7⟩⟩:=h
  ·exact ⟨h4,.inl ⟨hρ.trans h1,h2⟩⟩
  obtain ⟨b1,b2,b3⟩:=hb b h1 trivial
  exact ⟨h4,.inr ⟨b,arr,hρ.trans h1,⟨h2.1,fun q=>h2.2 (b3 q)⟩,b1.trans h3,h5,fun i hi=>let ⟨us,u1,u2,u3⟩:=h6 i hi; ⟨us,u1.mono ex,u2,u3⟩,fun i q=>h7 i (b2 i q)⟩⟩
 | mp k v m =>
  obtain ⟨b,es,c,h1,h2,h3,h4,h5,h6⟩:=h
  obtain ⟨b1,b2,b3⟩:=hb b h1 trivial
  exact ⟨b,es,c,hρ.trans h1,⟨h2.1,fun q=>h2.2 (b3 q)⟩,b1.trans h3,h4,h5,fun i q=>h6 i (b2 i q)⟩
 | rows cur T e d =>
  obtain ⟨h1,b,arr,T',h2,h3,h4,h5,h6,h7,h8⟩:=h
  obtain ⟨b1,b2,b3⟩:=hb b h2 trivial
  refine ⟨h1,b,arr,T',hρ.trans h2,⟨h3.1,fun q=>h3.2 (b3 q)⟩,b1.trans h4,h5,fun o q=>h6 o (b2 o q),h7,fun i hi=>?_⟩
  obtain ⟨ad,cap,q1,q2⟩:=h8 i hi
  refine ⟨ad,cap,q1,q2.imp (fun x=>x) ?_⟩
  rintro ⟨hn,b',gA,T'',r1,r2,r3,r4,r5,r6,r7,r8,r9⟩
  obtain ⟨c1,c2,c3⟩:=hb0 b' (.inr ⟨i,(d.g i).n - 1,cap,b,arr,T',h2,h4,by rw [<- r1,Nat.sub_add_cancel (by omega)]; exact q1⟩)
  exact ⟨hn,b',gA,T'',r1,r2,⟨r3.1,fun q=>r3.2 (c3 q)⟩,c1.trans r4,r5,r6,r7,fun j hj=>let ⟨us,u1,u2,u3⟩:=r8 j hj; ⟨us,u1.mono ex,u2,u3⟩,fun o q=>r9 o (c2 o q)⟩
theorem dz.tr {n0:Nat} (hk:∀ id,Kept w w' ρ ρ' id (heap id) (heap' id)) (hD:∀ D,¬ F D->w.heap[D]? = some (.deferred (some []))->w'.heap[D]? = some (.deferred (some []))/\¬ F' D) :
  ∀ {ds:List fu} {dd:List Deferred},dz n0 w heap ρ F ds dd->dz n0 w' heap' ρ' F' ds dd
 | [],[],_=>trivial
 | .mark :: r,d :: ds,⟨⟨D,h1,h2,h3,h4,h5⟩,h⟩=>⟨⟨D,h1,h2,(hD D h3 h4).2,(hD D h3 h4).1,h5⟩,dz.tr hk hD h⟩
 | .iM f ids :: r,d :: ds,⟨⟨us,h1,h2⟩,h⟩=>⟨⟨us,h1,h2.tr hk⟩,dz.tr hk hD h⟩
 | .marks :: r,dd,⟨ms,ds,e,h1,h⟩=>⟨ms,ds,e,h1.imp fun D _ q1 q2 q3=>⟨q1,(hD D q2 q3).2,(hD D q2 q3).1⟩,dz.tr hk hD h⟩
 | [],_ :: _,h=>h.elim
 | .mark :: _,[],h=>h.elim
 | .iM _ _ :: _,[],h=>h.elim
theorem Im.tr {t:Tr} (hc:G.C.Ok) (h:Im G t F S w) (hb:∀ b,F b->b < w.heap.size) (hs:dX F w w') (ex:Ext0 S w S' w'):Im G t F S' w':=by
 obtain ⟨lv,x,rfl,h⟩:=h
 refine ⟨lv,x,rfl,?_⟩
 cases lv with
 | true=>exact hc.J _ _ _ _ _ _ h hb hs ex.kps ex.sub
 | false=>obtain ⟨l',h1,h2⟩:=h; exact ⟨l',h1,hc.JS _ _ _ _ _ _ h2 hb hs ex.kps ex.sub⟩
theorem SR.jy (h:SR P N G s a w ρ S F) {id b:Nat} (ho':Own w ρ id (s.heap id) b):b < w.heap.size/\vn G F b/\w.heap[b]? ≠ some (.deferred (some [])):=by
 have hl:=ho'.lv
 have hb:(∀ T e d cur,s.heap id ≠ .rows cur T e d)->ρ id=some b:=fun q=>by
  cases ho:s.heap id <;> rw [ho] at ho' <;> first | exact ho' | exact ho'.elim | exact absurd ho (q _ _ _ _)
 have:=h.obj id
 cases ho:s.heap id with
 | none=>rw [ho] at hl; exact hl.elim
 | gone=>rw [ho] at hl; exact hl.elim
 | box ds =>
  have hb:=hb (by rw [ho]; simp)
  rw [ho] at this
  obtain ⟨b',arr,T,h1,h2,h3,_⟩:=this
  rw [hb] at h1; cases h1
  exact ⟨(Array.getElem?_eq_some_iff.1 h3).1,h2,by rw [h3]; simp⟩
 | chain cur T k n =>
  have hb:=hb (by rw [ho]; simp)
  rw [ho] at this
  rcases this with ⟨h1,_⟩ | ⟨b',h1,h2,h3,⟨c,T',f,h4⟩,_⟩
  ·rw [hb] at h1; cases h1
  ·rw [hb] at h1; cases h1; exact ⟨h3,h2,by rw [h4]; simp⟩
 | row cur T e s' =>
  have hb:=hb (by rw [ho]; simp)
  rw [ho] at this
  obtain ⟨_,⟨h1,_⟩ | ⟨b',arr,h1,h2,h3,_⟩⟩:=this
  ·rw [hb] at h1; cases h1
  rw [hb] at h1; cases h1
  exact ⟨(Array.getElem?_eq_some_iff.1 h3).1,h2,by rw [h3]; simp⟩
 | mp k v m =>
  have hb:=hb (by rw [ho]; simp)
  rw [ho] at this
  obtain ⟨b',es,c,h1,h2,h3,_⟩:=this
  rw [hb] at h1; cases h1
  exact ⟨(Array.getElem?_eq_some_iff.1 h3).1,h2,by rw [h3]; simp⟩
 | rows cur T e d =>
  rw [ho] at this ho'
  obtain ⟨h1,b0,arr,T',h2,h3,h4,h5,h6,h7,h8⟩:=this
  rcases ho' with q | ⟨i,n,cap,b1,KZ,T1,q1,q2,q3⟩
  ·rw [h2] at q; cases q
   exact ⟨(Array.getElem?_eq_some_iff.1 h4).1,h3,by rw [h4]; simp⟩
  ·rw [h2] at q1; cases q1
   rw [h4] at q2; cases q2
   have hi:i < d.n:=by rw [<- h5]; exact (Array.getElem?_eq_some_iff.1 q3).1
   obtain ⟨ad,cap',r1,r2⟩:=h8 i hi
   rw [q3] at r1
   simp only [Option.some.injEq,Value.slice.injEq] at r1
   obtain ⟨r1,r3,r4⟩:=r1
   rcases r2 with r2 | ⟨_,b',gA,T'',s1,s2,s3,s4,_⟩
   ·omega
   ·rw [<- r1] at s1; cases s1
    exact ⟨(Array.getElem?_eq_some_iff.1 s4).1,s3,by rw [s4]; simp⟩
theorem SR.eG (h:SR P N G s a w ρ S F) {id b:Nat} (hl:live (s.heap id)) (hb:ρ id=some b):b < w.heap.size/\vn G F b/\w.heap[b]? ≠ some (.deferred (some [])):=h.jy (.of hl hb)
theorem Own.back {id b:Nat} {o:bu} (h:Own w' ρ' id o b) (hρ:ρ' id=ρ id) (hb:∀ b,ρ id=some b->live o->w'.heap[b]? = w.heap[b]?):Own w ρ id o b:=
 h.tr hρ.symm fun b q1 q2=>(hb b (hρ ▸ q1) q2).symm
theorem SR.grow (hc:G.C.Ok) (h:SR P N G s a w ρ S F) (ex:Ext S w S' w') (hb:Below w.heap.size w w'):SR P N G s a w' ρ S' F:=by
 have hk:∀ id,Kept w w' ρ ρ id (s.heap id) (s.heap id):=fun id=>.refl rfl fun b hb' hl=>hb.block b (h.eG hl hb').1
 refine ⟨h.size,h.bw.tr hk (fun D hF hD=>⟨(hb.block D (Array.getElem?_eq_some_iff.1 hD).1).trans hD,hF⟩),fun t=>(h.env t).tr ex.toExt0 hk,
  fun id=>(h.obj id).tr ex.toExt0 hk rfl fun b hb'=>⟨hb.block b (h.jy hb').1,fun i q=>(ex.new b i q).elim (fun x=>x) (fun x=>absurd (h.jy hb').1 (by omega)),fun x=>x⟩,
  fun i j b hi hj=>h.inj i j b (hi.back rfl fun b q1 q2=>hb.block b (h.eG q2 q1).1) (hj.back rfl fun b q1 q2=>hb.block b (h.eG q2 q1).1),h.ext.trans ex.toExt0,fun b i q=>(ex.new b i q).elim (h.new b i) (fun x=>.inr (.inl (Nat.le_trans h.ext.size x))),h.same.trans ((dX.vp hb).mono fun k hk=>Nat.lt_of_lt_of_le hk.1 h.ext.size),h.tr.tr hc h.fb ((dX.vp hb).mono h.fb) ex.toExt0,
  fun b x=>Nat.lt_of_lt_of_le (h.fb b x) hb.size,h.f0,h.sub,fun b o q x=>(ex.new b o q).elim (fun y=>h.fs b o y x) (fun y=>absurd (h.fb b x) (by omega)),h.pins⟩
theorem SR.drew (hc:G.C.Ok) (h:SR P N G s a w ρ S F):SR P N G s a w.drew ρ S F:=
 h.grow hc ⟨⟨Nat.le_refl _,fun _ _ x=>x,fun _ _ _=>rfl,fun _ _ _ _ _ x=>x,h.bd,⟨Nat.le_refl _,Nat.le_succ _,fun _ arr T f _ h=>⟨arr,T,f,h,rfl⟩⟩⟩,fun _ _ x=>.inl x⟩ ((Below.refl _ _).drew)
theorem SR.of_eq {s':St} (h:SR P N G s a w ρ S F) (he:s'.env=s.env) (hh:s'.heap=s.heap) (ht:s'.tr=s.tr) (hd:s'.bw=s.bw):SR P N G s' a w ρ S F:=by
 obtain ⟨env,heap,tr,base,bw⟩:=s
 obtain ⟨env',heap',CZ,base',aXP⟩:=s'
 simp only at he hh ht hd
 subst he hh ht hd
 exact ⟨h.size,h.bw,h.env,h.obj,h.inj,h.ext,h.new,h.same,h.tr,h.fb,h.f0,h.sub,h.fs,h.pins⟩
theorem SR.put (h:SR P N G s a w ρ S F) {dst:Option Nat} (hd:dst.all (Nat.blt · N)=true) {sl:Slot} {v:Value} (hr:RS P G.Y S w s.heap ρ sl v) :
  SR P N G { s with env:=gz s.env dst sl } (a.put dst v) w ρ S F:=by
 cases dst with
 | none=>exact ⟨h.size,h.bw,h.env,h.obj,h.inj,h.ext,h.new,h.same,h.tr,h.fb,h.f0,h.sub,h.fs,h.pins⟩
 | some d =>
  simp only [Option.all_some,Nat.blt_eq] at hd
  refine ⟨by simpa [Act.put] using h.size,h.bw,fun t=>?_,h.obj,h.inj,h.ext,h.new,h.same,h.tr,h.fb,h.f0,h.sub,h.fs,h.pins⟩
  simp only [gz,setEnv,Act.put]
  by_cases ht:t=d
  ·subst ht
   have:a.tmps.size=N:=h.size
   simp [Array.getD_eq_getD_getElem?,this,hd,hr]
  ·have:(Nat.beq t d)=false:=bF ht
   simp only [this,cond_false]
   have:=h.env t
   simpa [Array.getD_eq_getD_getElem?,Array.getElem?_setIfInBounds_ne (Ne.symm ht)] using this
theorem SR.Li (h:SR P N G s a w ρ S F) {dst:Option Nat} (hd:dst.all (Nat.blt · N)=true):SR P N G { s with env:=gz s.env dst .un } (a.put dst undef) w ρ S F:=
 h.put hd rfl
theorem SR.mZ (h:SR P N G s a w ρ S F) {dst:Option Nat} (hd:dst.all (Nat.blt · N)=true):SR P N G { s with env:=gz s.env dst .top } (a.put dst undef) w ρ S F:=
 h.put hd trivial
theorem kF (hb:Bd S w) (o:Obj):Ext S w S (w.alloc o):=
 ⟨⟨by simp,fun _ _ x=>x,fun b i hS=>World.cell?_alloc_lt _ _ _ (hb b i hS),fun b i es c hS hm=>(Below.heap_alloc _ _ _ (hb b i hS)).trans hm,fun b i hS=>by have:=hb b i hS; simp; omega,.below ((Below.refl _ _).alloc (Nat.le_refl _) _) (Nat.le_refl _)⟩,fun _ _ x=>.inl x⟩
theorem gO (w:World) (o:Obj):Below w.heap.size w (w.alloc o):=(Below.refl _ _).alloc (Nat.le_refl _) _
def tY:bu->Bool
 | .rows _ _ _ _=>true
 | _=>false
theorem Own.flat {id b:Nat} {o:bu} (ho:tY o=false) (h:Own w ρ id o b):ρ id=some b:=by
 cases o <;> first | exact h | exact h.elim | cases ho
theorem SR.su (h:SR P N G s a w ρ S F) {id:Nat} {o:bu} (hρ:∀ j,j≠id->ρ' j=ρ j) (fU:∀ j b,j≠id->live (s.heap j)->ρ j=some b->w'.heap[b]? = w.heap[b]?)
  (hown:∀ b,Own w' ρ' id o b->Own w ρ id (s.heap id) b\/w.heap.size<=b\/∀ j,j≠id->¬ Own w ρ j (s.heap j) b):∀ i j b,Own w' ρ' i (aE s.heap id o i) b->Own w' ρ' j (aE s.heap id o j) b->i=j:=by
 have iO:∀ j b,j≠id->Own w' ρ' j (aE s.heap id o j) b->Own w ρ j (s.heap j) b:=fun j b hj q=>by
  simp only [aE,bF hj,cond_false] at q
  exact q.back (hρ j hj) fun b q1 q2=>fU j b hj q2 q1
 intro i j b hi hj
 by_cases hid:i=id
 ·by_cases zO:j=id
  ·rw [hid,zO]
  ·subst hid
   simp only [aE,Nat.beq_refl,cond_true] at hi
   have q:=iO j b zO hj
   rcases hown b hi with q' | q' | q'
   ·exact h.inj _ _ _ q' q
   ·have:=(h.jy q).1; omega
   ·exact absurd q (q' _ zO)
 ·by_cases zO:j=id
  ·subst zO
   simp only [aE,Nat.beq_refl,cond_true] at hj
   have q:=iO i b hid hi
   rcases hown b hj with q' | q' | q'
   ·exact h.inj _ _ _ q q'
   ·have:=(h.jy q).1; omega
   ·exact absurd q (q' _ hid)
  ·exact h.inj _ _ _ (iO i b hid hi) (iO j b zO hj)
theorem SR.alloc (hG:G.Ok P) (h:SR P N G s a w ρ S F) {id:Nat} (hn:s.heap id = .none) (hlo:G.lo<=id) {o:bu} (ob:Obj)
  (ho:OI P G S (w.alloc ob) (aE s.heap id o) (fun i=>if i=id then some w.heap.size else ρ i) F id o)
  (hnr:tY o=false\/∀ b,Own (w.alloc ob) (fun i=>if i=id then some w.heap.size else ρ i) id o b->b=w.heap.size:=by exact .inl rfl) :
  SR P N G { s with heap:=aE s.heap id o } a (w.alloc ob) (fun i=>if i=id then some w.heap.size else ρ i) S F:=by
 have hown:∀ b,Own (w.alloc ob) (fun i=>if i=id then some w.heap.size else ρ i) id o b->b=w.heap.size:=hnr.elim (fun e b q=>by
  have:=Own.flat e q
  rw [if_pos rfl] at this; exact (Option.some.inj this).symm) fun x=>x
 have ex:=kF h.bd ob
 have hbl:=gO w ob
 have hk:∀ j,Kept w (w.alloc ob) ρ (fun i=>if i=id then some w.heap.size else ρ i) j (s.heap j) (aE s.heap id o j):=fun j=>by
  by_cases hj:j=id
  ·subst hj; rw [hn]; trivial
  ·simp only [aE,bF hj,cond_false]
   exact .refl (by simp [hj]) fun b hb hl=>hbl.block b (h.eG hl hb).1
 refine ⟨h.size,h.bw.tr hk (fun D hF hD=>⟨(hbl.block D (Array.getElem?_eq_some_iff.1 hD).1).trans hD,hF⟩),fun t=>(h.env t).tr ex.toExt0 hk,fun j=>?_,h.su (by simp +contextual) (fun j b hj hl hb=>hbl.block b (h.eG hl hb).1) (fun b q=>.inr (.inl (by rw [hown b q]; exact Nat.le_refl _))),
  h.ext.trans ex.toExt0,h.new,h.same.trans ((dX.vp hbl).mono fun k hk=>Nat.lt_of_lt_of_le hk.1 h.ext.size),h.tr.tr hG.c h.fb ((dX.vp hbl).mono h.fb) ex.toExt0,
  fun b x=>Nat.lt_of_lt_of_le (h.fb b x) hbl.size,h.f0,h.sub,h.fs,fun j b hj=>?_⟩
 ·by_cases hj:j=id
  ·subst hj
   simp only [aE,Nat.beq_refl,cond_true]
   exact ho
  ·simp only [aE,bF hj,cond_false]
   exact (h.obj j).tr ex.toExt0 hk (by simp [hj]) fun b hb=>⟨hbl.block b (h.jy hb).1,fun i q=>q,fun x=>x⟩
 ·have hlt:=hG.ic j b hj
  have hne:j≠id:=by omega
  show (if j=id then some w.heap.size else ρ j)=some b/\gp (aE s.heap id o j)=false
  rw [if_neg hne]
  simp only [aE,bF hne,cond_false]
  exact h.pins j b hj
theorem vn.new (h:SR P N G s a w ρ S F):vn G F w.heap.size:=⟨.inl h.ext.size,fun x=>absurd (h.fb _ x) (Nat.lt_irrefl _)⟩
theorem SR.VK (hG:G.Ok P) (h:SR P N G s a w ρ S F) {id b:Nat} {o:bu} (hb:Own w ρ id (s.heap id) b) (hown:∀ b',Own w' ρ id o b'->Own w ρ id (s.heap id) b'\/∀ j,j≠id->¬ Own w ρ j (s.heap j) b') (ex:Ext0 S w S' w')
  (hs:dX (fun k=>k < w.heap.size/\k≠b) w w') (hsz:w'.heap.size=w.heap.size) (hnew:∀ k i,S' k i->S k i\/k=b)
  (Su:Kept w w' ρ ρ id (s.heap id) o) (ho:OI P G S' w' (aE s.heap id o) ρ F id o) :
  SR P N G { s with heap:=aE s.heap id o } a w' ρ S' F:=by
 have hl:=hb.lv
 obtain ⟨hlt,jJ,DJ⟩:=h.jy hb
 have Dd:∀ j b',j≠id->Own w ρ j (s.heap j) b'->b'≠b:=fun j b' hj hb' e=>hj (h.inj j id b (e ▸ hb') hb)
 have hne:∀ j b',j≠id->live (s.heap j)->ρ j=some b'->b'≠b:=fun j b' hj Vh hb'=>Dd j b' hj (.of Vh hb')
 have hk:∀ j,Kept w w' ρ ρ j (s.heap j) (aE s.heap id o j):=fun j=>by
  by_cases hj:j=id
  ·subst hj; simpa only [aE,Nat.beq_refl,cond_true] using Su
  ·simp only [aE,bF hj,cond_false]
   exact .refl rfl fun b' hb' Vh=>hs.block b' ⟨(h.eG Vh hb').1,hne j b' hj Vh hb'⟩
 refine ⟨h.size,h.bw.tr hk (fun D hF hD=>⟨(hs.block D ⟨(Array.getElem?_eq_some_iff.1 hD).1,fun e=>DJ (e ▸ hD)⟩).trans hD,hF⟩),fun t=>(h.env t).tr ex hk,fun j=>?_,h.su (fun _ _=>rfl) (fun j b' hj Vh hb'=>hs.block b' ⟨(h.eG Vh hb').1,hne j b' hj Vh hb'⟩) (fun b' q=>(hown b' q).imp (fun x=>x) .inr),
  h.ext.trans ex,fun k i q=>?_,h.same.trans (hs.mono fun k hk=>⟨Nat.lt_of_lt_of_le hk.1 h.ext.size,fun e=>?_⟩),h.tr.tr hG.c h.fb (hs.mono fun k hk=>⟨h.fb k hk,fun e=>jJ.2 (e ▸ hk)⟩) ex,
  fun k x=>by rw [hsz]; exact h.fb k x,h.f0,h.sub,fun k i q x=>?_,fun j b' hj=>⟨(h.pins j b' hj).1,?_⟩⟩
 ·by_cases hj:j=id
  ·subst hj
   simp only [aE,Nat.beq_refl,cond_true]
   exact ho
  ·simp only [aE,bF hj,cond_false]
   exact (h.obj j).tr ex hk rfl fun b' hb'=>⟨hs.block b' ⟨(h.jy hb').1,Dd j b' hj hb'⟩,fun i q=>(hnew b' i q).elim (fun x=>x) (fun x=>absurd x (Dd j b' hj hb')),fun x=>x⟩
 ·rcases hnew k i q with q | q
  ·exact h.new k i q
  ·rcases jJ.1 with h1 | h1
   ·exact .inr (.inl (by omega))
   ·exact .inr (.inr (q ▸ h1))
 ·obtain ⟨_,h2,_⟩:=hk
  rcases jJ.1 with h1 | h1
  ·omega
  ·exact h2 (e ▸ h1)
 ·rcases hnew k i q with q | q
  ·exact h.fs k i q x
  ·exact absurd (q ▸ x) jJ.2
 ·have hp:=(h.pins j b' hj).2
  by_cases zO:j=id
  ·subst zO
   simp only [aE,Nat.beq_refl,cond_true]
   cases hoj:s.heap j with
   | none=>rw [hoj] at hl; exact hl.elim
   | gone=>rw [hoj] at hl; exact hl.elim
   | box ds=>rw [hoj] at Su; rcases Su with rfl | ⟨⟨_,rfl⟩,_⟩ <;> rfl
   | chain _ _ _ _=>rw [hoj] at hp; cases hp
   | row cur T e s'=>rw [hoj] at Su; rcases Su with rfl | ⟨_,_,rfl,_⟩ <;> rfl
   | mp k v m=>rw [hoj] at Su; rcases Su with rfl | ⟨⟨_,rfl⟩,_⟩ <;> rfl
   | rows cur T e d=>rw [hoj] at Su; rcases Su with rfl | ⟨_,_,rfl,_⟩ <;> rfl
  ·simp only [aE,bF zO,cond_false]; exact hp
theorem SR.Lj (hG:G.Ok P) (h:SR P N G s a w ρ S F) {id b:Nat} {o:bu} (hl:live (s.heap id)) (hb:ρ id=some b) (ex:Ext0 S w S' w')
  (hs:dX (fun k=>k < w.heap.size/\k≠b) w w') (hsz:w'.heap.size=w.heap.size) (hnew:∀ k i,S' k i->S k i\/k=b)
  (Su:Kept w w' ρ ρ id (s.heap id) o) (ho:OI P G S' w' (aE s.heap id o) ρ F id o) (hnr:tY o=false:=by rfl) :
  SR P N G { s with heap:=aE s.heap id o } a w' ρ S' F:=
 h.VK hG (.of hl hb) (fun _ q=>.inl (.of hl (q.flat hnr))) ex hs hsz hnew Su ho
end
end Go.Dm
namespace Go.Dm
open Go.RowKit
def xz (P:Program) (f:FuncId) (c:Dc):Prop:=
 ∀ (S:CS) (w:World),Bd S w->∀ (x:c.fst.den) (y:c.cap.den) (us vs:List Value),c.pre x y=true->R P c.fst S w x us->R P c.cap S w y vs ->
  Vu P (R P c.e) f us.toArray vs.toArray (c.items x y).list S w
structure FW (G:Gh) (F:Nat->Prop) (w:World):Prop where
 kps:xl G.S0 G.w0 w
 same:dX (fun b=>b < G.w0.heap.size/\¬ G.M b/\¬ G.F0 b) G.w0 w
 fb:∀ b,F b->b < w.heap.size
 f0:∀ b,b < G.w0.heap.size->F b->G.F0 b
 sub:∀ b,G.F0 b->F b
def Sv (P:Program) (N:Nat) (G:Gh) (s:St) (a:Act) (w:World) (d:DC) (ch:List PanicEntry):Prop:=
 match d with
 | .jI=>∃ F S x l',s.tr=⟨G.e,false,x⟩/\l' <+: x.list/\G.C.JP l' ch F S w/\FW G F w/\(s.bw=[]->a.defers=[])
 | d=>∃ u ρ S F,ch=[{ v:=u,recovered:=false }]/\SR P N G s a w ρ S F/\RC P G.Y S w s.heap ρ d u
def vB (P:Program) (N:Nat) (G:Gh) (s:St) (a:Act):OR->Ending->World->Prop
 | .ok e,en,w'=>∃ v ρ' S' F',en = .returned v/\SR P N G { s with heap:=cE s.heap e.wh,tr:=Sr s.tr e.tr } a w' ρ' S' F'/\RS P G.Y S' w' (cE s.heap e.wh) ρ' (e.wt.getD .top) v
 | .bP d e,en,w'=>∃ ch,en = .panicked ch/\Sv P N G { s with heap:=cE s.heap e.wh,tr:=Sr s.tr e.tr } a w' d ch
 | .bad,_,_=>False
def dP (P:Program) (f:FuncId) (app:List Slot->(Nat->bu)->Tr->Nat->Tree OR):Prop:=
 ∀ (N:Nat) (G:Gh) (s:St) (a:Act) (w:World) (ρ:fA) (S:CS) (F:Nat->Prop),G.Ok P->SR P N G s a w ρ S F ->
  ∀ (args:List Slot) (us:List Value) (bJ:Nat),args.length=us.length->(∀ (j:Nat) (d:Slot) (u:Value),args[j]? = some d->us[j]? = some u->RS P G.Y S w s.heap ρ d u)->G.lo<=bJ ->
   (∀ r,(app args s.heap s.tr bJ).Has r->r ≠ .bad)->(∀ e,(app args s.heap s.tr bJ).Has (.bP .jI e)->YG G (s.er none e)) ->
   Calls P f us.toArray w fun e w'=>∃ r,(app args s.heap s.tr bJ).Has r/\vB P N G s a r e w'
def Ent.Ok (P:Program) (f:FuncId):Ent->Prop
 | .pure c=>aQ P f c
 | .iter c=>xz P f c
 | .gen app=>dP P f app
 | .row w n τa T e R=>dP P f (nQ w n τa T e R)
 | .loc ids app=>dP P f fun args heap _ bJ=>(Vv ids app args heap bJ).tree
def Sound (P:Program) (Γ:Ctx):Prop:=∀ f c,Γ f=some c->eY P f/\c.Ok P f
section
variable {P:Program} {N:Nat} {G:Gh} {S S':CS} {w w':World} {s:St} {a:Act} {ρ ρ':fA} {F F':Nat->Prop} {heap heap':Nat->bu} {Y:Value} {Γ:Ctx}
theorem Tree.nR {α β:Type} {ch:β->β->β} {K:α->β} {T:β->Prop} (kG:∀ a b,T (ch a b)->T a/\T b):∀ {t:Tree α},T (t.run ch K)->∀ r,t.Has r->T (K r)
 | .leaf b,h,r,hr=>by rw [show r=b from hr]; exact h
 | .br b l r0,h,r,hr=>by
  cases b with
  | true=>exact Tree.nR kG (t:=l) h r (by simpa [Tree.Has] using hr)
  | false=>exact Tree.nR kG (t:=r0) h r (by simpa [Tree.Has] using hr)
 | .any l r0,h,r,hr=>by
  obtain ⟨h1,h2⟩:=kG _ _ h
  rcases hr with hr | hr
  ·exact Tree.nR kG h1 r hr
  ·exact Tree.nR kG h2 r hr
theorem bY {σ τ:Ty} {x:σ.den} {y:τ.den} (h:cH τ x=some y):∃ e:σ=τ,y=e ▸ x:=by
 unfold cH at h
 split at h
 ·rename_i e; exact ⟨e,by cases h; rfl⟩
 ·cases h
theorem eH:∀ {e:Ty} {x:e.den} {us:List Value},e.flat=true->R P e S w x us->RL (RC P Y S w heap ρ) (ee e x) us
 | .nil,x,us,_,h=>by rw [show us=[] from h]; exact .nil
 | .cons h t,x,us,hf,hr=>by
  obtain ⟨u,ws,rfl,h2,h3⟩:=hr
  simp only [Ty.flat,Bool.and_eq_true] at hf
  simp only [ee,hf.1]
  exact .cons ⟨hf.1,h2⟩ (eH hf.2 h3)
theorem xA {τ:Ty} {x:τ.den} {u:Value} (h:R P τ S w x [u]):RS P Y S w heap ρ (AJ τ x) u:=by
 cases τ with
 | agg e =>
  obtain ⟨us,h1,h2,h3⟩:=h
  simp only [AJ]
  cases hf:e.flat with
  | true=>exact ⟨us,by simpa using h1,eH hf h2⟩
  | false=>trivial
 | nil=>trivial
 | cons h t=>trivial
 | _=>exact ⟨rfl,h⟩
theorem AX {τ:Ty} {x:τ.den} {us:List Value} (h:R P τ S w x us):RS P Y S w heap ρ (jk τ x) (pack us):=by
 cases τ with
 | nil=>rw [show us=[] from h]; exact ⟨[],rfl,rfl⟩
 | cons h1 t =>
  have hh:=h
  obtain ⟨u,ws,rfl,h2,h3⟩:=h
  have hl:=R.len hh
  cases t with
  | nil =>
   rw [show ws=[] from h3]
   exact xA h2
  | cons h4 t4 =>
   obtain ⟨u2,ws2,rfl,_,_⟩:=h3
   exact ⟨u :: u2 :: ws2,rfl,hh⟩
  | _=>exact True.intro
 | _=>exact True.intro
theorem RC.cell {d:DC} {v:Value} (hy:d ≠ .jI) (h:RC P Y S w heap ρ d v):v.oneCell'=true:=by
 cases d with
 | jI=>exact absurd rfl hy
 | pc τ x=>obtain ⟨u,hu,ho⟩:=R.one h.1 h.2; cases hu; exact ho
 | own id bG e s=>obtain ⟨u,hu,ho⟩:=R.one (τ:=.sl e) rfl h.1; cases hu; exact ho
 | ptr id off=>exact dS.one h
 | KP id off=>exact dS.one h
 | La id bG i off=>obtain ⟨_,⟨a,rfl⟩,_⟩:=h; rfl
 | row id bG=>obtain ⟨_,⟨a,n,c,rfl⟩,_⟩:=h; rfl
 | mp id=>obtain ⟨_,⟨r,rfl⟩,_⟩:=h; rfl
 | rows id=>obtain ⟨_,⟨a,n,c,rfl⟩,_⟩:=h; rfl
 | Pn id i=>obtain ⟨_,⟨a,rfl⟩,_⟩:=h; rfl
 | sub id bG i n=>obtain ⟨_,⟨a,n,c,rfl⟩,_⟩:=h; rfl
 | xo id bG i j off=>obtain ⟨_,⟨a,rfl⟩,_⟩:=h; rfl
 | iM f ids=>obtain ⟨_,us,rfl,_⟩:=h; rfl
 | lR f τ x ids=>obtain ⟨_,u,us,rfl,_⟩:=h; rfl
 | zg T τ x=>obtain ⟨u,rfl,_⟩:=h; rfl
 | mU=>obtain ⟨a,rfl⟩:=h; rfl
 | qD=>rw [show v=_ from h]; rfl
 | top=>exact h
theorem ED {τ:Ty} {d:DC} {v:Value} {x:τ.den} (h:RC P Y S w heap ρ d v) (hx:xp τ d=some x):R P τ S w x [v]:=by
 by_cases ho:τ = .vl
 ·subst ho
  have hy:d ≠ .jI:=fun e=>by subst e; cases hx
  exact ⟨v,rfl,RC.cell hy h⟩
 cases d with
 | pc σ y =>
  have hx:cH τ y=some x:=by cases τ <;> first | exact absurd rfl ho | exact hx
  obtain ⟨rfl,rfl⟩:=bY hx
  exact h.2
 | own id bG e s =>
  have hx:cH (σ:=.sl e) τ s=some x:=by cases τ <;> first | exact absurd rfl ho | exact hx
  obtain ⟨rfl,rfl⟩:=bY hx
  exact h.1
 | mU =>
  cases τ with
  | sl e =>
   simp only [xp,Option.some.injEq] at hx
   subst hx
   obtain ⟨a,rfl⟩:=h
   exact .inl ⟨rfl,_,_,rfl⟩
  | vl=>exact absurd rfl ho
  | _=>cases hx
 | _=>cases τ <;> first | exact absurd rfl ho | cases hx
theorem fN:∀ {τ:Ty} {ds:List DC} {us:List Value} {x:τ.den},RL (RC P Y S w heap ρ) ds us->eV τ ds=some x->R P τ S w x us
 | .nil,[],us,x,h,hx=>by
  have:=h.1
  cases us with
  | nil=>rfl
  | cons u us=>cases this
 | .cons h t,d :: ds,us,x,hr,hx=>by
  cases us with
  | nil=>have:=hr.1; cases this
  | cons u us =>
   obtain ⟨h1,h2⟩:=hr.of_cons
   simp only [eV] at hx
   cases h3:xp h d with
   | none=>rw [h3] at hx; simp at hx
   | some y =>
    cases h4:eV t ds with
    | none=>rw [h3,h4] at hx; simp at hx
    | some z =>
     rw [h3,h4] at hx
     simp only [Option.some.injEq] at hx
     subst hx
     exact ⟨u,us,rfl,ED h1 h3,fN h2 h4⟩
 | .nil,d :: ds,us,x,h,hx=>by cases hx
 | .cons _ _,[],us,x,h,hx=>by cases hx
 | .int _,ds,us,x,h,hx=>by cases ds <;> cases hx
 | .bool,ds,us,x,h,hx=>by cases ds <;> cases hx
 | .sl _,ds,us,x,h,hx=>by cases ds <;> cases hx
 | .ptr _,ds,us,x,h,hx=>by cases ds <;> cases hx
 | .agg _,ds,us,x,h,hx=>by cases ds <;> cases hx
 | .fn _ _,ds,us,x,h,hx=>by cases ds <;> cases hx
 | .seq _,ds,us,x,h,hx=>by cases ds <;> cases hx
 | .map _ _,ds,us,x,h,hx=>by cases ds <;> cases hx
 | .vl,ds,us,x,h,hx=>by cases ds <;> cases hx
theorem kO {τ:Ty} {d:Slot} {v:Value} {x:τ.den} (h:RS P Y S w heap ρ d v) (hx:ej τ d=some x):R P τ S w x [v]:=by
 cases d with
 | v d =>
  have hx:xp τ d=some x:=by cases τ <;> exact hx
  exact ED h hx
 | agg ds =>
  cases τ with
  | agg e =>
   obtain ⟨us,h1,h2⟩:=h
   have:=fN (τ:=e) (x:=x) h2 hx
   exact ⟨us,by rw [h1],this,this.len⟩
  | _=>cases hx
 | tup σ y=>cases τ <;> cases hx
 | ta b=>cases τ <;> cases hx
 | pr ds σ y=>cases τ <;> cases hx
 | un=>cases τ <;> cases hx
 | top=>cases τ <;> cases hx
theorem fO:∀ {τ:Ty} {ds:List Slot} {us:List Value} {x:τ.den},ds.length=us.length->(∀ (j:Nat) (d:Slot) (u:Value),ds[j]? = some d->us[j]? = some u->RS P Y S w heap ρ d u) ->
  ef τ ds=some x->R P τ S w x us
 | .nil,[],us,x,hl,h,hx=>by
  cases us with
  | nil=>rfl
  | cons u us=>cases hl
 | .cons h t,d :: ds,us,x,hl,hr,hx=>by
  cases us with
  | nil=>cases hl
  | cons u us =>
   simp only [ef] at hx
   cases h3:ej h d with
   | none=>rw [h3] at hx; simp at hx
   | some y =>
    cases h4:ef t ds with
    | none=>rw [h3,h4] at hx; simp at hx
    | some z =>
     rw [h3,h4] at hx
     simp only [Option.some.injEq] at hx
     subst hx
     exact ⟨u,us,rfl,kO (hr 0 _ _ rfl rfl) h3,fO (by simpa using hl) (fun j d' u' h1 h2=>hr (j + 1) _ _ (by simpa using h1) (by simpa using h2)) h4⟩
 | .nil,d :: ds,us,x,_,h,hx=>by cases hx
 | .cons _ _,[],us,x,_,h,hx=>by cases hx
 | .int _,ds,us,x,_,h,hx=>by cases ds <;> cases hx
 | .bool,ds,us,x,_,h,hx=>by cases ds <;> cases hx
 | .sl _,ds,us,x,_,h,hx=>by cases ds <;> cases hx
 | .ptr _,ds,us,x,_,h,hx=>by cases ds <;> cases hx
 | .agg _,ds,us,x,_,h,hx=>by cases ds <;> cases hx
 | .fn _ _,ds,us,x,_,h,hx=>by cases ds <;> cases hx
 | .seq _,ds,us,x,_,h,hx=>by cases ds <;> cases hx
 | .map _ _,ds,us,x,_,h,hx=>by cases ds <;> cases hx
 | .vl,ds,us,x,_,h,hx=>by cases ds <;> cases hx
theorem tZ (v:Value) (h1:v.oneCell'=true):RC P Y S w heap ρ (vq v) v:=by
 unfold vq
 split
 ·exact ⟨rfl,rfl⟩
 ·exact ⟨rfl,rfl⟩
 ·exact ⟨_,rfl⟩
 ·rfl
 ·exact h1
theorem nS (v:Value):RS P Y S w heap ρ (mW v) v:=by
 unfold mW
 split
 ·rename_i cs
  split
  ·rename_i hall
   rw [List.all_eq_true] at hall
   refine ⟨cs.toList,by simp,by simp,fun j d u h1 h2=>?_⟩
   rw [List.getElem?_map,h2] at h1
   simp only [Option.map_some,Option.some.injEq] at h1
   subst h1
   exact tZ u (hall u (List.mem_of_getElem? h2))
  ·trivial
 ·split
  ·rename_i h1; exact tZ _ h1
  ·trivial
theorem xB (hΓ:Sound P Γ) (h:SR P N G s a w ρ S F) (x:Operand):RS P G.Y S w s.heap ρ (val Γ s.env x) (a.eval x):=by
 cases x with
 | tmp t=>exact h.env t
 | const v=>exact nS v
 | global g=>trivial
 | func f =>
  simp only [val]
  cases hf:Γ f with
  | none=>trivial
  | some c =>
   cases c with
   | pure c=>exact ⟨rfl,aQ.fn (hΓ f _ hf).1 (hΓ f _ hf).2⟩
   | gen app=>exact ⟨(hΓ f _ hf).1,[],rfl,trivial⟩
   | _=>trivial
theorem eX (hΓ:Sound P Γ) (h:SR P N G s a w ρ S F) (l:List Operand) (j:Nat) (d:Slot) (u:Value) (h1:(l.map (val Γ s.env))[j]? = some d) (h2:(l.map a.eval)[j]? = some u):RS P G.Y S w s.heap ρ d u:=by
 rw [List.getElem?_map] at h1 h2
 cases hx:l[j]? with
 | none=>rw [hx] at h1; cases h1
 | some x=>rw [hx] at h1 h2; cases h1; cases h2; exact xB hΓ h x
end
end Go.Dm
namespace Go.Dm
open Go.RowKit
variable {P:Program} {N:Nat} {G:Gh} {S S':CS} {w w':World} {s:St} {a:Act} {ρ ρ':fA} {F F':Nat->Prop} {heap heap':Nat->bu} {Y:Value} {E:cg} {Γ:Ctx}
theorem vC {τ:Ty}:∀ {ds:List DC} {xs:List τ.den},uni τ ds=some xs->∀ o,o < ds.length->∀ y,ds[o]? = some (.pc τ (xs.getD o y))
 | [],xs,h,o,ho,y=>absurd ho (by simp)
 | d :: ds,xs,h,o,ho,y=>by
  cases d with
  | pc σ x =>
   simp only [uni] at h
   cases h1:cH τ x with
   | none=>rw [h1] at h; simp at h
   | some y1 =>
    cases h2:uni τ ds with
    | none=>rw [h1,h2] at h; simp at h
    | some ys =>
     rw [h1,h2] at h
     simp only [Option.some.injEq] at h
     subst h
     obtain ⟨rfl,rfl⟩:=bY h1
     cases o with
     | zero=>rfl
     | succ o=>simpa using vC h2 o (by simpa using ho) y
  | _=>cases h
theorem Lk (ds:List DC) (o:Nat) (ho:o < ds.length):ds[o]? = some (cellAt ds o):=by
 have gen:ds[o]? = some (ds.getD o .top):=by rw [List.getD_eq_getElem?_getD,List.getElem?_eq_getElem ho]; rfl
 unfold cellAt
 split
 ·rename_i τ x r
  split
  ·rename_i xs hu; exact vC hu o ho x
  ·exact gen
 ·exact gen
theorem DK {rc:DC->Value->Prop} {ds:List DC} {us:List Value} (h:RL rc ds us) {o:Nat} {u:Value} (hu:us[o]? = some u):rc (cellAt ds o) u:=by
 have hl:o < us.length:=(List.getElem?_eq_some_iff.1 hu).1
 exact h.2 o _ _ (Lk ds o (by rw [h.1]; exact hl)) hu
theorem qH {t : TypeId} {ds : List DC} {o : Nat} {rh : List Nat} {e : mV} {us : List Value} (h : RL (RC P Y S w heap ρ) ds us) (hv : (viewAt P t ds o rh).run id = some e) :
    ∃ sl, e = ⟨some sl, [], rh, true, none⟩ ∧ ∃ n, cy P t = some n ∧
      ((cv P t = some true ∧ o + n ≤ us.length ∧ RS P Y S w heap ρ sl (.agg ((us.drop o).take n).toArray)) ∨
       (cv P t = some false ∧ ∃ u, us[o]? = some u ∧ RS P Y S w heap ρ sl u)) := by
  unfold viewAt at hv
  cases hn : cy P t with
  | none => rw [hn] at hv; cases hv
  | some n =>
    rw [hn] at hv
    cases ha : cv P t with
    | none => rw [ha] at hv; cases hv
    | some b =>
      rw [ha] at hv
      cases b with
      | true =>
        simp only [kN, Br.run, er, bad] at hv
        cases hd : decide (o + n ≤ ds.length) with
        | false => rw [hd] at hv; cases hv
        | true =>
          rw [hd] at hv
          have hle : o + n ≤ ds.length := by simpa using hd
          cases hv
          refine ⟨_, rfl, n, rfl, .inl ⟨rfl, by rw [← h.1]; exact hle, _, rfl, by simp [h.1] at *; omega, fun j d u h1 h2 => ?_⟩⟩
          rw [List.getElem?_take] at h2
          split at h2
          · rename_i hj
            rw [List.getElem?_drop] at h2
            simp [hj] at h1
            subst h1
            exact DK h h2
          · cases h2
      | false =>
        simp only [kN, Br.run, er, bad] at hv
        cases hd : decide (o < ds.length) with
        | false => rw [hd] at hv; cases hv
        | true =>
          rw [hd] at hv
          have hlt : o < us.length := by rw [← h.1]; simpa using hd
          cases hv
          exact ⟨_, rfl, n, rfl, .inr ⟨rfl, us[o], List.getElem?_eq_getElem hlt, DK h (List.getElem?_eq_getElem hlt)⟩⟩
theorem Io {t:TypeId} (h:cv P t=some true):∃ d,P.underlying t=some d/\d.isRow=true:=by
 unfold cv at h
 split at h
 ·rename_i hu; exact ⟨_,hu,rfl⟩
 ·rename_i hu; exact ⟨_,hu,rfl⟩
 ·cases h
 ·cases h
theorem xC {t:TypeId} {b:Bool} (h:cv P t=some b) (w:World):(isAgg t).run P w = .ok b w:=by
 unfold cv at h
 unfold isAgg
 rw [Sem.run_bind]
 split at h
 ·rename_i hu; cases h; rw [run_underlying hu w]; rfl
 ·rename_i hu; cases h; rw [run_underlying hu w]; rfl
 ·rename_i d hu1 hu2 hu
  cases h
  rw [run_underlying hu w]
  cases d <;> first | rfl | (exact absurd rfl (hu1 _)) | (exact absurd rfl (hu2 _ _))
 ·cases h
theorem fc {t:TypeId} {n:Nat} (h:cy P t=some n) (w:World):(sizeOf t).run P w = .ok n w:=by
 unfold cy at h
 cases hi:P.info? t with
 | none=>rw [hi] at h; cases h
 | some i=>rw [hi] at h; cases h; simp [sizeOf,typeInfo,hi]
theorem AY {t:TypeId} {n:Nat} (ha:cv P t=some true) (hn:cy P t=some n) {b o:Nat} {cs:List Value} (hc:∀ (j:Nat) (v:Value),cs[j]? = some v->w.cell? ⟨b,o + j,none⟩=some v) (hl:cs.length=n) :
  (Instr.loadAt t (.pointer (some ⟨b,o,none⟩))).run P w = .ok (.agg cs.toArray) w:=by
 obtain ⟨d,hu,hd⟩:=Io ha
 exact run_loadAt_mid w b o t cs d hc hu hd (by rw [hl]; exact hn)
theorem Ip {t:TypeId} (ha:cv P t=some false) {b o:Nat} {v:Value} (hc:w.cell? ⟨b,o,none⟩=some v) :
  (Instr.loadAt t (.pointer (some ⟨b,o,none⟩))).run P w = .ok v w:=by
 simp only [Instr.loadAt,Instr.sureAddr,loadVar,Sem.run_bind,Sem.run_pure,Result.andThen_ok,xC ha w]
 simp [hc]
theorem AZ {t:TypeId} {n o:Nat} (ha:cv P t=some true) (hn:cy P t=some n) {cs:List Value} :
  (part t cs.toArray o).run P w = .ok (.agg ((cs.drop o).take n).toArray) w:=by
 simp only [part,Sem.run_bind,xC ha w,Result.andThen_ok,if_true,fc hn w,Sem.run_pure]
 congr 2
 apply Array.ext'
 simp [List.take_drop]
theorem vD {t:TypeId} {o:Nat} (ha:cv P t=some false) {cs:List Value} {v:Value} (hv:cs[o]? = some v) :
  (part t cs.toArray o).run P w = .ok v w:=by
 simp [part,xC ha w,hv]
theorem qI {b:Nat} {arr:Array Value} {T:TypeId} {fr:Nat×Nat} (h:w.heap[b]? = some (.cells arr T fr)) (j:Nat) (v:Value) (hv:arr.toList[j]? = some v):w.cell? ⟨b,j,none⟩=some v:=by
 rw [cell_of_row w b j arr T fr h]; simpa using hv
def SRE (P:Program) (N:Nat) (G:Gh) (o:Oper) (s:St) (e:mV) (a':Act) (w':World):Prop:=∃ ρ' S' F',SR P N G (s.er o.dst e) a' w' ρ' S' F'
def sZ (P:Program) (N:Nat) (G:Gh) (o:Oper) (s:St) (e:mV) (a':Act) (w':World):Prop:=e.tr=none/\SRE P N G o s e a' w'
theorem bt {o:Oper} {Q:Exit->Act->World->Prop} (h:SR P N G s a w ρ S F) (hd:o.dst.all (Nat.blt · N)=true) {v:Value} {sl:Slot} {rh:List Nat}
  (hr:(execOp a.eval o).run P w = .ok (.value v) w) (hs:RS P G.Y S w s.heap ρ sl v) :
  o.wp P a w (sZ P N G o s ⟨some sl,[],rh,true,none⟩) Q:=by
 unfold Oper.wp
 rw [hr]
 exact ⟨rfl,ρ,S,F,(h.put hd hs).of_eq rfl rfl rfl rfl⟩
theorem qJ {o:Oper} {Q:Exit->Act->World->Prop} (h:SR P N G s a w ρ S F) (hd:o.dst.all (Nat.blt · N)=true) {t:TypeId} {x:Operand} (hop:o.op = .load t x)
  {b off:Nat} (hx:a.eval x = .pointer (some ⟨b,off,none⟩)) {us:List Value} {ds:List DC} {o1:Nat} (hr:RL (RC P G.Y S w s.heap ρ) ds us) {b0:Nat} (hoff:off=b0 + o1)
  (hm:∀ (j:Nat) (v:Value),us[j]? = some v->w.cell? ⟨b,b0 + j,none⟩=some v) {rh:List Nat} {e:mV} (hv:(viewAt P t ds o1 rh).run id=some e) :
  o.wp P a w (sZ P N G o s e) Q:=by
 obtain ⟨sl,rfl,n,hn,h1 | h1⟩:=qH hr hv
 ·obtain ⟨ha,hle,hs⟩:=h1
  refine bt h hd (v:=.agg ((us.drop o1).take n).toArray) ?_ hs
  simp only [execOp,hop,hx]
  rw [Sem.run_bind,AY ha hn (cs:=(us.drop o1).take n) (fun j v hj=>?_) (by simp; omega)]
  ·rfl
  ·rw [List.getElem?_take] at hj
   split at hj
   ·rw [List.getElem?_drop] at hj
    have:=hm _ _ hj
    rw [hoff,Nat.add_assoc]; exact this
   ·cases hj
 ·obtain ⟨ha,u,hu,hs⟩:=h1
  refine bt h hd (v:=u) ?_ hs
  simp only [execOp,hop,hx]
  rw [Sem.run_bind,Ip ha (by rw [hoff]; exact hm _ _ hu)]
  rfl
end Go.Dm
namespace Go.Dm
open Go.RowKit
variable {P:Program} {N:Nat} {G:Gh} {S S':CS} {w w':World} {s:St} {a:Act} {ρ ρ':fA} {F F':Nat->Prop} {heap heap':Nat->bu} {Y:Value} {E:cg} {Γ:Ctx}
theorem vE {v:Value} (h:v.oneCell'=true):v.cells = #[v]:=by cases v <;> first | rfl | cases h
theorem gq (hY:Y.oneCell'=true) {sl:Slot} {v:Value} {cs:List DC} (h:RS P Y S w heap ρ sl v) (hc:dI sl=some cs):RL (RC P Y S w heap ρ) cs v.cells.toList:=by
 cases sl with
 | v d =>
  cases hc
  rw [vE (RC.jV hY h)]
  exact .cons h .nil
 | agg ds =>
  cases hc
  obtain ⟨us,rfl,h2⟩:=h
  simpa [Value.cells] using h2
 | tup τ x=>cases hc
 | ta b=>cases hc
 | pr ds τ x=>cases hc
 | un=>cases hc
 | top=>cases hc
theorem sw (hG:G.Ok P) {o:Oper} {Q:Exit->Act->World->Prop} (h:SR P N G s a w ρ S F) (hd:o.dst.all (Nat.blt · N)=true) {id:Nat} (hn:s.heap id = .none) (hlo:G.lo<=id)
  {ob:Obj} {dob:bu} {v:Value} {dc:DC} (hv:∀ (h':Nat->bu) (ρ':fA) w',h' id=dob->ρ' id=some w.heap.size->w'.heap[w.heap.size]? = some ob->RC P G.Y S w' h' ρ' dc v)
  (hr:OI P G S (w.alloc ob) (aE s.heap id dob) (fun i=>if i=id then some w.heap.size else ρ i) F id dob)
  (hrun:(execOp a.eval o).run P w = .ok (.value v) (w.alloc ob)) {rh:List Nat}
  (hnr:tY dob=false\/∀ b,Own (w.alloc ob) (fun i=>if i=id then some w.heap.size else ρ i) id dob b->b=w.heap.size:=by exact .inl rfl) :
  o.wp P a w (sZ P N G o s ⟨some (.v dc),[(id,dob)],rh,true,none⟩) Q:=by
 unfold Oper.wp
 rw [hrun]
 have q:=(h.alloc hG hn hlo ob hr hnr).put hd (sl:=.v dc) (v:=v) (hv _ _ _ (by simp [aE]) (by simp) (heap_alloc_new w ob))
 exact ⟨rfl,_,S,F,q.of_eq rfl rfl rfl rfl⟩
theorem Kept.fresh {id:Nat} {o:bu} (h:SR P N G s a w ρ S F) (hn:s.heap id = .none) (ob:Obj) :
  ∀ j,Kept w (w.alloc ob) ρ (fun i=>if i=id then some w.heap.size else ρ i) j (s.heap j) (aE s.heap id o j):=fun j=>by
 by_cases hj:j=id
 ·subst hj; rw [hn]; trivial
 ·simp only [aE,bF hj,cond_false]
  exact .refl (by simp [hj]) fun b hb hl=>(gO w ob).block b (h.eG hl hb).1
theorem Pu (hG:G.Ok P) {o:Oper} {Q:Exit->Act->World->Prop} (h:SR P N G s a w ρ S F) (hd:o.dst.all (Nat.blt · N)=true) {id:Nat} (hn:s.heap id = .none) (hlo:G.lo<=id)
  {arr:Array Value} {T:TypeId} {ds:List DC} (hr:RL (RC P G.Y S w s.heap ρ) ds arr.toList)
  (hrun:(execOp a.eval o).run P w = .ok (.value (.pointer (some ⟨w.heap.size,0,none⟩))) (w.alloc (.cells arr T))) {rh:List Nat} :
  o.wp P a w (sZ P N G o s ⟨some (.v (.ptr id 0)),[(id,.box ds)],rh,true,none⟩) Q:=by
 refine sw hG h hd hn hlo (dc:=.ptr id 0) (v:=.pointer (some ⟨w.heap.size,0,none⟩)) (dob:=.box ds) (fun h1 r1 w1 h2 h3 _=>⟨by rw [h2]; simp,⟨_,rfl⟩,fun ds1 _=>⟨_,h3,rfl⟩⟩) ?_ hrun
 have ex:=kF h.bd (.cells arr T)
 exact ⟨w.heap.size,arr,T,by simp,vn.new h,heap_alloc_new w _,hr.imp fun d u hd=>hd.tr ex.toExt0 (Kept.fresh h hn _),fun o hS=>absurd (h.bd _ _ hS) (by omega)⟩
theorem qK {t:TypeId} {cs:List DC} (h:fW P t=some cs):∃ i z,P.info? t=some i/\i.zero=some z/\∀ {w:World} {S:CS} {heap:Nat->bu} {ρ:fA} {Y:Value},Y.oneCell'=true->RL (RC P Y S w heap ρ) cs z.cells.toList:=by
 unfold fW at h
 cases hi:P.info? t with
 | none=>rw [hi] at h; cases h
 | some i =>
  rw [hi] at h
  cases hz:i.zero with
  | none=>simp [hz] at h
  | some z =>
   simp [hz] at h
   exact ⟨i,z,rfl,hz,fun hY=>gq hY (nS z) h⟩
theorem De (L:List Value) (p:Nat) (c:Value) (h:p < L.length):(L.set p c).take (p + 1)=L.take p ++ [c]:=by
 rw [List.set_eq_take_append_cons_drop,if_pos h,List.take_append]
 have:(L.take p).length=p:=by simp; omega
 simp [this,List.take_take]
theorem Df (L:List Value) (p m:Nat) (c:Value) (h:p < m):(L.set p c).drop m=L.drop m:=by
 rw [List.drop_set_of_lt h]
theorem DL (off:Nat):∀ (l:List Value) (k:Nat) (cells:Array Value),off + k + l.length<=cells.size ->
  ((l.zipIdx k).foldl (fun cs (x:Value×Nat)=>cs.setIfInBounds (off + x.2) x.1) cells).toList=cells.toList.take (off + k) ++ l ++ cells.toList.drop (off + k + l.length)
 | [],k,cells,_=>by simp
 | c :: l,k,cells,h=>by
  simp only [List.zipIdx_cons,List.foldl_cons]
  rw [DL off l (k + 1) _ (by simp at h ⊢; omega)]
  have hk:off + k < cells.size:=by simp at h; omega
  rw [Array.toList_setIfInBounds,show off + (k + 1)=off + k + 1 from rfl,De _ _ _ (by simpa using hk),Df _ _ _ _ (by omega)]
  simp only [List.append_assoc,List.cons_append,List.length_cons]
  rw [show off + k + 1 + l.length=off + k + (l.length + 1) by omega]
  rfl
theorem zP {rc:DC->Value->Prop} {place:Nat->Option (Nat×Nat)}:∀ {parts:List (Nat×Slot)} {vs:List (Nat×Value)} {ds cs:List DC} {arr:Array Value},
  RL rc ds arr.toList->parts.length=vs.length->(∀ (j:Nat) (p:Nat×Slot) (q:Nat×Value),parts[j]? = some p->vs[j]? = some q->p.1=q.1/\∀ cs,dI p.2=some cs->RL rc cs q.2.cells.toList) ->
  yq place ds parts=some cs->∃ gA,Instr.fill place arr vs=some gA/\RL rc cs gA.toList
 | [],[],ds,cs,arr,h,_,_,hf=>by cases hf; exact ⟨arr,rfl,h⟩
 | (i,sl) :: ps,(i',v) :: vs,ds,cs,arr,h,hl,hp,hf=>by
  obtain ⟨hi,hc⟩:=hp 0 _ _ rfl rfl
  simp only at hi
  subst hi
  simp only [yq] at hf
  cases ql:place i with
  | none=>rw [ql] at hf; simp at hf
  | some os =>
   obtain ⟨off,size⟩:=os
   cases hs:dI sl with
   | none=>rw [ql,hs] at hf; simp at hf
   | some cs0 =>
    rw [ql,hs] at hf
    simp only at hf
    cases hd:decide (cs0.length=size/\off + cs0.length<=ds.length) with
    | false=>rw [hd] at hf; simp at hf
    | true =>
     rw [hd] at hf
     obtain ⟨h1,h2⟩:=of_decide_eq_true hd
     have hr:=hc _ hs
     have hvl:v.cells.size=size:=by rw [<- h1,hr.1]; simp
     have hdl:ds.length=arr.size:=by rw [h.1]; simp
     simp only at hf
     have hst:=DL off v.cells.toList 0 arr (by simp; omega)
     have cS:(v.cells.zipIdx.foldl (fun cs (c,j)=>cs.setIfInBounds (off + j) c) arr).toList=arr.toList.take off ++ v.cells.toList ++ arr.toList.drop (off + v.cells.toList.length):=by
      rw [Nat.add_zero] at hst
      rw [<- hst,<- Array.foldl_toList,Array.toList_zipIdx]
     refine (zP (ds:=splice ds off cs0) (arr:=v.cells.zipIdx.foldl (fun cs (c,j)=>cs.setIfInBounds (off + j) c) arr) ?_ (by simpa using hl) (fun j p q h1 h2=>hp (j + 1) p q (by simpa using h1) (by simpa using h2)) hf).imp fun gA hx=>⟨?_,hx.2⟩
     ·rw [cS]
      have:=((h.take off).append hr).append (h.drop (off + cs0.length))
      unfold splice
      rw [<- hr.1]
      exact this
     ·simp only [Instr.fill,ql]
      rw [if_neg (by simp [hvl]; omega)]
      exact hx.1
 | [],_ :: _,_,_,_,_,hl,_,_=>by cases hl
 | _ :: _,[],_,_,_,_,hl,_,_=>by cases hl
theorem Ba:∀ (l:List Field),(l.all fun f=>(cy P f.type).isSome)=true ->
  ∃ pl:List (Nat×Nat),(l.mapM (m:=Sem) fun f=>do pure (f.offset,<- sizeOf f.type)).run P w = .ok pl w/\∀ i:Nat,pl[i]? = (l[i]?).bind fun f=>(cy P f.type).map fun n=>(f.offset,n)
 | [],_=>⟨[],rfl,by simp⟩
 | f :: l,h=>by
  simp only [List.all_cons,Bool.and_eq_true] at h
  obtain ⟨pl,h1,h2⟩:=Ba l h.2
  obtain ⟨n,hn⟩:=Option.isSome_iff_exists.1 h.1
  refine ⟨(f.offset,n) :: pl,?_,fun i=>?_⟩
  ·simp only [List.mapM_cons,Sem.run_bind,fc hn,Result.andThen_ok,Sem.run_pure,h1]
  ·cases i with
   | zero=>simp [hn]
   | succ i=>simpa using h2 i
theorem Sw (hY:Y.oneCell'=true) {t:TypeId} {parts:List (Nat×Slot)} {vs:Array (Nat×Value)} {cs:List DC}
  (hl:parts.length=vs.size) (hp:∀ (j:Nat) (p:Nat×Slot) (q:Nat×Value),parts[j]? = some p->vs.toList[j]? = some q->p.1=q.1/\∀ cs,dI p.2=some cs->RL (RC P Y S w heap ρ) cs q.2.cells.toList)
  (h:Lb P t parts=some cs):∃ arr:Array Value,(Instr.build t vs).run P w = .ok (.agg arr) w/\RL (RC P Y S w heap ρ) cs arr.toList:=by
 unfold Lb at h
 cases hz:fW P t with
 | none=>rw [hz] at h; cases h
 | some z =>
  rw [hz] at h
  obtain ⟨i,zv,hi,DM,hzr⟩:=qK hz
  simp only [Option.bind_some] at h
  cases hu:P.underlying t with
  | none=>rw [hu] at h; cases h
  | some d =>
   rw [hu] at h
   cases d with
   | struct fs =>
    simp only at h
    split at h
    ·rename_i hall
     obtain ⟨arr,h1,h2⟩:=zP (vs:=vs.toList) (hzr (w:=w) (S:=S) (heap:=heap) (ρ:=ρ) hY) (by simpa using hl) hp h
     refine ⟨arr,?_,h2⟩
     obtain ⟨pl,p1,p2⟩:=Ba (P:=P) (w:=w) fs.toList hall
     have ql:(fun i=>pl.toArray[i]?)=places P fs:=by
      funext i
      rw [List.getElem?_toArray,p2 i,Array.getElem?_toList]; rfl
     simp only [Instr.build,zeroValue,typeInfo,Sem.run_bind,run_program,Result.andThen_ok,hi,DM,run_underlying hu,Sem.run_pure,Array.mapM_eq_mapM_toList,Sem.run_map,p1,ql,h1]
    ·cases h
   | array n e =>
    simp only at h
    cases hn:cy P e with
    | none=>rw [hn] at h; cases h
    | some k =>
     rw [hn] at h
     simp only [Option.bind_some] at h
     obtain ⟨arr,h1,h2⟩:=zP (vs:=vs.toList) (hzr (w:=w) (S:=S) (heap:=heap) (ρ:=ρ) hY) (by simpa using hl) hp h
     refine ⟨arr,?_,h2⟩
     simp [Instr.build,zeroValue,typeInfo,hi,DM,run_underlying hu,fc hn,h1]
   | _=>cases h
theorem Iq (hΓ:Sound P Γ) (h:SR P N G s a w ρ S F) (ps:Array (Nat×Operand)) (j:Nat) (p:Nat×Slot) (q:Nat×Value)
  (h1:(ps.toList.map fun p=>(p.1,val Γ s.env p.2))[j]? = some p) (h2:(ps.map fun (i,x)=>(i,a.eval x)).toList[j]? = some q) :
  p.1=q.1/\∀ cs,dI p.2=some cs->RL (RC P G.Y S w s.heap ρ) cs q.2.cells.toList:=by
 rw [List.getElem?_map] at h1
 rw [Array.toList_map,List.getElem?_map] at h2
 cases hp:ps.toList[j]? with
 | none=>rw [hp] at h1; cases h1
 | some x =>
  rw [hp] at h1 h2
  cases h1; cases h2
  exact ⟨rfl,fun cs hc=>gq G.jS (xB hΓ h x.2) hc⟩
theorem Ll:∀ {τ:Ty} {x:τ.den} {us:List Value} {n:Nat} {u:Value},R P τ S w x us->us[n]? = some u->RS P Y S w heap ρ (nth τ x n) u
 | .cons h t,x,us,0,u,hr,hu=>by
  obtain ⟨v,ws,rfl,h2,h3⟩:=hr
  cases hu
  exact xA h2
 | .cons h t,x,us,n + 1,u,hr,hu=>by
  obtain ⟨v,ws,rfl,h2,h3⟩:=hr
  show RS P Y S w heap ρ (nth t _ n) u
  exact Ll (τ:=t) h3 (by simpa using hu)
 | .int _,_,_,n,_,_,_=>by cases n <;> exact True.intro
 | .bool,_,_,n,_,_,_=>by cases n <;> exact True.intro
 | .sl _,_,_,n,_,_,_=>by cases n <;> exact True.intro
 | .ptr _,_,_,n,_,_,_=>by cases n <;> exact True.intro
 | .agg _,_,_,n,_,_,_=>by cases n <;> exact True.intro
 | .nil,_,_,n,_,_,_=>by cases n <;> exact True.intro
 | .fn _ _,_,_,n,_,_,_=>by cases n <;> exact True.intro
 | .seq _,_,_,n,_,_,_=>by cases n <;> exact True.intro
 | .map _ _,_,_,n,_,_,_=>by cases n <;> exact True.intro
 | .vl,_,_,n,_,_,_=>by cases n <;> exact True.intro
theorem EE:∀ {τ:Ty} {x:τ.den} {us:List Value} {n:Nat},R P τ S w x us->us[n]? = none->nth τ x n = .top
 | .cons h t,x,us,0,hr,hu=>by
  obtain ⟨v,ws,rfl,h2,h3⟩:=hr
  cases hu
 | .cons h t,x,us,n + 1,hr,hu=>by
  obtain ⟨v,ws,rfl,h2,h3⟩:=hr
  show nth t _ n = .top
  exact EE (τ:=t) h3 (by simpa using hu)
 | .int _,_,_,n,_,_=>by cases n <;> rfl
 | .bool,_,_,n,_,_=>by cases n <;> rfl
 | .sl _,_,_,n,_,_=>by cases n <;> rfl
 | .ptr _,_,_,n,_,_=>by cases n <;> rfl
 | .agg _,_,_,n,_,_=>by cases n <;> rfl
 | .nil,_,_,n,_,_=>by cases n <;> rfl
 | .fn _ _,_,_,n,_,_=>by cases n <;> rfl
 | .seq _,_,_,n,_,_=>by cases n <;> rfl
 | .map _ _,_,_,n,_,_=>by cases n <;> rfl
 | .vl,_,_,n,_,_=>by cases n <;> rfl
theorem EF:∀ {τ:Ty} {n:Nat} {x:τ.den} {us:List Value},τ.flat=true->n<=τ.cells->R P τ S w x us->R P (qE τ n) S w (AK τ n x) (us.drop n)/\(qE τ n).flat=true/\(qE τ n).cells + n=τ.cells
 | .nil,0,x,us,hf,_,h=>⟨by simpa [qE,AK] using h,hf,rfl⟩
 | .cons h t,0,x,us,hf,_,hr=>⟨by simpa [qE,AK] using hr,hf,rfl⟩
 | .cons h t,n + 1,x,us,hf,hn,hr=>by
  obtain ⟨v,ws,rfl,h2,h3⟩:=hr
  simp only [Ty.flat,Bool.and_eq_true] at hf
  obtain ⟨q1,q2,q3⟩:=EF (n:=n) hf.2 (by simpa [Ty.cells] using hn) h3
  exact ⟨by simpa [qE,AK] using q1,q2,by simp only [qE,Ty.cells]; omega⟩
 | .nil,n + 1,x,us,hf,hn,_=>by simp [Ty.cells] at hn
 | .int _,_,_,_,hf,_,_=>by cases hf
 | .bool,_,_,_,hf,_,_=>by cases hf
 | .sl _,_,_,_,hf,_,_=>by cases hf
 | .ptr _,_,_,_,hf,_,_=>by cases hf
 | .agg _,_,_,_,hf,_,_=>by cases hf
 | .fn _ _,_,_,_,hf,_,_=>by cases hf
 | .seq _,_,_,_,hf,_,_=>by cases hf
 | .map _ _,_,_,_,hf,_,_=>by cases hf
 | .vl,_,_,_,hf,_,_=>by cases hf
theorem Ir {t:TypeId} {fs:Array Field} {f:Nat} {fd:Field} {n:Nat} (hu:P.underlying t=some (.struct fs)) (hf:fs[f]? = some fd) (hn:cy P fd.type=some (n + 1)) (ad:Addr) :
  (Instr.fieldAt t (.pointer (some ad)) f).run P w = .ok (.pointer (some (ad.add fd.offset))) w:=by
 simp [Instr.fieldAt,run_underlying hu,hf,Instr.sureAddr,fieldPlace,fc hn]
theorem nT {sl:Slot} {v:Value} {τ:Ty} {r:Sl τ.den} (h:RS P Y S w heap ρ sl v) (hr:rowOf sl=some ⟨τ,r⟩):R P (.sl τ) S w r [v]:=by
 cases sl with
 | v d =>
  cases d with
  | pc σ x =>
   cases σ with
   | sl e=>simp only [rowOf,Option.some.injEq] at hr; cases hr; exact h.2
   | _=>cases hr
  | own id bG e s=>simp only [rowOf,Option.some.injEq] at hr; cases hr; exact h.1
  | _=>cases hr
 | _=>cases hr
theorem ads {t:TypeId} {e:TypeId} (hu:P.underlying t=some (.slice e)) (ad:Option Addr) (n c:Nat) (ty:TypeId) :
  (Builtin.len_ #[t] ty #[.slice ad n c]).run P w = .ok (.int .i64 n) w:=by
 simp [Builtin.len_,run_underlying hu,goInt]
theorem VL {τ:Ty} {r:Sl τ.den} {v:Value} (h:R P (.sl τ) S w r [v]):∃ ad c,v = .slice ad r.n c:=by
 rcases h with ⟨hn,a,c,h⟩ | ⟨b,o,cap,h,_⟩
 ·simp only [List.cons.injEq,and_true] at h; exact ⟨a,c,by rw [hn,h]⟩
 ·cases h; exact ⟨_,_,rfl⟩
end Go.Dm
namespace Go.Dm
open Go.RowKit
variable {P:Program} {N:Nat} {G:Gh} {S S':CS} {w w':World} {s:St} {a:Act} {ρ ρ':fA} {F F':Nat->Prop} {heap heap':Nat->bu} {Y:Value} {E:cg} {Γ:Ctx}
def chunk (k i:Nat) (xs:List Value):List Value:=(xs.drop (i * k)).take k
theorem vF {e:Ty} {g:Nat->e.den} {b o:Nat}:∀ (n:Nat),(∀ i,i < n->∃ us,R P e S w (g i) us/\us.length=e.cells/\sY S w b (o + i * e.cells) us) ->
  ∃ xs:List Value,xs.length=n * e.cells/\sY S w b o xs/\∀ i,i < n->R P e S w (g i) (chunk e.cells i xs)
 | 0,_=>⟨[],by simp,fun j v h=>by simp at h,fun i hi=>by omega⟩
 | n + 1,h=>by
  obtain ⟨xs,h1,h2,h3⟩:=vF n (fun i hi=>h i (by omega))
  obtain ⟨us,r1,r2,r3⟩:=h n (by omega)
  refine ⟨xs ++ us,by simp [h1,r2,Nat.add_mul],fun j v hv=>?_,fun i hi=>?_⟩
  ·by_cases hj:j < xs.length
   ·rw [List.getElem?_append_left hj] at hv; exact h2 j v hv
   ·rw [List.getElem?_append_right (by omega)] at hv
    have:=r3 _ v hv
    rwa [show o + n * e.cells + (j - xs.length)=o + j by omega] at this
  ·unfold chunk
   by_cases hin:i < n
   ·have hle:i * e.cells + e.cells<=xs.length:=by rw [h1,<- Nat.succ_mul]; exact Nat.mul_le_mul_right _ hin
    rw [List.drop_append_of_le_length (by omega),List.take_append_of_le_length (by simp; omega)]
    exact h3 i hin
   ·have:i=n:=by omega
    subst this
    rw [<- h1,List.drop_left,List.take_of_length_le (by omega)]
    exact r1
theorem vG {e:Ty} {g:Nat->e.den} {b o n:Nat} {xs:List Value} (hl:xs.length=n * e.cells) (hm:sY S w b o xs) (hr:∀ i,i < n->R P e S w (g i) (chunk e.cells i xs)) :
  ∀ i,i < n->∃ us,R P e S w (g i) us/\us.length=e.cells/\sY S w b (o + i * e.cells) us:=fun i hi=>by
 have hle:i * e.cells + e.cells<=xs.length:=by rw [hl,<- Nat.succ_mul]; exact Nat.mul_le_mul_right _ hi
 refine ⟨chunk e.cells i xs,hr i hi,by simp [chunk]; omega,fun j v hv=>?_⟩
 unfold chunk at hv
 rw [List.getElem?_take] at hv
 split at hv
 ·rw [List.getElem?_drop] at hv
  have:=hm _ v hv
  rwa [<- Nat.add_assoc] at this
 ·cases hv
theorem ua {k i n:Nat} {xs ys:List Value} (hl:xs.length=n * k) (hi:i < n):chunk k i (xs ++ ys)=chunk k i xs:=by
 have hle:i * k + k<=xs.length:=by rw [hl,<- Nat.succ_mul]; exact Nat.mul_le_mul_right _ hi
 unfold chunk
 rw [List.drop_append_of_le_length (by omega),List.take_append_of_le_length (by simp; omega)]
theorem qL {k i n:Nat} {xs ys:List Value} (hl:xs.length=n * k) (hi:n<=i):chunk k i (xs ++ ys)=chunk k (i - n) ys:=by
 unfold chunk
 have:n * k<=i * k:=Nat.mul_le_mul_right _ hi
 rw [List.drop_append,List.drop_of_length_le (by rw [hl]; exact this),List.nil_append,hl,<- Nat.sub_mul]
theorem SR.chain (hG:G.Ok P) (h:SR P N G s a w ρ S F) {id cur' k n':Nat} {T:TypeId} {nb:Option Nat}
  (hid:(s.heap id = .none/\G.lo<=id)\/∃ v n,s.heap id = .chain v T k n/\v < cur')
  (ex:Ext0 S w S' w') (zi:∀ b o,S' b o->S b o\/nb=some b) (hs:dX (fun b=>b < w.heap.size/\nb≠some b) w w')
  (hnb:∀ b,nb=some b->(b=w.heap.size\/(live (s.heap id)/\ρ id=some b))/\b < w'.heap.size/\(∃ c T f,w'.heap[b]? = some (.cells c T f))/\∀ o,S' b o->o < n' * k)
  (hnn:nb=none->n'=0) :
  SR P N G { s with heap:=aE s.heap id (.chain cur' T k n') } a w' (fun i=>if i=id then nb else ρ i) S' F:=by
 have Dd:∀ j b b',j≠id->Own w ρ j (s.heap j) b->nb=some b'->b≠b':=fun j b b' hj Dg hb' e=>by
  subst e
  rcases (hnb b hb').1 with q | ⟨q1,q2⟩
  ·have:=(h.jy Dg).1; omega
  ·exact hj (h.inj j id b Dg (.of q1 q2))
 have hne:∀ j b b',j≠id->live (s.heap j)->ρ j=some b->nb=some b'->b≠b':=fun j b b' hj hl Dg=>Dd j b b' hj (.of hl Dg)
 have jJ:∀ b,nb=some b->vn G F b/\w.heap[b]? ≠ some (.deferred (some [])):=fun b hb=>by
  rcases (hnb b hb).1 with q | ⟨q1,q2⟩
  ·rw [q]; exact ⟨vn.new h,by simp⟩
  ·exact (h.eG q1 q2).2
 have VM:∀ j b,j≠id->Own w ρ j (s.heap j) b->w'.heap[b]? = w.heap[b]? := fun j b hj Dg=>hs.block b ⟨(h.jy Dg).1,fun e=>Dd j b b hj Dg e rfl⟩
 have fU:∀ j b,j≠id->live (s.heap j)->ρ j=some b->w'.heap[b]? = w.heap[b]? := fun j b hj hl Dg=>hs.block b ⟨(h.eG hl Dg).1,fun e=>hne j b b hj hl Dg e rfl⟩
 have hk:∀ j,Kept w w' ρ (fun i=>if i=id then nb else ρ i) j (s.heap j) (aE s.heap id (.chain cur' T k n') j):=fun j=>by
  by_cases hj:j=id
  ·subst hj
   simp only [aE,Nat.beq_refl,cond_true]
   rcases hid with ⟨q,_⟩ | ⟨v,n,q,hv⟩
   ·rw [q]; trivial
   ·rw [q]; exact ⟨cur',n',rfl,by omega,fun e=>by omega⟩
  ·simp only [aE,bF hj,cond_false]
   exact .refl (by simp [hj]) fun b hb hl=>fU j b hj hl hb
 refine ⟨h.size,h.bw.tr hk (fun D hF hD=>⟨(hs.block D ⟨(Array.getElem?_eq_some_iff.1 hD).1,fun e=>(jJ D e).2 hD⟩).trans hD,hF⟩),fun t=>(h.env t).tr ex hk,fun j=>?_,h.su (by simp +contextual) fU (fun b q=>by
   have q:(if id=id then nb else ρ id)=some b:=q
   rw [if_pos rfl] at q
   rcases (hnb b q).1 with q' | ⟨q1,q2⟩
   ·exact .inr (.inl (by omega))
   ·exact .inl (.of q1 q2)),
  h.ext.trans ex,fun b i q=>?_,h.same.trans (hs.mono fun b hb=>⟨Nat.lt_of_lt_of_le hb.1 h.ext.size,fun e=>?_⟩),h.tr.tr hG.c h.fb (hs.mono fun b hb=>⟨h.fb b hb,fun e=>(jJ b e).1.2 hb⟩) ex,
  fun b x=>Nat.lt_of_lt_of_le (h.fb b x) hs.size,h.f0,h.sub,fun b i q x=>?_,fun j b hj=>?_⟩
 ·by_cases hj:j=id
  ·subst hj
   simp only [aE,Nat.beq_refl,cond_true]
   cases alE:nb with
   | none=>exact .inl ⟨by simp,hnn alE⟩
   | some b=>exact .inr ⟨b,by simp,(jJ b alE).1,(hnb b alE).2⟩
  ·simp only [aE,bF hj,cond_false]
   exact (h.obj j).tr ex hk (by simp [hj]) fun b hb=>⟨VM j b hj hb,fun i q=>(zi b i q).elim (fun x=>x) (fun x=>(Dd j b b hj hb x rfl).elim),fun x=>x⟩
 ·rcases zi b i q with q | q
  ·exact h.new b i q
  ·exact .inr (jJ b q).1.1
 ·obtain ⟨h1,h2,_⟩:=hb
  rcases (jJ b e).1.1 with q | q
  ·omega
  ·exact h2 q
 ·rcases zi b i q with q | q
  ·exact h.fs b i q x
  ·exact absurd x (jJ b q).1.2
 ·have hp:=h.pins j b hj
  have zO:j≠id:=fun e=>by
   subst e
   rcases hid with ⟨_,q⟩ | ⟨v,n,q,_⟩
   ·have:=hG.ic j b hj; omega
   ·rw [q] at hp; cases hp.2
  show (if j=id then nb else ρ j)=some b/\gp (aE s.heap id (.chain cur' T k n') j)=false
  rw [if_neg zO]
  simp only [aE,bF zO,cond_false]
  exact hp
theorem Pl.setRow {b:Nat} {arr gA:Array Value} {T:TypeId} {f:Nat×Nat} (hh:w.heap[b]? = some (.cells arr T f)) (hl:gA.size=arr.size):Pl w (w.setRow b gA):=
 .one (b:=b) (by simp [World.setRow]) (Nat.le_refl _) (fun k _ hk=>setRow_other w b k gA hk) fun a T' f' _ hc=>by
  rw [setRow_heap w b arr gA T f hh] at hc
  cases hc
  exact ⟨arr,T,f,hh,hl.symm⟩
theorem Pl.putObj {b:Nat} {o:Obj} (hlt:b < w.heap.size) (ho:∀ arr T f,o ≠ .cells arr T f):Pl w (w.putObj b o):=
 .one (b:=b) (by simp [World.putObj]) (Nat.le_refl _) (fun k _ hk=>World.putObj_heap_other hk) fun a T' f' _ hc=>by
  rw [World.putObj_heap_same hlt] at hc
  exact absurd (Option.some.inj hc) (ho _ _ _)
theorem SR.store (hG:G.Ok P) (h:SR P N G s a w ρ S F) {id:Nat} {ds ds':List DC} (ho:s.heap id = .box ds) {b:Nat} (hb:ρ id=some b) {arr gA:Array Value} {T:TypeId}
  (hh:w.heap[b]? = some (.cells arr T (0,0))) (hl:gA.size=arr.size) (hr:RL (RC P G.Y S w s.heap ρ) ds' gA.toList) :
  SR P N G { s with heap:=aE s.heap id (.box ds') } a (w.setRow b gA) ρ S F:=by
 have cK:=h.obj id
 rw [ho] at cK
 obtain ⟨b',qx,T0,h1,h2,h3,h4,h5⟩:=cK
 rw [hb] at h1; cases h1
 have fU:∀ k,k≠b->(w.setRow b gA).heap[k]? = w.heap[k]? := fun k hk=>setRow_other w b k gA hk
 have hsz:(w.setRow b gA).heap.size=w.heap.size:=by simp [World.setRow]
 have ex:Ext0 S w S (w.setRow b gA):=⟨by omega,fun _ _ x=>x,fun b' o hS=>World.cell?_of_block (a:=⟨b',o,none⟩) (fU b' (fun e=>h5 o (e ▸ hS))),fun b' o es c hS hm=>(fU b' (fun e=>h5 o (e ▸ hS))).trans hm,fun b' o hS=>by rw [hsz]; exact h.bd b' o hS,.setRow hh hl⟩
 refine h.Lj hG (by rw [ho]; trivial) hb ex ⟨rfl,rfl,rfl,by omega,fun k hk=>fU k hk.2⟩ hsz (fun _ _ q=>.inl q) (by rw [ho]; exact .inr ⟨⟨_,rfl⟩,rfl⟩) ?_
 refine ⟨b,gA,T,hb,h2,setRow_heap w b arr gA T _ hh,hr.imp fun d u hd=>hd.tr ex fun j=>?_,h5⟩
 by_cases hj:j=id
 ·subst hj
  simp only [aE,Nat.beq_refl,cond_true]
  rw [ho]; exact .inr ⟨⟨_,rfl⟩,rfl⟩
 ·simp only [aE,bF hj,cond_false]
  exact .refl rfl fun b' hb' Vh=>fU b' fun e=>hj (h.inj j id b (.of Vh (e ▸ hb')) (.of (by rw [ho]; trivial) hb))
end Go.Dm
namespace Go.Dm
open Go.RowKit
variable {P:Program} {N:Nat} {G:Gh} {S S':CS} {w w':World} {s:St} {a:Act} {ρ ρ':fA} {F F':Nat->Prop} {heap heap':Nat->bu} {Y:Value} {E:cg} {Γ:Ctx}
theorem EG {t ty el : TypeId} {i : TypeInfo} {z : Value} {e : Ty} (ht : P.underlying t = some (.slice el)) (hi : P.info? el = some i) (hz : i.zero = some z)
    (hsz : i.size = e.cells) (hs0 : 0 < i.size) (hb0 : 0 < i.bytes) (hzs : z.cells.size = i.size) (hfl : e.flat = true)
    {r x : Sl e.den} {v u : Value} (hr : R P (.sl e) S w r [v]) (hx : R P (.sl e) S w x [u]) (hfit : (r.n + x.n) * i.bytes ≤ 140737488355328)
    (p : Bool) (hv : (p = true ∧ (∃ a0, v = .slice a0 0 0) ∧ r.n = 0) ∨ p = false ∧ ∃ b cap cur, v = .slice (some ⟨b, 0, none⟩) r.n cap ∧ r.n ≤ cap ∧ cap ≤ maxLen ∧ w.heap[b]? = some (.cells cur el (0, 0)) ∧ cur.size = cap * e.cells ∧ (∀ o, S b o → o < r.n * e.cells))
    (hbd : Bd S w) :
    ∃ v' w' nb S', (Builtin.append_ #[t, t] ty #[v, u]).run P w = .ok v' w' ∧
      R P (.sl e) S' w' (cj r x) [v'] ∧ Ext0 S w S' w' ∧ (∀ b o, S' b o → S b o ∨ nb = some b) ∧
      ((nb = none ∧ p = true ∧ v' = v ∧ r.n + x.n = 0 ∧ w' = w) ∨
       ∃ b cap cur, nb = some b ∧ v' = .slice (some ⟨b, 0, none⟩) (r.n + x.n) cap ∧ r.n + x.n ≤ cap ∧ cap ≤ maxLen ∧ w'.heap[b]? = some (.cells cur el (0, 0)) ∧ cur.size = cap * e.cells ∧ (∀ o, S' b o → o < (r.n + x.n) * e.cells) ∧
         (b = w.heap.size ∨ (p = false ∧ ∃ c, v = .slice (some ⟨b, 0, none⟩) r.n c)) ∧ (w'.os = w.os ∧ w'.tape = w.tape ∧ w'.output = w.output ∧ w.heap.size ≤ w'.heap.size ∧ ∀ k, k < w.heap.size → k ≠ b → w'.heap[k]? = w.heap[k]?)) := by
  have hle : r.n + x.n ≤ 140737488355328 := Nat.le_trans (Nat.le_mul_of_pos_right _ hb0) hfit
  -- the new cells
  have hxs : ∃ (news : List Value) (ad : Option Addr) (c : Nat), u = .slice ad x.n c ∧ news.length = x.n * e.cells ∧ (∀ i, i < x.n → R P e S w (x.g i) (chunk e.cells i news)) ∧ (∀ v ∈ news, v.oneCell' = true) ∧
      ((x.n = 0) ∨ ∃ a, ad = some a ∧ ∀ (j : Nat) (v : Value), news[j]? = some v → w.cell? (a.add j) = some v) := by
    rcases hx with ⟨h2, ad, c, h1⟩ | ⟨b, o, cap, h1, h2, h3, h4⟩
    · cases h1
      exact ⟨[], ad, c, by rw [h2], by simp [h2], fun i hi => by omega, by simp, .inl h2⟩
    · cases h1
      obtain ⟨xs, q1, q2, q3⟩ := vF x.n h4
      refine ⟨xs, some ⟨b, o, none⟩, cap, rfl, q1, q3, fun v hv => ?_, .inr ⟨_, rfl, fun j v hv => by rw [Addr.add_lit]; exact (q2 j v hv).2⟩⟩
      obtain ⟨j, hj, rfl⟩ := List.getElem_of_mem hv
      have hcp : 0 < e.cells := by omega
      have hq : j / e.cells < x.n := Nat.div_lt_of_lt_mul (by rw [Nat.mul_comm, ← q1]; exact hj)
      refine R.flat hfl (q3 (j / e.cells) hq) _ ?_
      unfold chunk
      have hj2 : j = j / e.cells * e.cells + j % e.cells := by rw [Nat.mul_comm]; exact (Nat.div_add_mod j e.cells).symm
      refine List.mem_of_getElem? (i := j % e.cells) ?_
      rw [List.getElem?_take, if_pos (Nat.mod_lt _ hcp), List.getElem?_drop, ← hj2, List.getElem?_eq_getElem hj]
  obtain ⟨news, ad, c, rfl, Is, hnr, hn1, hsrc⟩ := hxs
  have Bb : news.length = x.n * i.size := by rw [hsz]; exact Is
  have h63 : ((r.n + x.n : Nat) : Int) ≤ 9223372036854775807 := by omega
  -- a fresh row
  have fresh : ∀ (xs : List Value) (old : Nat), xs.length = r.n * e.cells → (∀ i, i < r.n → R P e S w (r.g i) (chunk e.cells i xs)) →
      let W := w.drew.alloc (.cells (xs.toArray ++ news.toArray ++ Builtin.zeroCells z.cells (grownCap w (r.n + x.n) old el - (r.n + x.n))) el)
      let v' := Value.slice (some ⟨w.heap.size, 0, none⟩) (r.n + x.n) (grownCap w (r.n + x.n) old el)
      let S' : CS := fun b o => S b o ∨ (b = w.heap.size ∧ o < (r.n + x.n) * e.cells)
      R P (.sl e) S' W (cj r x) [v'] ∧ Ext0 S w S' W ∧ (∀ b o, S' b o → S b o ∨ some w.heap.size = some b) ∧
        ∃ b cap cur, some w.heap.size = some b ∧ v' = .slice (some ⟨b, 0, none⟩) (r.n + x.n) cap ∧ r.n + x.n ≤ cap ∧ cap ≤ maxLen ∧ W.heap[b]? = some (.cells cur el (0, 0)) ∧ cur.size = cap * e.cells ∧ (∀ o, S' b o → o < (r.n + x.n) * e.cells) ∧
         (b = w.heap.size ∨ (p = false ∧ ∃ c, v = .slice (some ⟨b, 0, none⟩) r.n c)) ∧ (W.os = w.os ∧ W.tape = w.tape ∧ W.output = w.output ∧ w.heap.size ≤ W.heap.size ∧ ∀ k, k < w.heap.size → k ≠ b → W.heap[k]? = w.heap[k]?) := by
    intro xs old yx hxr W v' S'
    have hge := grownCap_ge w (r.n + x.n) old el
    have Pv : grownCap w (r.n + x.n) old el ≤ maxLen := grownCap_le_maxLen w (r.n + x.n) old el (by unfold maxLen; omega)
    have gK : W.heap[w.heap.size]? = some (.cells (xs.toArray ++ news.toArray ++ Builtin.zeroCells z.cells (grownCap w (r.n + x.n) old el - (r.n + x.n))) el (0, 0)) := heap_alloc_new w.drew _
    have hcs : (xs.toArray ++ news.toArray ++ Builtin.zeroCells z.cells (grownCap w (r.n + x.n) old el - (r.n + x.n))).size = grownCap w (r.n + x.n) old el * e.cells := by
      simp only [Array.size_append, List.size_toArray, size_zeroCells, hzs, yx, Is, hsz, ← Nat.add_mul]
      congr 1; omega
    have hlen : (xs ++ news).length = (r.n + x.n) * e.cells := by rw [List.length_append, yx, Is, Nat.add_mul]
    have ql : Pl w W := ⟨by simp [W], by simp [W], fun k a1 T1 f1 hk hc => ⟨a1, T1, f1, (Below.heap_alloc w.drew _ k hk).symm.trans hc, rfl⟩⟩
    have ex : Ext0 S w S' W := ⟨by simp [W], fun _ _ h => .inl h, fun b o hS => World.cell?_alloc_lt w.drew _ _ (hbd b o hS), fun b o es c hS hm => (Below.heap_alloc w.drew _ b (hbd b o hS)).trans hm, fun b o hS => by
      rcases hS with hS | hS
      · have := hbd b o hS; simp [W]; omega
      · simp [W]; omega, ql⟩
    refine ⟨?_, ex, fun b o hS => hS.elim .inl (fun h => .inr (by rw [h.1])), w.heap.size, _, _, rfl, rfl, hge, Pv, gK, hcs, fun o hS => ?_, .inl rfl, rfl, rfl, rfl, by simp [W], fun k hk _ => Below.heap_alloc w.drew _ k hk⟩
    · refine .inr ⟨w.heap.size, 0, _, rfl, hge, Pv, vG (xs := xs ++ news) hlen (fun j v hv => ?_) (fun i hi => ?_)⟩
      · have hj : j < (xs ++ news).length := (List.getElem?_eq_some_iff.1 hv).1
        refine ⟨.inr ⟨rfl, by omega⟩, ?_⟩
        rw [cell_of_row W w.heap.size (0 + j) _ el _ gK, Nat.zero_add, ← Array.getElem?_toList]
        simp only [Array.toList_append]
        rw [List.getElem?_append_left (by simpa using hj)]
        simpa using hv
      · refine R.mono (S := S) (w := w) ?_ ex
        simp only [cj]
        by_cases hin : i < r.n
        · have hb : Nat.blt i r.n = true := by rw [Nat.blt_eq]; exact hin
          simp only [hb, cond_true]
          rw [ua yx hin]; exact hxr i hin
        · have hb : Nat.blt i r.n = false := by rw [← Bool.not_eq_true, Nat.blt_eq]; exact hin
          simp only [hb, cond_false]
          rw [qL yx (by omega)]
          exact hnr _ (by simp only [cj] at hi; omega)
    · rcases hS with hS | hS
      · have := hbd _ _ hS; omega
      · exact hS.2
  rcases hv with ⟨hp, ⟨a0, rfl⟩, Vi⟩ | ⟨hp, b, cap, cur, rfl, hnc, Pv, gK, hcs, hSb⟩
  · -- no cells yet
    have yx : ([] : List Value).length = r.n * e.cells := by simp [Vi]
    by_cases hm : x.n = 0
    · have hnews : news = [] := List.eq_nil_of_length_eq_zero (by rw [Is, hm, Nat.zero_mul])
      refine ⟨.slice a0 0 0, w, none, S, ?_, .inl ⟨by simp [cj, Vi, hm], _, _, rfl⟩, Ext0.refl hbd, fun _ _ h => .inl h, .inl ⟨rfl, hp, rfl, by omega, rfl⟩⟩
      rcases a0 with _ | a0
      · rcases ad with _ | a1
        · rw [hm]; simp [Builtin.append_, run_underlying ht, sizeOf, typeInfo, hi, Builtin.lenOf, Builtin.firstCells]
        · rw [hm]; simp [Builtin.append_, run_underlying ht, sizeOf, typeInfo, hi, Builtin.lenOf, Builtin.firstCells, loadCells, loadCellsFrom]
      · rw [hm]
        cases ad <;> simp [Builtin.append_, run_underlying ht, sizeOf, typeInfo, hi, Builtin.lenOf, Builtin.firstCells, storeCells, loadCells, loadCellsFrom]
    · rcases hsrc with h0 | ⟨a1, rfl, hsrc⟩
      · exact absurd h0 hm
      · obtain ⟨f1, f2, f3, f4⟩ := fresh [] 0 yx (fun i hi => by omega)
        rcases a0 with _ | a0
        · have hrun := run_append_nil (P := P) w t ty el i z ht hi hz a1 x.n c news Bb hsrc (by omega) (by omega) (by have := hfit; rw [Vi, Nat.zero_add] at this; omega)
          refine ⟨_, _, some w.heap.size, _, ?_, f1, f2, f3, .inr f4⟩
          rw [hrun]
          simp [Vi]
        · have hrun := run_append_grow (P := P) w t ty el i z ht hi hz a0 0 0 [] (by simp) (fun j u hu => by simp at hu) a1 x.n c news Bb hsrc (by omega) (by omega) (growslice_fits (by omega) (by have := hfit; rw [Vi] at this; exact this))
          refine ⟨_, _, some w.heap.size, _, ?_, f1, f2, f3, .inr f4⟩
          rw [hrun]
          simp [Vi]
  · -- a block
    obtain ⟨xs, q1, q2, q3⟩ : ∃ xs : List Value, xs.length = r.n * e.cells ∧ sY S w b 0 xs ∧ ∀ i, i < r.n → R P e S w (r.g i) (chunk e.cells i xs) := by
      rcases hr with ⟨h2, a, c, h1⟩ | ⟨b', o', cap', h1, h2, h3, h4⟩
      · exact ⟨[], by simp [h2], fun j v hv => by simp at hv, fun i hi => by omega⟩
      · cases h1; exact vF r.n h4
    have air : ∀ j, j < r.n * e.cells → xs[j]? = cur[j]? := fun j hj => by
      have hjx : j < xs.length := by omega
      have := (q2 j xs[j] (List.getElem?_eq_getElem hjx)).2
      rw [cell_of_row w b (0 + j) cur el _ gK, Nat.zero_add] at this
      rw [this, List.getElem?_eq_getElem hjx]
    have It : cur.toList.take (r.n * i.size) = xs := by
      apply List.ext_getElem?
      intro j
      rw [List.getElem?_take, hsz]
      split
      · rename_i hj; rw [air j hj, Array.getElem?_toList]
      · rename_i hj; rw [List.getElem?_eq_none (by omega)]
    rcases hsrc with h0 | ⟨a1, rfl, hsrc⟩
    · -- nothing is appended
      refine ⟨.slice (some ⟨b, 0, none⟩) r.n cap, w, some b, S, ?_, ?_, Ext0.refl hbd, fun _ _ h => .inl h, .inr ⟨b, cap, cur, rfl, by rw [h0, Nat.add_zero], by omega, Pv, gK, hcs, by rw [h0, Nat.add_zero]; exact hSb, .inr ⟨hp, cap, rfl⟩, rfl, rfl, rfl, Nat.le_refl _, fun _ _ _ => rfl⟩⟩
      · have hroom : r.n ≤ cap := hnc
        rw [h0]
        cases ad <;> simp [Builtin.append_, run_underlying ht, sizeOf, typeInfo, hi, Builtin.lenOf, Builtin.firstCells, hroom, storeCells, loadCells, loadCellsFrom]
      · refine .inr ⟨b, 0, cap, by simp [cj, h0], by simp [cj, h0]; exact hnc, Pv, fun i hi => ?_⟩
        simp only [cj, h0, Nat.add_zero] at hi ⊢
        have hb : Nat.blt i r.n = true := by rw [Nat.blt_eq]; exact hi
        simp only [hb, cond_true]
        exact vG q1 q2 q3 i hi
    · by_cases hroom : r.n + x.n ≤ cap
      · have VN : r.n * i.size + news.length ≤ cur.size := by rw [Bb, hcs, hsz, ← Nat.add_mul]; exact Nat.mul_le_mul_right _ hroom
        have hrun := run_append_room (P := P) w t ty el i ht hi b r.n cap cur gK a1 x.n c news Bb hsrc hn1 hroom VN
        rw [It] at hrun
        let S' : CS := fun b' o => S b' o ∨ (b' = b ∧ o < (r.n + x.n) * e.cells)
        let W := w.setRow b (xs ++ news ++ cur.toList.drop (r.n * i.size + news.length)).toArray
        have hlen : (xs ++ news).length = (r.n + x.n) * e.cells := by rw [List.length_append, q1, Is, Nat.add_mul]
        have Vj : W.heap[b]? = some (.cells (xs ++ news ++ cur.toList.drop (r.n * i.size + news.length)).toArray el (0, 0)) := setRow_heap w b cur _ el _ gK
        have Bc : W.heap.size = w.heap.size := by simp [W, World.setRow]
        have aXR : b < w.heap.size := (Array.getElem?_eq_some_iff.1 gK).1
        have ex : Ext0 S w S' W := ⟨by omega, fun _ _ h => .inl h, fun b' o hS => by
            by_cases xh : b' = b
            · subst xh
              have ho := hSb o hS
              rw [cell_of_row W b' o _ el _ Vj, cell_of_row w b' o cur el _ gK, List.getElem?_toArray, List.append_assoc, List.getElem?_append_left (by omega), air o ho]
            · exact World.cell?_of_block (a := ⟨b', o, none⟩) (setRow_other w b b' _ xh),
          fun b' o es c hS hm => by
            by_cases xh : b' = b
            · subst xh; rw [gK] at hm; cases hm
            · exact (setRow_other w b b' _ xh).trans hm,
          fun b' o hS => by
            rcases hS with hS | hS
            · have := hbd _ _ hS; omega
            · omega,
          .setRow gK (by
            simp only [List.size_toArray, List.length_append, List.length_drop, Array.length_toList, q1, Is, hcs, hsz]
            have : r.n * e.cells + x.n * e.cells ≤ cap * e.cells := by rw [← Nat.add_mul]; exact Nat.mul_le_mul_right _ hroom
            omega)⟩
        refine ⟨_, W, some b, S', hrun, ?_, ex, fun b' o hS => hS.elim .inl (fun h => .inr (by rw [h.1])), .inr ⟨b, cap, _, rfl, rfl, hroom, Pv, Vj, ?_, fun o hS => ?_, .inr ⟨hp, cap, rfl⟩, rfl, rfl, rfl, by omega, fun k _ hk => setRow_other w b k _ hk⟩⟩
        · refine .inr ⟨b, 0, cap, rfl, hroom, Pv, vG (xs := xs ++ news) hlen (fun j v hv => ?_) (fun i hi => ?_)⟩
          · have hj : j < (xs ++ news).length := (List.getElem?_eq_some_iff.1 hv).1
            refine ⟨.inr ⟨rfl, by omega⟩, ?_⟩
            rw [cell_of_row W b (0 + j) _ el _ Vj, Nat.zero_add, List.getElem?_toArray, List.getElem?_append_left hj]
            exact hv
          · refine R.mono (S := S) (w := w) ?_ ex
            simp only [cj]
            by_cases hin : i < r.n
            · have hb : Nat.blt i r.n = true := by rw [Nat.blt_eq]; exact hin
              simp only [hb, cond_true]
              rw [ua q1 hin]; exact q3 i hin
            · have hb : Nat.blt i r.n = false := by rw [← Bool.not_eq_true, Nat.blt_eq]; exact hin
              simp only [hb, cond_false]
              rw [qL q1 (by omega)]
              exact hnr _ (by simp only [cj] at hi; omega)
        · simp only [List.size_toArray, List.length_append, List.length_drop, Array.length_toList, q1, Is, hcs, hsz]
          have : r.n * e.cells + x.n * e.cells ≤ cap * e.cells := by rw [← Nat.add_mul]; exact Nat.mul_le_mul_right _ hroom
          omega
        · rcases hS with hS | hS
          · have := hSb o hS
            exact Nat.lt_of_lt_of_le this (Nat.mul_le_mul_right _ (by omega))
          · exact hS.2
      · have holds : ∀ (j : Nat) (u : Value), xs[j]? = some u → w.cell? ((⟨b, 0, none⟩ : Addr).add j) = some u := fun j u hu => by rw [Addr.add_lit]; exact (q2 j u hu).2
        have hrun := run_append_grow (P := P) w t ty el i z ht hi hz ⟨b, 0, none⟩ r.n cap xs (by rw [hsz]; exact q1) holds a1 x.n c news Bb hsrc (by omega) h63 (growslice_fits (by omega) hfit)
        obtain ⟨f1, f2, f3, f4⟩ := fresh xs cap q1 q3
        exact ⟨_, _, some w.heap.size, _, hrun, f1, f2, f3, .inr f4⟩
end Go.Dm
namespace Go.Dm
open Go.RowKit
variable {P:Program} {N:Nat} {G:Gh} {S S':CS} {w w':World}
theorem Lm {t ty el : TypeId} {i : TypeInfo} {z : Value} {k n m : Nat} (ht : P.underlying t = some (.slice el)) (hi : P.info? el = some i) (hz : i.zero = some z)
    (hsz : i.size = k) (hs0 : 0 < i.size) (hb0 : 0 < i.bytes) (hzs : z.cells.size = i.size)
    {v : Value} {xs news : List Value} {ad : Option Addr} {c : Nat} (hfit : (n + m) * i.bytes ≤ 140737488355328) (yx : xs.length = n * k) (Is : news.length = m * k) (hn1 : ∀ v ∈ news, v.oneCell' = true)
    (hsrc : (m = 0) ∨ ∃ a, ad = some a ∧ ∀ (j : Nat) (v : Value), news[j]? = some v → w.cell? (a.add j) = some v)
    (p : Bool) (hv : (p = true ∧ (∃ a0, v = .slice a0 0 0) ∧ n = 0) ∨ p = false ∧ ∃ b cap cur, v = .slice (some ⟨b, 0, none⟩) n cap ∧ n ≤ cap ∧ cap ≤ maxLen ∧ w.heap[b]? = some (.cells cur el (0, 0)) ∧ cur.size = cap * k ∧ cur.toList.take (n * k) = xs) :
    ∃ v' w' nb, (Builtin.append_ #[t, t] ty #[v, .slice ad m c]).run P w = .ok v' w' ∧
      ((nb = none ∧ p = true ∧ v' = v ∧ n + m = 0 ∧ w' = w) ∨
       ∃ b cap cur, nb = some b ∧ v' = .slice (some ⟨b, 0, none⟩) (n + m) cap ∧ n + m ≤ cap ∧ cap ≤ maxLen ∧ w'.heap[b]? = some (.cells cur el (0, 0)) ∧ cur.size = cap * k ∧ cur.toList.take ((n + m) * k) = xs ++ news ∧
         (b = w.heap.size ∨ (p = false ∧ ∃ c, v = .slice (some ⟨b, 0, none⟩) n c)) ∧ Pl w w' ∧ (w'.os = w.os ∧ w'.tape = w.tape ∧ w'.output = w.output ∧ w.heap.size ≤ w'.heap.size ∧ ∀ k, k < w.heap.size → k ≠ b → w'.heap[k]? = w.heap[k]?)) := by
  have hle : n + m ≤ 140737488355328 := Nat.le_trans (Nat.le_mul_of_pos_right _ hb0) hfit
  have Bb : news.length = m * i.size := by rw [hsz]; exact Is
  have h63 : ((n + m : Nat) : Int) ≤ 9223372036854775807 := by omega
  have hlen : (xs ++ news).length = (n + m) * k := by rw [List.length_append, yx, Is, Nat.add_mul]
  have fresh : ∀ (old : Nat),
      let W := w.drew.alloc (.cells (xs.toArray ++ news.toArray ++ Builtin.zeroCells z.cells (grownCap w (n + m) old el - (n + m))) el)
      let v' := Value.slice (some ⟨w.heap.size, 0, none⟩) (n + m) (grownCap w (n + m) old el)
      ∃ b cap cur, some w.heap.size = some b ∧ v' = .slice (some ⟨b, 0, none⟩) (n + m) cap ∧ n + m ≤ cap ∧ cap ≤ maxLen ∧ W.heap[b]? = some (.cells cur el (0, 0)) ∧ cur.size = cap * k ∧ cur.toList.take ((n + m) * k) = xs ++ news ∧
         (b = w.heap.size ∨ (p = false ∧ ∃ c, v = .slice (some ⟨b, 0, none⟩) n c)) ∧ Pl w W ∧ (W.os = w.os ∧ W.tape = w.tape ∧ W.output = w.output ∧ w.heap.size ≤ W.heap.size ∧ ∀ k, k < w.heap.size → k ≠ b → W.heap[k]? = w.heap[k]?) := by
    intro old W v'
    have hge := grownCap_ge w (n + m) old el
    have Pv : grownCap w (n + m) old el ≤ maxLen := grownCap_le_maxLen w (n + m) old el (by unfold maxLen; omega)
    have gK : W.heap[w.heap.size]? = some (.cells (xs.toArray ++ news.toArray ++ Builtin.zeroCells z.cells (grownCap w (n + m) old el - (n + m))) el (0, 0)) := heap_alloc_new w.drew _
    have hcs : (xs.toArray ++ news.toArray ++ Builtin.zeroCells z.cells (grownCap w (n + m) old el - (n + m))).size = grownCap w (n + m) old el * k := by
      simp only [Array.size_append, List.size_toArray, size_zeroCells, hzs, yx, Is, hsz, ← Nat.add_mul]
      congr 1; omega
    refine ⟨w.heap.size, _, _, rfl, rfl, hge, Pv, gK, hcs, ?_, .inl rfl, ⟨by simp [W], by simp [W], fun k a1 T1 f1 hk hc => ⟨a1, T1, f1, (Below.heap_alloc w.drew _ k hk).symm.trans hc, rfl⟩⟩, rfl, rfl, rfl, by simp [W], fun k hk _ => Below.heap_alloc w.drew _ k hk⟩
    have e1 : (xs.toArray ++ news.toArray ++ Builtin.zeroCells z.cells (grownCap w (n + m) old el - (n + m))).toList = (xs ++ news) ++ (Builtin.zeroCells z.cells (grownCap w (n + m) old el - (n + m))).toList := by simp
    rw [e1, ← hlen, List.take_append_of_le_length (Nat.le_refl _)]
    exact List.take_of_length_le (Nat.le_refl _)
  rcases hv with ⟨hp, ⟨a0, rfl⟩, Vi⟩ | ⟨hp, b, cap, cur, rfl, hnc, Pv, gK, hcs, It⟩
  · have hxs : xs = [] := List.eq_nil_of_length_eq_zero (by rw [yx, Vi, Nat.zero_mul])
    by_cases hm : m = 0
    · refine ⟨.slice a0 0 0, w, none, ?_, .inl ⟨rfl, hp, rfl, by omega, rfl⟩⟩
      rcases a0 with _ | a0
      · rcases ad with _ | a1
        · rw [hm]; simp [Builtin.append_, run_underlying ht, sizeOf, typeInfo, hi, Builtin.lenOf, Builtin.firstCells]
        · rw [hm]; simp [Builtin.append_, run_underlying ht, sizeOf, typeInfo, hi, Builtin.lenOf, Builtin.firstCells, loadCells, loadCellsFrom]
      · rw [hm]
        cases ad <;> simp [Builtin.append_, run_underlying ht, sizeOf, typeInfo, hi, Builtin.lenOf, Builtin.firstCells, storeCells, loadCells, loadCellsFrom]
    · rcases hsrc with h0 | ⟨a1, rfl, hsrc⟩
      · exact absurd h0 hm
      · have f4 := fresh 0
        rcases a0 with _ | a0
        · have hrun := run_append_nil (P := P) w t ty el i z ht hi hz a1 m c news Bb hsrc (by omega) (by omega) (by have := hfit; rw [Vi, Nat.zero_add] at this; omega)
          refine ⟨_, _, some w.heap.size, ?_, .inr f4⟩
          rw [hrun]
          simp [Vi, hxs]
        · have hrun := run_append_grow (P := P) w t ty el i z ht hi hz a0 0 0 [] (by simp) (fun j u hu => by simp at hu) a1 m c news Bb hsrc (by omega) (by omega) (growslice_fits (by omega) (by have := hfit; rw [Vi] at this; exact this))
          refine ⟨_, _, some w.heap.size, ?_, .inr f4⟩
          rw [hrun]
          simp [Vi, hxs]
  · rcases hsrc with h0 | ⟨a1, rfl, hsrc⟩
    · have hnews : news = [] := List.eq_nil_of_length_eq_zero (by rw [Is, h0, Nat.zero_mul])
      refine ⟨.slice (some ⟨b, 0, none⟩) n cap, w, some b, ?_, .inr ⟨b, cap, cur, rfl, by rw [h0, Nat.add_zero], by omega, Pv, gK, hcs, by rw [h0, Nat.add_zero, It, hnews, List.append_nil], .inr ⟨hp, cap, rfl⟩, .refl w, rfl, rfl, rfl, Nat.le_refl _, fun _ _ _ => rfl⟩⟩
      have hroom : n ≤ cap := hnc
      rw [h0]
      cases ad <;> simp [Builtin.append_, run_underlying ht, sizeOf, typeInfo, hi, Builtin.lenOf, Builtin.firstCells, hroom, storeCells, loadCells, loadCellsFrom]
    · by_cases hroom : n + m ≤ cap
      · have VN : n * i.size + news.length ≤ cur.size := by rw [Bb, hcs, hsz, ← Nat.add_mul]; exact Nat.mul_le_mul_right _ hroom
        have hrun := run_append_room (P := P) w t ty el i ht hi b n cap cur gK a1 m c news Bb hsrc hn1 hroom VN
        rw [hsz, It] at hrun
        have Vj : (w.setRow b (xs ++ news ++ cur.toList.drop (n * k + news.length)).toArray).heap[b]? = some (.cells (xs ++ news ++ cur.toList.drop (n * k + news.length)).toArray el (0, 0)) := setRow_heap w b cur _ el _ gK
        refine ⟨_, _, some b, hrun, .inr ⟨b, cap, _, rfl, rfl, hroom, Pv, Vj, ?_, ?_, .inr ⟨hp, cap, rfl⟩, .setRow gK ?_, rfl, rfl, rfl, by simp [World.setRow], fun k _ hk => setRow_other w b k _ hk⟩⟩
        · simp only [List.size_toArray, List.length_append, List.length_drop, Array.length_toList, yx, Is, hcs]
          have : n * k + m * k ≤ cap * k := by rw [← Nat.add_mul]; exact Nat.mul_le_mul_right _ hroom
          omega
        · rw [← hlen, List.take_append_of_le_length (Nat.le_refl _), List.take_of_length_le (Nat.le_refl _)]
        · simp only [List.size_toArray, List.length_append, List.length_drop, Array.length_toList, yx, Is, hcs]
          have : n * k + m * k ≤ cap * k := by rw [← Nat.add_mul]; exact Nat.mul_le_mul_right _ hroom
          omega
      · have holds : ∀ (j : Nat) (u : Value), xs[j]? = some u → w.cell? ((⟨b, 0, none⟩ : Addr).add j) = some u := fun j u hu => by
          rw [Addr.add_lit, cell_of_row w b (0 + j) cur el _ gK, Nat.zero_add]
          rw [← It, List.getElem?_take] at hu
          split at hu
          · rwa [Array.getElem?_toList] at hu
          · cases hu
        have hrun := run_append_grow (P := P) w t ty el i z ht hi hz ⟨b, 0, none⟩ n cap xs (by rw [hsz]; exact yx) holds a1 m c news Bb hsrc (by omega) h63 (growslice_fits (by omega) hfit)
        exact ⟨_, _, some w.heap.size, hrun, .inr (fresh cap)⟩
end Go.Dm
namespace Go.Dm
open Go.RowKit
variable {P:Program} {N:Nat} {G:Gh} {S S':CS} {w w':World} {s:St} {a:Act} {ρ ρ':fA} {F F':Nat->Prop} {heap heap':Nat->bu} {Y:Value} {E:cg} {Γ:Ctx}
theorem xD (hG:G.Ok P) {o:Oper} {Q:Exit->Act->World->Prop} (h:SR P N G s a w ρ S F) (hd:o.dst.all (Nat.blt · N)=true)
    {t el:TypeId} {sx x:Operand} (hop:o.op = .call { callee:=.builtin .append,args:=#[sx,x],argTypes:=#[t,t] })
    {i:TypeInfo} {z:Value} {e:Ty} (ht:P.underlying t=some (.slice el)) (hi:P.info? el=some i) (hz:i.zero=some z)
    (hsz:i.size=e.cells) (hs0:0 < i.size) (hb0:0 < i.bytes) (hzs:z.cells.size=i.size) (hfl:e.flat=true)
    {r y:Sl e.den} (hr:R P (.sl e) S w r [a.eval sx]) (hy:R P (.sl e) S w y [a.eval x]) (hfit:(r.n + y.n) * i.bytes<=140737488355328)
    {id cur':Nat} (hid:(s.heap id = .none/\G.lo<=id)\/∃ v n,s.heap id = .chain v el e.cells n/\v < cur')
    {p:Bool} (hv:(p=true/\(∃ a0,a.eval sx = .slice a0 0 0)/\r.n=0)\/p=false/\∃ b cap cur,live (s.heap id)/\ρ id=some b/\a.eval sx = .slice (some ⟨b,0,none⟩) r.n cap/\r.n<=cap/\cap<=maxLen/\w.heap[b]? = some (.cells cur el (0,0))/\cur.size=cap * e.cells/\(∀ o,S b o->o < r.n * e.cells))
    {rh:List Nat} :
    o.wp P a w (sZ P N G o s ⟨some (.v (.own id cur' e (cj r y))),[(id,.chain cur' el e.cells (r.n + y.n))],rh,true,none⟩) Q:=by
  obtain ⟨v',w',nb,S',hrun,hR,ex,zi,jT⟩:=EG (P:=P) (ty:=o.type) ht hi hz hsz hs0 hb0 hzs hfl hr hy hfit p
    (hv.imp (fun x=>x) (fun ⟨hp,b,cap,cur,_,_,h4,h5,h6,h7,h8,h9⟩=>⟨hp,b,cap,cur,h4,h5,h6,h7,h8,h9⟩)) h.bd
  have hex:(execOp a.eval o).run P w = .ok (.value v') w':=by
    simp only [execOp,hop,resolve,invoke,builtin,Sem.run_bind,Sem.run_pure,Result.andThen_ok,List.map_toArray,List.map_cons,List.map_nil,hrun]
  have hsr:=h.chain hG (id:=id) (cur':=cur') (k:=e.cells) (n':=r.n + y.n) (T:=el) (nb:=nb) hid ex zi
    (by
      rcases jT with ⟨h1,_,_,_,h5⟩ | ⟨b',cap,cur,h1,h2,h3,h4,h5,h6,h7,h8,h9,h10,h11,h12,h13⟩
      · rw [h5]; exact dX.refl _ _
      · exact ⟨h9,h10,h11,h12,fun k hk=>h13 k hk.1 (fun e=>hk.2 (by rw [h1,e]))⟩)
    (fun b hb=>by
      rcases jT with ⟨h1,_,_,_,h5⟩ | ⟨b',cap,cur,h1,h2,h3,h4,h5,h6,h7,h8,h9,h10,h11,h12,h13⟩
      · rw [hb] at h1; cases h1
      · rw [hb] at h1; cases h1
        refine ⟨?_,(Array.getElem?_eq_some_iff.1 h5).1,⟨_,_,_,h5⟩,h7⟩
        rcases h8 with h8 | ⟨hp,c,h8⟩
        · exact .inl h8
        · rcases hv with ⟨hv,_⟩ | ⟨_,b2,uc,Sq,q1,q2,q4,_⟩
          · rw [hv] at hp; cases hp
          · rw [q4] at h8; cases h8; exact .inr ⟨q1,q2⟩)
    (fun hb=>by
      rcases jT with ⟨h1,_,_,h4,h5⟩ | ⟨b',cap,cur,h1,_⟩
      · exact h4
      · rw [hb] at h1; cases h1)
  unfold Oper.wp
  rw [hex]
  have q:=hsr.put hd (sl:=.v (.own id cur' e (cj r y))) (v:=v') ⟨hR,hfl,cur',el,e.cells,r.n + y.n,by simp [aE],Nat.le_refl _,fun _=>⟨rfl,rfl,by
    rcases jT with ⟨h1,hp,h2,h3,_⟩ | ⟨b',cap,cur,h1,h2,h3,h4,h5,h6,_⟩
    · rcases hv with ⟨_,⟨a0,hv⟩,_⟩ | ⟨hv,_⟩
      · exact .inl ⟨by simp [h1],h3,a0,by rw [h2,hv]⟩
      · rw [hv] at hp; cases hp
    · exact .inr ⟨b',cap,cur,by simp [h1],h2,h3,h4,h5,h6⟩⟩⟩
  exact ⟨rfl,_,S',F,q.of_eq rfl rfl rfl rfl⟩
theorem ig (ρ':Operand->Value) (c:Call) (ty:TypeId) {f:FuncId} {first caps:Array Value} {x:Operand} (hc:c.callee = .value x) (hx:ρ' x = .func (.func f) first caps) (hf:eY P f) (w:World) :
  (do let d <- resolve ρ' c ty; invoke d.target d.args:Sem Next).run P w = .ok (.enter f (first ++ c.args.map ρ' ++ caps)) w:=by
 simp only [resolve,hc,hx,Deferred.ofValue,Sem.run_bind,Sem.run_pure,Result.andThen_ok,invoke]
 exact hf _ w
theorem Be (hG:G.Ok P) {o:Oper} {Q:Exit->Act->World->Prop} (h:SR P N G s a w ρ S F) (hd:o.dst.all (Nat.blt · N)=true) {c:Call} (hop:o.op = .call c) {x:Operand} (hc:c.callee = .value x)
  {f:FuncId} {first caps:Array Value} (hx:a.eval x = .func (.func f) first caps) (hf:eY P f) {τ:Ty} {y:τ.den}
  (kP:Calls P f (first ++ c.args.map a.eval ++ caps) w (fun e w'=>∃ S' rs,e = .returned (pack rs)/\R P τ S' w' y rs/\Ext S w S' w'/\Below w.heap.size w w')) {rh:List Nat} :
  o.wp P a w (sZ P N G o s ⟨some (jk τ y),[],rh,true,none⟩) Q:=by
 have hrun:=ig (P:=P) a.eval c o.type hc hx hf w
 unfold Oper.wp
 have:(execOp a.eval o)=(do let d <- resolve a.eval c o.type; invoke d.target d.args:Sem Next):=by simp only [execOp,hop]
 rw [this,hrun]
 refine kP.mono ?_
 rintro e w1 ⟨S1,rs,rfl,h1,h2,h3⟩
 exact ⟨rfl,ρ,S1,F,((h.grow hG.c h2 h3).put hd (sl:=jk τ y) (AX h1)).of_eq rfl rfl rfl rfl⟩
theorem Iu {τ:Ty}:∀ {n:Nat} {ds:List DC} {us:List Value} {xs:List τ.den},RL (RC P Y S w heap ρ) ds us->chunks τ n ds=some xs->xs.length=n/\∀ i y,i < n->R P τ S w (xs.getD i y) (chunk τ.cells i us)
 | 0,ds,us,xs,h,hx=>by cases hx; exact ⟨rfl,fun i y hi=>by omega⟩
 | n + 1,ds,us,xs,h,hx=>by
  simp only [chunks] at hx
  cases h1:eV τ (ds.take τ.cells) with
  | none=>rw [h1] at hx; simp at hx
  | some x =>
   cases h2:chunks τ n (ds.drop τ.cells) with
   | none=>rw [h1,h2] at hx; simp at hx
   | some xs' =>
    rw [h1,h2] at hx
    simp only [Option.some.injEq] at hx
    subst hx
    obtain ⟨q1,q2⟩:=Iu (h.drop τ.cells) h2
    refine ⟨by simp [q1],fun i y hi=>?_⟩
    cases i with
    | zero=>simpa [chunk] using fN (h.take τ.cells) h1
    | succ i =>
     have:=q2 i y (by omega)
     simp only [List.getD_cons_succ]
     unfold chunk at this ⊢
     rw [List.drop_drop] at this
     rwa [show (i + 1) * τ.cells=τ.cells + i * τ.cells by rw [Nat.add_mul,Nat.one_mul,Nat.add_comm]]
theorem Bf {τ:Ty}:∀ {n:Nat} {ds:List DC} {xs:List τ.den},chunks τ n ds=some xs->xs.length=n
 | 0,ds,xs,hx=>by cases hx; rfl
 | n + 1,ds,xs,hx=>by
  simp only [chunks] at hx
  cases h1:eV τ (ds.take τ.cells) with
  | none=>rw [h1] at hx; simp at hx
  | some x =>
   cases h2:chunks τ n (ds.drop τ.cells) with
   | none=>rw [h1,h2] at hx; simp at hx
   | some xs' =>
    rw [h1,h2] at hx
    simp only [Option.some.injEq] at hx
    subst hx
    simp [Bf h2]
theorem DN {place:Nat->Option (Nat×Nat)}:∀ {ps:List (Nat×Slot)} {ds cs:List DC},yq place ds ps=some cs->cs.length=ds.length
 | [],ds,cs,h=>by cases h; rfl
 | (i,sl) :: ps,ds,cs,h=>by
  simp only [yq] at h
  cases ql:place i with
  | none=>rw [ql] at h; simp at h
  | some os =>
   obtain ⟨off,size⟩:=os
   cases hs:dI sl with
   | none=>rw [ql,hs] at h; simp at h
   | some cs0 =>
    rw [ql,hs] at h
    simp only at h
    cases hd:decide (cs0.length=size/\off + cs0.length<=ds.length) with
    | false=>rw [hd] at h; simp at h
    | true =>
     rw [hd] at h
     obtain ⟨h1,h2⟩:=of_decide_eq_true hd
     rw [DN h]
     simp [splice]; omega
theorem adv (h:Bd S w) (arr:Array Value) (T:TypeId):Ext S w (fun b o=>S b o\/(b=w.heap.size/\o < arr.size)) (w.alloc (.cells arr T)):=
 ⟨⟨by simp,fun _ _ x=>.inl x,fun b i hS=>World.cell?_alloc_lt _ _ _ (h b i hS),fun b i es c hS hm=>(Below.heap_alloc _ _ _ (h b i hS)).trans hm,fun b i hS=>by
  rcases hS with hS | hS
  ·have:=h b i hS; simp; omega
  ·simp; omega,(kF h _).pl⟩,fun b o hS=>hS.elim .inl (fun q=>.inr (by omega))⟩
theorem EH (l:Array Value) (h:∀ v∈l.toList,v.oneCell'=true) (i:Nat):(l[i]!).oneCell'=true:=by
 by_cases hi:i < l.size
 ·rw [getElem!_pos l i hi]; exact h _ (by simp)
 ·rw [getElem!_neg l i hi]; rfl
theorem Bg (hΓ:Sound P Γ) (hG:G.Ok P) {o:Oper} {Q:Exit->Act->World->Prop} (h:SR P N G s a w ρ S F) (hd:o.dst.all (Nat.blt · N)=true) {t:TypeId} {len:Nat} {ps:Array (Nat×Operand)} (hop:o.op = .buildSlice t len ps)
    {bJ:Nat} (hlo:G.lo<=bJ) (hno:s.heap bJ = .none) {e:mV} (he:(lT P t bJ len (ps.toList.map fun p=>(p.1,val Γ s.env p.2))).run id=some e) :
    o.wp P a w (sZ P N G o s e) Q:=by
  unfold lT at he
  split at he
  case h_2=>cases he
  rename_i el hu
  split at he
  · -- no elements
    split at he
    case h_2=>cases he
    rename_i n hps hn
    simp only [er,Br.run,id] at he
    cases he
    have hps:ps = #[]:=by
      have:ps.toList=[]:=by simpa using hps
      simpa using this
    obtain ⟨i,hi⟩:∃ i,P.info? el=some i:=by
      unfold cy at hn
      cases hq:P.info? el with
      | none=>rw [hq] at hn; cases hn
      | some i=>exact ⟨i,rfl⟩
    have hrun:(execOp a.eval o).run P w = .ok (.value (.slice (some ⟨w.heap.size,0,none⟩) 0 0)) (w.alloc (.cells #[] el)):=by
      simp [execOp,hop,hps,Instr.buildSlice,run_underlying hu,sizeOf,typeInfo,hi,newRow,Instr.fill]; congr 2; apply Array.eq_empty_of_size_eq_zero; simp
    unfold Oper.wp
    rw [hrun]
    exact ⟨rfl,ρ,S,F,((h.grow hG.c (kF h.bd _) (gO w _)).put hd (sl:=.v .mU) ⟨_,rfl⟩).of_eq rfl rfl rfl rfl⟩
  rename_i len' hne
  split at he
  case h_2=>cases he
  rename_i n hn hzs
  split at he
  case h_2=>cases he
  rename_i cs ais
  split at he
  case h_2=>cases he
  rename_i τ hτ
  split at he
  case h_2=>cases he
  rename_i x xs kG yy
  simp only [er,Br.run,id] at he
  cases he
  simp only [Bool.and_eq_true,Nat.blt_eq,Nat.ble_eq] at yy
  obtain ⟨⟨⟨c1,c2⟩,c3⟩,c4⟩:=yy
  have c1:=Nat.eq_of_beq_eq_true c1
  obtain ⟨zs,hz⟩:=Option.isSome_iff_exists.1 hzs
  obtain ⟨i,z,hi,hiz,hzr⟩:=qK hz
  have hin:i.size=n:=by unfold cy at hn; rw [hi] at hn; simpa using hn
  have hlen:(x :: xs).length=len:=Bf kG
  have hpos:¬ len * i.size=0:=by
    rw [hin]
    have:0 < len:=by rw [<- hlen]; simp
    exact Nat.ne_of_gt (Nat.mul_pos this c2)
  have hz1:=RL.jV G.jS (hzr (w:=w) (S:=S) (heap:=s.heap) (ρ:=ρ) G.jS)
  obtain ⟨arr,f1,f2⟩:=zP (rc:=RC P G.Y S w s.heap ρ) (ds:=List.replicate (len * n) .top) (arr:=(Array.range (len * i.size)).map (z.cells[· % z.cells.size]!)) (vs:=(ps.map fun (i,x)=>(i,a.eval x)).toList)
    ⟨by simp [hin],fun j d u h1 h2=>by
      rw [List.getElem?_replicate] at h1
      split at h1
      · cases h1
        simp only [Array.toList_map,List.getElem?_map] at h2
        cases hq:(Array.range (len * i.size)).toList[j]? with
        | none=>rw [hq] at h2; cases h2
        | some q=>rw [hq] at h2; cases h2; exact EH _ hz1 _
      · cases h1⟩ (by simp) (Iq hΓ h ps) ais
  have hrun:=run_buildSlice (P:=P) w t el len (ps.map fun (i,x)=>(i,a.eval x)) arr i z hu hi hiz (by rw [hin]; omega) hpos (by rw [hin] at *; exact f1)
  have hex:=adv h.bd arr el
  unfold Oper.wp
  have:(execOp a.eval o).run P w = .ok (.value (.slice (some ⟨w.heap.size,0,none⟩) len len)) (w.alloc (.cells arr el)):=by
    simp only [execOp,hop,Sem.run_bind,hrun,Result.andThen_ok,Sem.run_pure]
  rw [this]
  have gY:cs.length=len * n:=by rw [DN ais]; simp
  have hal:arr.toList.length=len * τ.cells:=by rw [<- f2.1,gY,c1]
  have avm:len<=maxLen:=by
    have:=Nat.le_mul_of_pos_right len c2
    unfold maxLen; omega
  -- the row is there
  have hnew:=heap_alloc_new w (Obj.cells arr el)
  have h1:=h.alloc hG hno hlo (o:=.chain 0 el τ.cells len) (.cells arr el)
    (.inr ⟨w.heap.size,by simp,vn.new h,by simp,⟨_,_,_,hnew⟩,fun o hS=>absurd (h.bd _ _ hS) (by omega)⟩)
  -- and it is stable
  have VO:live (aE s.heap bJ (.chain 0 el τ.cells len) bJ):=by simp [aE,live]
  have atH:(fun i=>if i=bJ then some w.heap.size else ρ i) bJ=some w.heap.size:=by simp
  have ex0:Ext0 S (w.alloc (.cells arr el)) (fun b o=>S b o\/(b=w.heap.size/\o < arr.size)) (w.alloc (.cells arr el)):=⟨Nat.le_refl _,fun _ _ q=>.inl q,fun _ _ _=>rfl,fun _ _ _ _ _ q=>q,hex.bd,.refl _⟩
  have avn:aE s.heap bJ (.chain 0 el τ.cells len) bJ = .chain 0 el τ.cells len:=by simp [aE]
  have h2:=h1.Lj hG VO atH (o:=.chain 0 el τ.cells len) ex0 (dX.refl _ _) rfl (fun k i q=>q.imp (fun x=>x) (fun x=>x.1))
    (by show Kept _ _ _ _ bJ (aE s.heap bJ (.chain 0 el τ.cells len) bJ) _; rw [avn]; exact .refl rfl fun _ _ _=>rfl)
    (.inr ⟨w.heap.size,atH,vn.new h,by simp,⟨_,_,_,hnew⟩,fun o hS=>by
      rcases hS with hS | ⟨_,hS⟩
      · exact absurd (h.bd _ _ hS) (by omega)
      · have:arr.size=len * τ.cells:=by simpa using hal
        omega⟩)
  have Bh:aE (aE s.heap bJ (.chain 0 el τ.cells len)) bJ (.chain 0 el τ.cells len)=aE s.heap bJ (.chain 0 el τ.cells len):=by
    funext j; unfold aE; cases Nat.beq j bJ <;> rfl
  have hR:R P (.sl τ) (fun b o=>S b o\/(b=w.heap.size/\o < arr.size)) (w.alloc (.cells arr el)) (⟨len,fun i=>(x :: xs).getD i x⟩:Sl τ.den) [.slice (some ⟨w.heap.size,0,none⟩) len len]:=by
    refine .inr ⟨w.heap.size,0,len,rfl,Nat.le_refl _,avm,vG (xs:=arr.toList) hal (fun j v hv=>?_) (fun i hi=>R.mono ((Iu f2 kG).2 i x hi) hex.toExt0)⟩
    have hj:j < arr.size:=by have:=(List.getElem?_eq_some_iff.1 hv).1; simpa using this
    refine ⟨.inr ⟨rfl,by omega⟩,?_⟩
    rw [Nat.zero_add]
    exact qI hnew j v hv
  refine ⟨rfl,_,_,F,(h2.put hd (sl:=.v (.own bJ 0 τ ⟨len,fun i=>(x :: xs).getD i x⟩)) ⟨hR,c4,0,el,τ.cells,len,?_,Nat.le_refl _,fun _=>⟨rfl,rfl,.inr ⟨w.heap.size,len,arr,atH,rfl,Nat.le_refl _,avm,hnew,by simpa using hal⟩⟩⟩).of_eq rfl ?_ rfl rfl⟩
  · show aE (aE s.heap bJ _) bJ _ bJ=_
    rw [Bh]; exact avn
  · exact Bh.symm
end Go.Dm

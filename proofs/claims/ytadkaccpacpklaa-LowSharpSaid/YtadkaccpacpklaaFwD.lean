/-
 The framework: an interpreter over typed data,and why what it says of a call is true.
-/
import Derived.Test.YtadkaccpacpklaaFwC
set_option linter.unusedVariables false
set_option linter.unusedSimpArgs false
namespace Go.Dm
open Go.RowKit
variable {P:Program} {N:Nat} {G:Gh} {S S':CS} {w w':World} {s:St} {a:Act} {ρ ρ':fV} {F F':Nat->Prop} {heap heap' H':Nat->aN} {Y:Value} {E:cO} {Γ:Ctx} {Fw:Fence} {r:Nat} {ops:Array Oper} {lo base:Nat} {aS:List gx} {fid:FuncId}
inductive Plain:List Loop->Prop
 | nil:Plain []
 | cons {n:Nat} {inner ls:List Loop} (h:Plain inner) (t:Plain ls):Plain (.gW n inner :: ls)
theorem Plain.take:∀ {ls:List Loop} (n:Nat),Plain ls->Plain (ls.take n)
 | [],n,_=>by simpa using Plain.nil
 | l :: ls,0,_=>.nil
 | l :: ls,n + 1,h=>by cases h with | cons a b=>exact .cons a (Plain.take n b)
theorem Plain.drop:∀ {ls:List Loop} (n:Nat),Plain ls->Plain (ls.drop n)
 | [],n,_=>by simpa using Plain.nil
 | l :: ls,0,h=>h
 | l :: ls,n + 1,h=>by cases h with | cons a b=>exact Plain.drop n b
def Tree.sure {α:Type}:Tree (Option α)->Option α
 | .leaf r=>r
 | .br b l r=>bif b then l.sure else r.sure
 | .any _ _=>none
theorem Tree.qB {α:Type} {y:α}:∀ {t:Tree (Option α)},t.sure=some y->t.kE (· = some y)
 | .leaf r,h=>h
 | .br b l r,h=>by
  cases b with
  | true=>exact (by simpa [Tree.kE] using Tree.qB (t:=l) h)
  | false=>exact (by simpa [Tree.kE] using Tree.qB (t:=r) h)
 | .any _ _,h=>by cases h
end Go.Dm
namespace Go.Dm
open Go.RowKit
def Ctx.of:List (FuncId×Ent)->Ctx
 | [],_=>none
 | p :: l,f=>match Nat.beq f p.1 with
  | true=>some p.2
  | false=>Ctx.of l f
theorem aD {P:Program}:∀ {l:List (FuncId×Ent)},(∀ p∈l,aE P p.1/\p.2.Ok P p.1)->Sound P (Ctx.of l)
 | [],_,f,c,h=>by cases h
 | p :: l,hl,f,c,h=>by
  simp only [Ctx.of] at h
  split at h
  ·rename_i hb
   cases h
   rw [Nat.eq_of_beq_eq_true hb]
   exact hl p (.head _)
  ·exact aD (fun p hp=>hl p (.tail _ hp)) f c h
end Go.Dm
namespace Go.Dm
open Go.RowKit
variable {P:Program} {N N':Nat} {G:Gh} {S S' S2:CS} {w w' w2:World} {s s2:St} {a a2:Act} {ρ ρ' ρ2:fV} {F F' F2:Nat->Prop} {heap heap' H' H2:Nat->aN} {Y:Value} {E:cO} {Γ:Ctx} {Fw:Fence} {r:Nat} {ops:Array Oper} {lo base:Nat} {aS:List gx}
end Go.Dm
namespace Go.Dm
open Go.RowKit
variable {P:Program} {N N':Nat} {G:Gh} {S S' S2:CS} {w w' w2:World} {s s2:St} {a a2:Act} {ρ ρ' ρ2:fV} {F F' F2:Nat->Prop} {heap heap' H' H2:Nat->aN} {Y:Value} {E:cO} {Γ:Ctx} {Fw:Fence} {r:Nat} {ops:Array Oper} {lo base:Nat} {aS:List gx} {vr Ma:Nat->Nat}
def aj:List aL->List aL
 | []=>[]
 | .box id cs :: ps=>.box id cs :: aj ps
 | .row id T e :: ps=>.row id T e :: aj ps
 | .mp id k v :: ps=>.mp id k v :: aj ps
 | .rows id T e :: ps=>.rows id T e :: aj ps
 | .slot _ _ :: ps=>aj ps
 | .agg _ _ :: ps=>aj ps
 | .tr _ :: ps=>aj ps
def dw:(ps:List aL)->(aa ps).den->(aa (aj ps)).den->Bool
 | [],_,_=>true
 | .box _ cs :: ps,x,y=>dw ps (show (cQ cs).den×(aa ps).den from x).2 (show (cQ cs).den×(aa (aj ps)).den from y).2
 | .row _ _ e :: ps,x,y=>Nat.beq (show Sl e.den×(aa ps).den from x).1.n (show Sl e.den×(aa (aj ps)).den from y).1.n && dw ps (show Sl e.den×(aa ps).den from x).2 (show Sl e.den×(aa (aj ps)).den from y).2
 | .mp _ k v :: ps,x,y=>dw ps (show (k.den->Option v.den)×(aa ps).den from x).2 (show (k.den->Option v.den)×(aa (aj ps)).den from y).2
 | .rows _ _ e :: ps,x,y=>Nat.beq (show Sl (Sl e.den)×(aa ps).den from x).1.n (show Sl (Sl e.den)×(aa (aj ps)).den from y).1.n && dw ps (show Sl (Sl e.den)×(aa ps).den from x).2 (show Sl (Sl e.den)×(aa (aj ps)).den from y).2
 | .slot _ c :: ps,x,y=>dw ps (show c.ty.den×(aa ps).den from x).2 y
 | .agg _ τ :: ps,x,y=>dw ps (show τ.den×(aa ps).den from x).2 y
 | .tr e :: ps,x,y=>dw ps (show Sl e.den×(aa ps).den from x).2 y
inductive IE (v:Nat):aN->aN->Prop
 | box (ds ds':List DC):IE v (.box ds) (.box ds')
 | row (u:Nat) (T:TypeId) (e:Ty) (a b:Sl e.den) (h:b.n=a.n):IE v (.row u T e a) (.row v T e b)
 | mp (k e:Ty) (m m':k.den->Option e.den):IE v (.mp k e m) (.mp k e m')
 | rows (u:Nat) (T:TypeId) (e:Ty) (a b:Sl (Sl e.den)) (h:b.n=a.n):IE v (.rows u T e a) (.rows (v + 1) T e b)
 | chain (u:Nat) (T:TypeId) (k n n':Nat):IE v (.chain u T k n) (.chain v T k n')
def Zt (ps:List aL):Bool:=ps.all fun
 | .slot _ c=>(qy [c]).isEmpty
 | .box _ cs=>(qy cs).isEmpty
 | _=>true
theorem Js:∀ {cs:List gm} {x y:(cQ cs).den},qy cs=[]->∀ p∈fW vr cs y,∃ o,(p.1,o)∈fW Ma cs x/\IE (vr p.1) o p.2
 | [],_,_,_,p,hp=>by simp [fW] at hp
 | c :: cs,x,y,hw,p,hp=>by
  have wT:qy cs=[]:=by cases c <;> first | exact hw | cases hw
  rcases List.mem_append.1 hp with hp | hp
  ·cases c with
   | own id T e =>
    simp only [kF,List.mem_singleton] at hp
    subst hp
    exact ⟨_,List.mem_append_left _ (List.mem_singleton.2 rfl),.chain ..⟩
   | rw id T e=>cases hw
   | _=>simp [kF] at hp
  ·obtain ⟨o,h1,h2⟩:=Js (x:=x.2) wT p hp
   exact ⟨o,List.mem_append_right _ h1,h2⟩
theorem js:∀ {ps:List aL} {x:(aa ps).den} {y:(aa (aj ps)).den},Zt ps=true->dw ps x y=true->∀ p∈aT vr (aj ps) y,∃ o,(p.1,o)∈aT Ma ps x/\IE (vr p.1) o p.2
 | [],_,_,_,_,p,hp=>by simp [aj,aT] at hp
 | .box id cs :: ps,x,y,hw,hs,p,hp=>by
  have hw:=hw
  simp only [Zt,List.all_cons,Bool.and_eq_true] at hw
  have hs:dw ps x.2 y.2=true:=hs
  simp only [aj,aT,List.cons_append,List.mem_cons,List.mem_append] at hp
  rcases hp with rfl | hp | hp
  ·exact ⟨_,by simp only [aT,List.cons_append]; exact .head _,.box ..⟩
  ·obtain ⟨o,h1,h2⟩:=Js (x:=(show (cQ cs).den from x.1)) (by simpa using hw.1) p hp
   exact ⟨o,by simp only [aT,List.cons_append]; exact .tail _ (List.mem_append_left _ h1),h2⟩
  ·obtain ⟨o,h1,h2⟩:=js hw.2 hs p hp
   exact ⟨o,by simp only [aT,List.cons_append]; exact .tail _ (List.mem_append_right _ h1),h2⟩
 | .row id T e :: ps,x,y,hw,hs,p,hp=>by
  have hs:(Nat.beq x.1.n y.1.n && dw ps x.2 y.2)=true:=hs
  rw [Bool.and_eq_true] at hs
  rcases List.mem_cons.1 hp with rfl | hp
  ·exact ⟨_,.head _,.row _ _ _ _ _ (Nat.eq_of_beq_eq_true hs.1).symm⟩
  ·obtain ⟨o,h1,h2⟩:=js (ps:=ps) hw hs.2 p hp
   exact ⟨o,.tail _ h1,h2⟩
 | .mp id k v :: ps,x,y,hw,hs,p,hp=>by
  have hs:dw ps x.2 y.2=true:=hs
  rcases List.mem_cons.1 hp with rfl | hp
  ·exact ⟨_,.head _,.mp ..⟩
  ·obtain ⟨o,h1,h2⟩:=js (ps:=ps) hw hs p hp
   exact ⟨o,.tail _ h1,h2⟩
 | .rows id T e :: ps,x,y,hw,hs,p,hp=>by
  have hs:(Nat.beq x.1.n y.1.n && dw ps x.2 y.2)=true:=hs
  rw [Bool.and_eq_true] at hs
  rcases List.mem_cons.1 hp with rfl | hp
  ·exact ⟨_,.head _,.rows _ _ _ _ _ (Nat.eq_of_beq_eq_true hs.1).symm⟩
  ·obtain ⟨o,h1,h2⟩:=js (ps:=ps) hw hs.2 p hp
   exact ⟨o,.tail _ h1,h2⟩
 | .slot t c :: ps,x,y,hw,hs,p,hp=>by
  simp only [Zt,List.all_cons,Bool.and_eq_true] at hw
  have hs:dw ps x.2 y=true:=hs
  obtain ⟨o,h1,h2⟩:=js (ps:=ps) hw.2 hs p hp
  exact ⟨o,List.mem_append_right _ h1,h2⟩
 | .agg t τ :: ps,x,y,hw,hs,p,hp=>by
  have hs:dw ps x.2 y=true:=hs
  exact js (ps:=ps) hw hs p hp
 | .tr e :: ps,x,y,hw,hs,p,hp=>by
  have hs:dw ps x.2 y=true:=hs
  exact js (ps:=ps) hw hs p hp
theorem Zu {lo lo':Nat} (hl:lo'<=lo):∀ {p:aL} {x:p.ty.den},Gs lo s p=some x->Gs lo' s p=some x:=by
 have hC:∀ {c:gm} {d:DC} {x:c.ty.den},sX lo s.heap c d=some x->sX lo' s.heap c d=some x:=by
  intro c d x h
  cases c <;> cases d <;> first | exact h | skip
  ·simp only [sX] at h ⊢
   split at h
   ·rename_i h1 h2
    simp only [Bool.and_eq_true] at h2
    have h3:=Nat.le_of_ble_eq_true h2.2
    simp only [h1,h2.1,Nat.ble_eq_true_of_le (Nat.le_trans hl h3),Bool.and_self]
    exact h
   ·cases h
  ·simp only [sX] at h ⊢
   split at h
   ·rename_i h1 h2
    simp only [Bool.and_eq_true] at h2
    have h3:=Nat.le_of_ble_eq_true h2.2
    simp only [h1,h2.1.1,h2.1.2,Nat.ble_eq_true_of_le (Nat.le_trans hl h3),Bool.and_self]
    exact h
   ·cases h
  ·rename_i n τ y
   cases τ with
   | int kk=>cases kk <;> exact h
   | _=>exact h
 have hCs:∀ {cs:List gm} {ds:List DC} {x:(cQ cs).den},Cw lo s.heap cs ds=some x->Cw lo' s.heap cs ds=some x:=by
  intro cs
  induction cs with
  | nil=>intro ds x h; cases ds <;> exact h
  | cons c cs ih =>
   intro ds x h
   obtain ⟨d,ds',rfl,h1,h2⟩:=vm h
   simp only [Cw,hC h1,ih h2]
 intro p x h
 cases p with
 | slot t c =>
  simp only [Gs] at h ⊢
  split at h
  ·exact hC h
  ·cases h
 | box id cs =>
  simp only [Gs] at h ⊢
  split at h
  ·exact hCs h
  ·cases h
 | _=>exact h
theorem KU {lo lo':Nat} (hl:lo'<=lo):∀ {ps:List aL} {x:(aa ps).den},rd lo s ps=some x->rd lo' s ps=some x
 | [],_,h=>h
 | p :: ps,x,h=>by
  obtain ⟨h1,h2⟩:=yC h
  simp only [rd,Zu hl h1,KU hl h2]
theorem KV (d:List gx):∀ (ps:List aL),rd lo { s with aS:=d } ps=rd lo s ps
 | []=>rfl
 | p :: ps=>by
  simp only [rd,KV d ps]
  cases p <;> rfl
theorem ade (hG:G.Ok P) (h:SR P N G s a w ρ S F) {ps:List aL} {x:(aa ps).den} (hx:rd G.lo s ps=some x) (i b:Nat) (hl:live (bG (aT vr ps x) i)) (hb:fo G.fu s.heap ρ i=some b):live (s.heap i)/\ρ i=some b:=by
 have hr:=h.Ai hG
 refine ⟨?_,hr.r2 i b hb⟩
 have hn:bG (aT vr ps x) i ≠ .none:=fun e=>by rw [e] at hl; exact hl
 have:=kZ h hx (vr:=vr) _ (dA hn)
 cases ho:bG (aT vr ps x) i with
 | none=>exact absurd ho hn
 | gone=>rw [ho] at hl; exact hl.elim
 | box ds=>rw [ho] at this; obtain ⟨_,e⟩:=this; simp only at e; rw [e]; trivial
 | row v T e y =>
  rw [ho] at this
  obtain ⟨v,e⟩ | ⟨e1,e2,e3⟩:=this
  ·simp only at e; rw [e]; trivial
  ·simp only at e1 e3; rw [hr.r3 i e1 e3] at hb; cases hb
 | mp k v m=>rw [ho] at this; rw [show s.heap i=_ from this]; trivial
 | rows _ T e d=>rw [ho] at this; obtain ⟨_,e⟩:=this; simp only at e; rw [e]; trivial
 | chain bB T k n =>
  rw [ho] at this
  obtain ⟨v,e⟩ | ⟨e1,e2,e3⟩:=this
  ·simp only at e; rw [e]; trivial
  ·simp only at e1 e3; rw [hr.r3 i e1 e3] at hb; cases hb
theorem Fp (hG:G.Ok P) (h:SR P N G s a w ρ S F) {ps:List aL} {x:(aa ps).den} (hx:rd G.lo s ps=some x) (i b:Nat) (hi:Own w (fo G.fu s.heap ρ) i (bG (aT vr ps x) i) b):Own w ρ i (s.heap i) b:=by
 by_cases hr:wI (bG (aT vr ps x) i)=false
 ·obtain ⟨l1,r1⟩:=ade hG h hx i b hi.lv (hi.flat hr)
  exact .of l1 r1
 ·have hn:bG (aT vr ps x) i ≠ .none:=fun e=>by rw [e] at hi; exact hi
  have Zv:=h.Ai hG
  have hlk:=kZ h hx (vr:=vr) _ (dA hn)
  cases ho:bG (aT vr ps x) i with
  | rows v T e d =>
   rw [ho] at hi hlk
   obtain ⟨v0,e0⟩:=hlk
   simp only at e0
   rw [e0]
   rcases hi with q | ⟨k,n,cap,b0,arr,T0,q1,q2⟩
   ·exact .inl (Zv.r2 i b q)
   ·exact .inr ⟨k,n,cap,b0,arr,T0,Zv.r2 i b0 q1,q2⟩
  | _=>rw [ho] at hr; exact absurd rfl hr
inductive GO (τr:Ty) (qs:List aL) where
 | ok (r:τr.den) (y:(aa qs).den)
 | cw (T:TypeId) (τ:Ty) (d:τ.den) (y:(aa qs).den)
 | bad
def Zw (P:Program) (fn:Func) (lo:Nat) (τr:Ty) (ps:List aL) (x:(aa ps).den):Out->Tree (GO τr (aj ps))
 | .ret s | .norm s=>match gH s.aS,jT P fn.results.toList τr (mK fn s),rd lo (mK fn s) (aj ps) with
  | true,some r,some y=>match dw ps x y with
   | true=>.leaf (.ok r y)
   | false=>.leaf .bad
  | _,_,_=>.leaf .bad
 | .cw (.Cm T τ d) s=>match gH s.aS,rd lo s (aj ps) with
  | true,some y=>match dw ps x y with
   | true=>.leaf (.cw T τ d y)
   | false=>.leaf .bad
  | _,_=>.leaf .bad
 | _=>.leaf .bad
def WV (P:Program) (E:cO) (Γ:Ctx) (fn:Func) (ls:List Loop) (lo:Nat) (τr:Ty) (ps:List aL) (x:(aa ps).den):Tree (GO τr (aj ps)):=
 match fn.body with
 | some c=>gF P E Γ lo fn.ntmps .any c ls (wr lo .none [] ps x) (Zw P fn lo τr ps x)
 | none=>.leaf .bad
def bL (heap:Nat->aN) (id:Nat):Nat:=match heap id with
 | .chain v _ _ _=>v + 1
 | .row v _ _ _=>v
 | .rows v _ _ _=>v
 | _=>0
def GO.or {τr:Ty} {qs:List aL} (heap:Nat->aN):GO τr qs->OR
 | .ok r y=>.ok ⟨some (mR τr r),aT (bL heap) qs y,de qs,false,none⟩
 | .cw T τ d y=>.cw (.Cm T τ d) ⟨none,aT (bL heap) qs y,de qs,false,none⟩
 | .bad=>.bad
def ajw (n:Nat) (τr:Ty) (ps:List aL) (run:(aa ps).den->Tree (GO τr (aj ps))) (args:List Slot) (heap:Nat->aN) (tr:Tr) (cv:Nat):Tree OR:=
 match Nat.ble args.length n,rd cv ⟨fun t=>args.getD t .top,heap,tr,0,[]⟩ ps with
 | true,some x=>(run x).map (GO.or heap)
 | _,_=>.leaf .bad
def lowIds (lo:Nat) (ps:List aL):Bool:=(gp ps).all (Nat.blt · lo) && (mC ps).all (Nat.blt · lo) && (sF ps).all (Nat.blt · lo)
def IF (lo:Nat) (ps:List aL):Bool:=jy ps && jy (aj ps) && uA (de (aj ps)) (de ps) && lowIds lo ps && !lS ps && !lS (aj ps) && Zt ps
theorem vn:∀ {l:List (Nat×aN)} {h:Nat->aN},(l.map (·.1)).Nodup->∀ i,dm h l i=bif (l.map (·.1)).any (Nat.beq i) then bG l i else h i
 | [],h,_,i=>rfl
 | p :: l,h,hn,i=>by
  rw [List.map_cons,List.nodup_cons] at hn
  obtain ⟨j,o⟩:=p
  show dm (ay h j o) l i=_
  rw [vn hn.2]
  simp only [List.map_cons,List.any_cons,bG]
  by_cases e:i=j
  ·subst e
   have:(l.map (·.1)).any (Nat.beq i)=false:=by
    cases hb:(l.map (·.1)).any (Nat.beq i) with
    | false=>rfl
    | true=>exact absurd (any_beq.1 hb) hn.1
   simp [this,ay]
  ·simp only [bC e,Bool.false_or,cond_false,ay]
theorem wY:∀ {ps:List aL} {x:(aa ps).den} {id:Nat} {ds:List DC},(id,aN.box ds)∈aT vr ps x->id∈gp ps:=by
 have hC:∀ {cs:List gm} {x:(cQ cs).den} {id:Nat} {ds:List DC},(id,aN.box ds) ∉ fW vr cs x:=by
  intro cs
  induction cs with
  | nil=>intro x id ds h; simp [fW] at h
  | cons c cs ih =>
   intro x id ds h
   rcases List.mem_append.1 h with h | h
   ·cases c <;> simp [kF] at h
   ·exact ih h
 intro ps
 induction ps with
 | nil=>intro x id ds h; simp [aT] at h
 | cons p ps ih =>
  intro x id ds h
  cases p with
  | slot t c =>
   rcases List.mem_append.1 h with h | h
   ·cases c <;> simp [kF] at h
   ·exact ih h
  | agg t τ=>exact ih (x:=x.2) h
  | box i cs =>
   simp only [aT,List.cons_append,List.mem_cons,List.mem_append,Prod.mk.injEq] at h
   rcases h with h | h | h
   ·rw [h.1]; exact .head _
   ·exact absurd h hC
   ·exact .tail _ (ih h)
  | row i T e =>
   simp only [aT,List.mem_cons,Prod.mk.injEq] at h
   rcases h with h | h
   ·cases h.2
   ·exact ih h
  | mp i k v =>
   simp only [aT,List.mem_cons,Prod.mk.injEq] at h
   rcases h with h | h
   ·cases h.2
   ·exact ih h
  | rows i T e =>
   simp only [aT,List.mem_cons,Prod.mk.injEq] at h
   rcases h with h | h
   ·cases h.2
   ·exact ih h
  | tr e=>exact ih (x:=x.2) h
theorem wZ:∀ {ps:List aL} {x:(aa ps).den} {id v:Nat} {T:TypeId} {e:Ty} {y:Sl e.den},(id,aN.row v T e y)∈aT vr ps x->id∈mC ps:=by
 have hC:∀ {cs:List gm} {x:(cQ cs).den} {id v:Nat} {T:TypeId} {e:Ty} {y:Sl e.den},(id,aN.row v T e y)∈fW vr cs x->id∈qy cs:=by
  intro cs
  induction cs with
  | nil=>intro x id v T e y h; simp [fW] at h
  | cons c cs ih =>
   intro x id v T e y h
   rcases List.mem_append.1 h with h | h
   ·cases c with
    | rw i T1 e1 =>
     simp only [kF,List.mem_singleton,Prod.mk.injEq] at h
     rw [h.1]; exact .head _
    | _=>simp [kF] at h
   ·cases c with
    | rw i T1 e1=>exact .tail _ (ih h)
    | _=>exact ih h
 intro ps
 induction ps with
 | nil=>intro x id v T e y h; simp [aT] at h
 | cons p ps ih =>
  intro x id v T e y h
  cases p with
  | slot t c =>
   rcases List.mem_append.1 h with h | h
   ·cases c with
    | rw i T1 e1 =>
     simp only [kF,List.mem_singleton,Prod.mk.injEq] at h
     rw [h.1]; exact .head _
    | _=>simp [kF] at h
   ·exact List.mem_append_right _ (ih h)
  | agg t τ=>exact ih (x:=x.2) h
  | box i cs =>
   simp only [aT,List.cons_append,List.mem_cons,List.mem_append,Prod.mk.injEq] at h
   rcases h with h | h | h
   ·cases h.2
   ·exact List.mem_append_left _ (hC h)
   ·exact List.mem_append_right _ (ih h)
  | row i T e =>
   simp only [aT,List.mem_cons,Prod.mk.injEq] at h
   rcases h with h | h
   ·rw [h.1]; exact .head _
   ·exact .tail _ (ih h)
  | mp i k v =>
   simp only [aT,List.mem_cons,Prod.mk.injEq] at h
   rcases h with h | h
   ·cases h.2
   ·exact ih h
  | rows i T e =>
   simp only [aT,List.mem_cons,Prod.mk.injEq] at h
   rcases h with h | h
   ·cases h.2
   ·exact ih h
  | tr e=>exact ih (x:=x.2) h
theorem Ak:∀ {ps:List aL} {x:(aa ps).den} {id:Nat} {k v:Ty} {y:k.den->Option v.den},(id,aN.mp k v y)∈aT vr ps x->id∈sF ps:=by
 have hC:∀ {cs:List gm} {x:(cQ cs).den} {id:Nat} {k v:Ty} {y:k.den->Option v.den},(id,aN.mp k v y) ∉ fW vr cs x:=by
  intro cs
  induction cs with
  | nil=>intro x id k v y h; simp [fW] at h
  | cons c cs ih =>
   intro x id k v y h
   rcases List.mem_append.1 h with h | h
   ·cases c <;> simp [kF] at h
   ·exact ih h
 intro ps
 induction ps with
 | nil=>intro x id k v y h; simp [aT] at h
 | cons p ps ih =>
  intro x id k v y h
  cases p with
  | slot t c =>
   rcases List.mem_append.1 h with h | h
   ·cases c <;> simp [kF] at h
   ·exact ih h
  | agg t τ=>exact ih (x:=x.2) h
  | box i cs =>
   simp only [aT,List.cons_append,List.mem_cons,List.mem_append,Prod.mk.injEq] at h
   rcases h with h | h | h
   ·cases h.2
   ·exact absurd h hC
   ·exact ih h
  | row i T e =>
   simp only [aT,List.mem_cons,Prod.mk.injEq] at h
   rcases h with h | h
   ·cases h.2
   ·exact ih h
  | mp i T e =>
   simp only [aT,List.mem_cons,Prod.mk.injEq] at h
   rcases h with h | h
   ·rw [h.1]; exact .head _
   ·exact .tail _ (ih h)
  | rows i T e =>
   simp only [aT,List.mem_cons,Prod.mk.injEq] at h
   rcases h with h | h
   ·cases h.2
   ·exact .tail _ (ih h)
  | tr e=>exact ih (x:=x.2) h
theorem xb:∀ {ps:List aL} {x:(aa ps).den} {id:Nat} {v:Nat} {T:TypeId} {e:Ty} {y:Sl (Sl e.den)},(id,aN.rows v T e y)∈aT vr ps x->id∈sF ps:=by
 have hC:∀ {cs:List gm} {x:(cQ cs).den} {id:Nat} {v:Nat} {T:TypeId} {e:Ty} {y:Sl (Sl e.den)},(id,aN.rows v T e y) ∉ fW vr cs x:=by
  intro cs
  induction cs with
  | nil=>intro x id v T e y h; simp [fW] at h
  | cons c cs ih =>
   intro x id v T e y h
   rcases List.mem_append.1 h with h | h
   ·cases c <;> simp [kF] at h
   ·exact ih h
 intro ps
 induction ps with
 | nil=>intro x id v T e y h; simp [aT] at h
 | cons p ps ih =>
  intro x id v T e y h
  cases p with
  | slot t c =>
   rcases List.mem_append.1 h with h | h
   ·cases c <;> simp [kF] at h
   ·exact ih h
  | agg t τ=>exact ih (x:=x.2) h
  | box i cs =>
   simp only [aT,List.cons_append,List.mem_cons,List.mem_append,Prod.mk.injEq] at h
   rcases h with h | h | h
   ·cases h.2
   ·exact absurd h hC
   ·exact ih h
  | row i T e =>
   simp only [aT,List.mem_cons,Prod.mk.injEq] at h
   rcases h with h | h
   ·cases h.2
   ·exact ih h
  | mp i k e' =>
   simp only [aT,List.mem_cons,Prod.mk.injEq] at h
   rcases h with h | h
   ·cases h.2
   ·exact .tail _ (ih h)
  | rows i T' e' =>
   simp only [aT,List.mem_cons,Prod.mk.injEq] at h
   rcases h with h | h
   ·rw [h.1]; exact .head _
   ·exact .tail _ (ih h)
  | tr e'=>exact ih (x:=x.2) h
def seen (w:World) (H:Nat->aN) (ρ:fV) (b:Nat):Prop:=∃ id,Own w ρ id (H id) b
def bP (H:Nat->aN) (ρ:fV) (id:Nat):Option Nat:=match H id with
 | .box _=>ρ id
 | .row _ _ _ _=>ρ id
 | .mp _ _ _=>ρ id
 | .rows _ _ _ _=>ρ id
 | _=>none
theorem SR.enter (h:SR P N G s a w ρ S F) {lo:Nat} {l:Nat} (hl:l=G.l):SR P N (Gh.inner (seen w s.heap ρ) S w l lo (bP s.heap ρ)) { s with tr:=.none,aS:=[] } { a with defers:=[] } w ρ S (fun _=>False):=by
 subst hl
 have Zx:∀ id b,Own w ρ id (s.heap id) b->ve (Gh.inner (seen w s.heap ρ) S w G.l lo (bP s.heap ρ)) (fun _=>False) b:=fun id b h1=>⟨.inr ⟨id,h1⟩,fun q=>q⟩
 have vT:∀ id b,live (s.heap id)->ρ id=some b->ve (Gh.inner (seen w s.heap ρ) S w G.l lo (bP s.heap ρ)) (fun _=>False) b:=fun id b h1 h2=>Zx id b (.of h1 h2)
 refine ⟨h.size,trivial,h.env,fun id=>?_,h.inj,.refl h.bd,fun _ _ q=>.inl q,.refl _ _,dH _ _ _,fun _ q=>q.elim,fun _ _ q=>q,fun _ q=>q,fun _ _ _ _=>trivial,fun id b hb=>?_⟩
 ·have:=h.obj id
  cases ho:s.heap id with
  | none=>simp only [ho]; trivial
  | gone=>simp only [ho]; trivial
  | box ds =>
   rw [ho] at this
   obtain ⟨b,arr,T,q1,q2,q3⟩:=this
   simp only [ho]
   exact ⟨b,arr,T,q1,vT id b (by rw [ho]; trivial) q1,q3⟩
  | chain cur T k n =>
   rw [ho] at this
   simp only [ho]
   rcases this with ⟨q1,q2⟩ | ⟨b,q1,q2,q3⟩
   ·exact .inl ⟨q1,q2⟩
   ·exact .inr ⟨b,q1,vT id b (by rw [ho]; trivial) q1,q3⟩
  | row cur T e x =>
   rw [ho] at this
   simp only [ho]
   obtain ⟨q0,⟨q1,q2⟩ | ⟨b,arr,q1,q2,q3⟩⟩:=this
   ·exact ⟨q0,.inl ⟨q1,q2⟩⟩
   ·exact ⟨q0,.inr ⟨b,arr,q1,vT id b (by rw [ho]; trivial) q1,q3⟩⟩
  | mp k v m =>
   rw [ho] at this
   obtain ⟨b,es,c,q1,q2,q3⟩:=this
   simp only [ho]
   exact ⟨b,es,c,q1,vT id b (by rw [ho]; trivial) q1,q3⟩
  | rows cur T e d =>
   rw [ho] at this
   simp only [ho]
   obtain ⟨q0,b,arr,T',q1,q2,q3,q4,q5,q6,q7⟩:=this
   refine ⟨q0,b,arr,T',q1,vT id b (by rw [ho]; trivial) q1,q3,q4,q5,q6,fun i hi=>?_⟩
   obtain ⟨ad,cap,z1,z2⟩:=q7 i hi
   refine ⟨ad,cap,z1,z2.imp (fun x=>x) fun ⟨z0,b',gC,Vc,z3,z4,z5,z6⟩=>⟨z0,b',gC,Vc,z3,z4,Zx id b' ?_,z6⟩⟩
   rw [ho]
   exact .inr ⟨i,(d.g i).n - 1,cap,b,arr,T',q1,q3,by rw [<- z3,Nat.sub_add_cancel (by omega)]; exact z1⟩
 ·have hb:bP s.heap ρ id=some b:=hb
  unfold bP at hb
  show ρ id=some b/\dS (s.heap id)=false
  split at hb
  ·rename_i ho; rw [ho]; exact ⟨hb,rfl⟩
  ·rename_i ho; rw [ho]; exact ⟨hb,rfl⟩
  ·rename_i ho; rw [ho]; exact ⟨hb,rfl⟩
  ·rename_i ho; rw [ho]; exact ⟨hb,rfl⟩
  ·cases hb
end Go.Dm
namespace Go.Dm
open Go.RowKit
variable {P:Program} {N N':Nat} {G:Gh} {S S' S2:CS} {w w' w2:World} {s s2:St} {a a2:Act} {ρ ρ' ρ2:fV} {F F' F2:Nat->Prop} {heap heap' H' H2:Nat->aN} {Y:Value} {E:cO} {Γ:Ctx} {Fw:Fence} {r:Nat} {ops:Array Oper} {lo base:Nat} {aS:List gx} {vr Ma:Nat->Nat}
def Gh.callee (G:Gh) (S:CS) (w:World) (heap:Nat->aN) (ρ:fV) (lo:Nat) (ps:List aL) (x:(aa ps).den):Gh:=
 Gh.inner (seen w (bG (aT (fun _=>0) ps x)) (fo G.fu heap ρ)) S w G.l lo (bP (bG (aT (fun _=>0) ps x)) (fo G.fu heap ρ))
theorem Al {ps:List aL} {x:(aa ps).den} (hw:IF lo ps=true):(G.callee S w heap ρ lo ps x).Ok P:=by
 simp only [IF,Bool.and_eq_true] at hw
 obtain ⟨⟨⟨⟨⟨⟨w1,w2⟩,w3⟩,w4⟩,w5⟩,w6⟩,w7⟩:=hw
 simp only [lowIds,Bool.and_eq_true,List.all_eq_true,Nat.blt_eq] at w4
 refine yD fun id b hb=>?_
 have key:∀ o,bG (aT (fun _=>0) ps x) id=o->o ≠ .none->(id,o)∈aT (fun _=>0) ps x:=fun o ho hn=>by subst ho; exact dA hn
 unfold bP at hb
 split at hb
 ·rename_i ho; exact w4.1.1 id (wY (key _ ho (by simp)))
 ·rename_i ho; exact w4.1.2 id (wZ (key _ ho (by simp)))
 ·rename_i ho; exact w4.2 id (Ak (key _ ho (by simp)))
 ·rename_i ho; exact w4.2 id (xb (key _ ho (by simp)))
 ·cases hb
theorem Am (hG:G.Ok P) (h:SR P N G s a w ρ S F) {ps:List aL} {x:(aa ps).den} (hw:IF lo ps=true) {sv:St} {av:Act} (hv:SR P N' G sv av w ρ S F) (SJ:sv.heap=s.heap) (hx:rd G.lo sv ps=some x)
  {s':St} (q:SR P N' (G.callee S w s.heap ρ lo ps x) s' a2 w' ρ' S' F') (hd:s'.aS=[]) {y:(aa (aj ps)).den} (hy:rd lo s' (aj ps)=some y) (hs:dw ps x y=true) :
  ∃ Fq,SR P N G { s with heap:=dm s.heap (aT (bL s.heap) (aj ps) y) } a w' Fq S' F:=by
 have wT:=hw
 simp only [IF,Bool.and_eq_true,Bool.not_eq_true'] at hw
 obtain ⟨⟨⟨⟨⟨⟨w1,w2⟩,w3⟩,w4⟩,w5⟩,w6⟩,w7⟩:=hw
 have w3:=fZ w3
 have Cy:(G.callee S w s.heap ρ lo ps x).Ok P:=Al wT
 obtain ⟨n1,n2⟩:nW (de ps)=true/\nW (de (aj ps))=true:=by
  simp only [jy,Bool.and_eq_true] at w1 w2
  exact ⟨w1.1,w2.1⟩
 have xU:((aT (fun _=>0) ps x).map (·.1)).Nodup:=by rw [dO]; exact eS n1
 have hn2:((aT (bL s.heap) (aj ps) y).map (·.1)).Nodup:=by rw [dO]; exact eS n2
 have h3:=qz Cy q (vr:=bL s.heap) (t:=.none) w2 (by rw [hd]; rfl) (.inr (dH _ _ _)) (show rd (G.callee S w s.heap ρ lo ps x).lo s' (aj ps)=some y from hy)
 have xd:=hv.Ai hG
 rw [SJ] at xd
 let D:Nat->Bool:=fun id=>((aT (bL s.heap) (aj ps) y).map (·.1)).any (Nat.beq id)
 have Jt:∀ id,D id=true->∃ o,(id,o)∈aT (bL s.heap) (aj ps) y/\bG (aT (bL s.heap) (aj ps) y) id=o:=fun id hid=>by
  obtain ⟨p,hp,rfl⟩:=List.mem_map.1 (any_beq.1 hid)
  exact ⟨p.2,hp,ff hn2 p hp⟩
 have qC:=kZ hv hx (vr:=fun _=>0)
 rw [SJ] at qC
 -- a named object of one that stays
 have dn:∀ id,D id=true->∃ o0 o,(id,o0)∈aT (fun _=>0) ps x/\bG (aT (fun _=>0) ps x) id=o0/\bG (aT (bL s.heap) (aj ps) y) id=o/\IE (bL s.heap id) o0 o/\QC G.lo s.heap id o0:=fun id hid=>by
  obtain ⟨o,ho,hf⟩:=Jt id hid
  obtain ⟨o0,h1,h2⟩:=js (Ma:=fun _=>0) w7 hs _ ho
  exact ⟨o0,o,h1,ff xU _ h1,hf,h2,qC _ h1⟩
 have hblk:∀ id,live (s.heap id)->dS (s.heap id)=false->Ql (s.heap id)=false->∃ b,ρ id=some b:=fun id hl hc Zv=>by
  have:=h.obj id
  cases ho:s.heap id with
  | none=>rw [ho] at hl; exact hl.elim
  | gone=>rw [ho] at hl; exact hl.elim
  | box ds=>rw [ho] at this; obtain ⟨b,_,_,hb,_⟩:=this; exact ⟨b,hb⟩
  | chain _ _ _ _=>rw [ho] at hc; cases hc
  | row cur T e x=>rw [ho] at Zv; cases Zv
  | mp k v m=>rw [ho] at this; obtain ⟨b,_,_,hb,_⟩:=this; exact ⟨b,hb⟩
  | rows _ T e d=>rw [ho] at this; obtain ⟨_,b,_,_,hb,_⟩:=this; exact ⟨b,hb⟩
 have kM:=h3.pins
 -- what is pinned has stayed in its block
 have yE:∀ id b,bP (bG (aT (fun _=>0) ps x)) (fo G.fu s.heap ρ) id=some b->fo (G.callee S w s.heap ρ lo ps x).fu s'.heap ρ' id=some b:=fun id b hb=>(kM id b hb).1
 have hK:∀ id,D id=true->Kept w w' ρ (fo (G.callee S w s.heap ρ lo ps x).fu s'.heap ρ') id (s.heap id) (bG (aT (bL s.heap) (aj ps) y) id):=fun id hid=>by
  obtain ⟨o0,o,h1,ID,hf,An,hlk⟩:=dn id hid
  rw [hf]
  cases An with
  | box ds ds' =>
   obtain ⟨Zk,e⟩:=hlk
   obtain ⟨b,hb⟩:=hblk id (by rw [e]; trivial) (by rw [e]; rfl) (by rw [e]; rfl)
   have:=yE id b (by unfold bP; rw [ID]; exact (xd.r1 id (by rw [e]; simp)).trans hb)
   rw [e]
   exact .inr ⟨⟨_,rfl⟩,this.trans hb.symm⟩
  | row u T e a b hn =>
   rcases hlk with ⟨v0,e1⟩ | ⟨e1,e2,e3⟩
   case inr=>rw [e1]; trivial
   have hv:bL s.heap id=v0:=by unfold bL; rw [e1]
   have QJ:fo (G.callee S w s.heap ρ lo ps x).fu s'.heap ρ' id=ρ id\/a.n=0/\ρ id=none:=by
    have Bq:=h.obj id
    rw [e1] at Bq
    cases hb:ρ id with
    | some bb=>exact .inl (yE id bb (by unfold bP; rw [ID]; exact (xd.r1 id (by rw [e1]; simp)).trans hb))
    | none =>
     obtain ⟨_,⟨_,q⟩ | ⟨b1,_,q,_⟩⟩:=Bq
     ·exact .inr ⟨q,rfl⟩
     ·rw [hb] at q; cases q
   rw [e1]
   exact .inr ⟨_,_,rfl,by omega,fun _=>⟨hn,QJ⟩⟩
  | mp k e m m' =>
   have e1:s.heap id = .mp k e m:=hlk
   obtain ⟨bb,hb⟩:=hblk id (by rw [e1]; trivial) (by rw [e1]; rfl) (by rw [e1]; rfl)
   have:=yE id bb (by unfold bP; rw [ID]; exact (xd.r1 id (by rw [e1]; simp)).trans hb)
   rw [e1]
   exact .inr ⟨⟨_,rfl⟩,this.trans hb.symm⟩
  | rows u T e a b hn =>
   obtain ⟨v0,e1⟩:=hlk
   obtain ⟨bb,hb⟩:=hblk id (by rw [e1]; trivial) (by rw [e1]; rfl) (by rw [e1]; rfl)
   have:=yE id bb (by unfold bP; rw [ID]; exact (xd.r1 id (by rw [e1]; simp)).trans hb)
   have hv:bL s.heap id=v0:=by unfold bL; rw [e1]
   rw [e1]
   exact .inr ⟨_,_,rfl,by omega,hn,this.trans hb.symm,fun q=>by omega⟩
  | chain u T k n n' =>
   rcases hlk with ⟨v,e⟩ | ⟨e1,e2,e3⟩
   ·rw [e]
    have hv:bL s.heap id=v + 1:=by unfold bL; rw [e]
    exact ⟨bL s.heap id,n',rfl,by omega,fun q=>by omega⟩
   ·rw [e1]; trivial
 have kL:=h.back hG (D:=D) (s2:=wrV (bL s.heap) lo .none [] (aj ps) y) (M:=seen w (bG (aT (fun _=>0) ps x)) (fo G.fu s.heap ρ)) (lo:=lo) (fu:=bP (bG (aT (fun _=>0) ps x)) (fo G.fu s.heap ρ))
  (h3.of_eq rfl rfl rfl hd.symm) (fun b hb=>?_) (fun id hn=>?_) hK (fun id b hid hb=>?_)
 ·have hheap:dm s.heap (aT (bL s.heap) (aj ps) y)=dD D (wrV (bL s.heap) lo .none [] (aj ps) y).heap s.heap:=by
   funext i
   rw [vn hn2]
   rfl
  exact ⟨_,kL.of_eq rfl hheap rfl rfl⟩
 ·obtain ⟨id,hl⟩:=hb
  have l1:=Fp hG hv hx (vr:=fun _=>0) id b (by rw [SJ]; exact hl)
  rw [SJ] at l1
  refine ⟨id,?_,l1⟩
  have hne:bG (aT (fun _=>0) ps x) id ≠ .none:=fun e=>by rw [e] at hl; exact hl
  have hmem:id∈de ps:=by rw [<- dO (bB:=fun _=>0) (x:=x)]; exact List.mem_map.2 ⟨_,dA hne,rfl⟩
  show ((aT (bL s.heap) (aj ps) y).map (·.1)).any (Nat.beq id)=true
  rw [dO]
  exact any_beq.2 (w3 ▸ hmem)
 ·have hn:bG (aT (bL s.heap) (aj ps) y) id ≠ .none:=hn
  exact any_beq.2 (List.mem_map.2 ⟨_,dA hn,rfl⟩)
 ·obtain ⟨p1,p2⟩:=h.pins id b hb
  obtain ⟨o0,o,h1,ID,hf,An,hlk⟩:=dn id hid
  have aqK:∀ o',bG (aT (fun _=>0) ps x) id=o'->(∀ c T k n,o' ≠ .chain c T k n)->bP (bG (aT (fun _=>0) ps x)) (fo G.fu s.heap ρ) id=some b ->
    fo (G.callee S w s.heap ρ lo ps x).fu s'.heap ρ' id=some b/\dS (bG (aT (bL s.heap) (aj ps) y) id)=false:=fun o' _ _ hp=>kM id b hp
  have tY:∀ o,s.heap id=o->o ≠ .none->fo G.fu s.heap ρ id=some b:=fun o ho hn=>(xd.r1 id (by rw [ho]; exact hn)).trans p1
  cases An with
  | box ds ds' =>
   obtain ⟨Zk,e⟩:=hlk
   exact kM id b (by show bP _ _ id=some b; unfold bP; rw [ID]; exact tY _ e (by simp))
  | row u T e a b hn =>
   rcases hlk with ⟨v0,e1⟩ | ⟨e1,e2,e3⟩
   ·exact kM id _ (by show bP _ _ id=some _; unfold bP; rw [ID]; exact tY _ e1 (by simp))
   ·have:=hG.fu id _ hb; omega
  | rows u T e a b' hn=>obtain ⟨v0,e1⟩:=hlk; exact kM id _ (by show bP _ _ id=some _; unfold bP; rw [ID]; exact tY _ e1 (by simp))
  | mp k e m m'=>exact kM id _ (by show bP _ _ id=some _; unfold bP; rw [ID]; exact tY _ hlk (by simp))
  | chain u T k n n' =>
   rcases hlk with ⟨v,e⟩ | ⟨e1,e2,e3⟩
   ·rw [e] at p2; cases p2
   ·have:=hG.fu id b hb; omega
theorem QK (hm:P.follows .mixedOrders=true) (hΓ:Sound P Γ) (hE:fI P E.eq) (hK:ez P E.key) {f:FuncId} {fn:Func} {c:Code} (hf:P.funcs[f]? = some fn) (hb:fn.body=some c) {ls:List Loop}
    {τr:Ty} {ps:List aL} (hw:IF lo ps=true) (hl:∀ G':Gh,G'.lo=lo->G'.lU->G'.Ok P->iW P fn.ntmps G' f Fence.wide 0 c ls)
    {run:(aa ps).den->Tree (GO τr (aj ps))} (hrun:∀ x,(∀ go,(run x).Has go->go ≠ .bad)->∀ go,(WV P E Γ fn ls lo τr ps x).Has go->(run x).Has go) :
    fH P f (ajw fn.ntmps τr ps run):=by
  intro N G s a w ρ S F hG h args us cv hlen hargs hlo hall _
  unfold ajw at hall ⊢
  split at hall
  case h_2=>exact (hall .bad rfl rfl).elim
  rename_i x hn hx
  have hx:=KU hlo hx
  have wT:=hw
  simp only [IF,Bool.and_eq_true,Bool.not_eq_true'] at hw
  obtain ⟨⟨⟨⟨⟨⟨w1,w2⟩,w3⟩,w4⟩,w5⟩,w6⟩,w7⟩:=hw
  have cC:∀ go,(run x).Has go->go ≠ .bad:=fun go Pu e=>by
    subst e
    exact hall _ (Tree.dz (f:=GO.or s.heap) Pu) rfl
  have wM:us.length<=fn.ntmps:=by rw [<- hlen]; exact Nat.le_of_ble_eq_true hn
  have hv:SR P fn.ntmps G ⟨fun t=>args.getD t .top,s.heap,s.tr,0,[]⟩ (lV fn.ntmps us) w ρ S F:=by
    refine ⟨ld wM,trivial,fun t=>?_,h.obj,h.inj,h.ext,h.new,h.same,h.tr,h.fb,h.f0,h.sub,h.fs,h.pins⟩
    rw [nH]
    by_cases ht:t < args.length
    · have e1:args.getD t .top=args[t]:=by simp [List.getD_eq_getElem?_getD,ht]
      have e2:us.getD t undef=us[t]'(by omega):=by simp [List.getD_eq_getElem?_getD,show t < us.length by omega]
      show RS P G.Y S w s.heap ρ (args.getD t .top) _
      rw [e1,e2]
      exact hargs t _ _ (List.getElem?_eq_getElem ht) (List.getElem?_eq_getElem _)
    · have e1:args.getD t .top = .top:=by simp [List.getD_eq_getElem?_getD,show args.length<=t by omega]
      show RS P G.Y S w s.heap ρ (args.getD t .top) _
      rw [e1]; trivial
  have h1:=qz hG hv (vr:=fun _=>0) (t:=s.tr) w1 rfl (.inr h.tr) hx
  have h2:SR P fn.ntmps (G.callee S w s.heap ρ lo ps x) (wr lo .none [] ps x) (lV fn.ntmps us) w (fo G.fu s.heap ρ) S (fun _=>False):=
    (h1.enter (lo:=lo) (l:=G.l) rfl).of_eq rfl rfl (gG w5) rfl
  have Cy:(G.callee S w s.heap ρ lo ps x).Ok P:=Al wT
  have sY:Env P E Γ (G.callee S w s.heap ρ lo ps x) Fence.wide:=⟨hm,hΓ,hE,hK,Cy,.wide,fun _=>rfl⟩
  have hR:=hrun x cC
  unfold WV at hR
  rw [hb] at hR
  simp only at hR
  refine (callsIn_wide (n:=0)).1 (fN hf hb trivial ?_)
  refine dG (dy (G:=G.callee S w s.heap ρ lo ps x) (K:=Zw P fn lo τr ps x) (ch:=Tree.any) (T:=fun t:Tree (GO τr (aj ps))=>∀ go,t.Has go->(run x).Has go) sY
    (fun a b q=>⟨fun go hg=>q go (.inl hg),fun go hg=>q go (.inr hg)⟩) ⟨fun q=>cC _ (q .bad rfl) rfl,fun s' q=>(cC _ (q .bad rfl) rfl).elim⟩ hR (hl _ rfl dH Cy) ⟨_,_,_,h2⟩) ?_
  rintro e a' w' ⟨o,ho,hT⟩
  have fin:∀ s',SX P fn.ntmps (G.callee S w s.heap ρ lo ps x) s' a' w'->(∀ go,(Zw P fn lo τr ps x (.ret s')).Has go->(run x).Has go) ->
      LeavesInM Fence.wide 0 P fn a'.tmps (fun e w'=>∃ r,((run x).map (GO.or s.heap)).Has r/\yf P N G s a r e w') a'.defers .returning w':=by
    intro s' hs' hT
    simp only [Zw] at hT
    split at hT
    case h_2=>exact (cC _ (hT .bad rfl) rfl).elim
    rename_i r y hmk Nu hrd
    split at hT
    case h_2=>exact (cC _ (hT .bad rfl) rfl).elim
    rename_i hsm
    have Pu:=hT _ rfl
    obtain ⟨ρ',S',F',hs⟩:=hs'.er Cy (rP fn.results.toList)
    refine gr Cy (by simp) _ rfl (by rw [iB]; exact hmk) hs fun w'' q1 _=>?_
    obtain ⟨us',r1,r2⟩:=jH (s:={ mK fn s' with aS:=[] }) (fn:=fn) (τ:=τr) (y:=r) q1 ((qA ..).trans Nu)
    obtain ⟨Fq,hb⟩:=Am hG h wT hv rfl hx (s':={ mK fn s' with aS:=[] }) q1 rfl ((KV _ _).trans hrd) hsm
    exact ⟨_,r1,_,Tree.dz (f:=GO.or s.heap) Pu,pack us',Fq,S',F,rfl,hb.of_eq rfl rfl rfl rfl,nS r2⟩
  cases o with
  | norm s'=>cases e <;> first | exact ho.elim | exact fin s' ho hT
  | ret s'=>cases e <;> first | exact ho.elim | exact fin s' ho hT
  | exit id s'=>exact (cC _ (hT .bad rfl) rfl).elim
  | bad=>exact (cC _ (hT .bad rfl) rfl).elim
  | cw d s' =>
    cases e <;> try exact ho.elim
    cases d with
    | Cm T τ d =>
      simp only [Zw] at hT
      split at hT
      case h_2=>exact (cC _ (hT .bad rfl) rfl).elim
      rename_i y hmk hrd
      split at hT
      case h_2=>exact (cC _ (hT .bad rfl) rfl).elim
      rename_i hsm
      have Pu:=hT _ rfl
      obtain ⟨u,ρ',S',F',hch,hs,hu⟩:=ho
      subst hch
      obtain ⟨u0,Qo,hu2⟩:=hu
      refine gr Cy (by simp) _ rfl hmk hs fun w'' q1 q2=>?_
      obtain ⟨Fq,hb⟩:=Am hG h wT hv rfl hx (s':={ s' with aS:=[] }) q1 rfl ((KV _ _).trans hrd) hsm
      exact ⟨_,Tree.dz (f:=GO.or s.heap) Pu,_,rfl,u,Fq,S',F,rfl,hb.of_eq rfl rfl rfl rfl,u0,Qo,q2 _ _ _ hu2⟩
    | _=>exact (cC _ (hT .bad rfl) rfl).elim
end Go.Dm
namespace Go.Dm
open Go.RowKit
variable {P:Program} {N N':Nat} {G:Gh} {S S' S2:CS} {w w' w2:World} {s s2:St} {a a2:Act} {ρ ρ' ρ2:fV} {F F' F2:Nat->Prop} {heap heap' H' H2:Nat->aN} {Y:Value} {E:cO} {Γ:Ctx} {Fw:Fence} {r:Nat} {ops:Array Oper} {lo base:Nat} {aS:List gx} {vr Ma:Nat->Nat} {n:Nat}
def QL (P:Program) (l:Nat) (R:Ending->World->Prop):Exit->Act->World->Prop
 | .normal,_,w=>∃ v w',(Instr.endRound l none).run P w = .ok v w'/\R (.returned v) w'
 | .ret,_,w=>∃ v w',(Instr.endRound l (some .ret)).run P w = .ok v w'/\R (.returned v) w'
 | .exit id,_,w=>∃ v w',(Instr.endRound l (some (.exit id))).run P w = .ok v w'/\R (.returned v) w'
 | .panic chain,a,w=>a.defers=[]/\R (.panicked chain) w
 | _,_,_=>False
def Zy (c:LY) (x:c.fst.den) (y:c.cap.den):St:=
 ⟨fun t=>(dP c.fst x ++ .v .jc :: dP c.cap y).getD t .top,fun _=>.none,⟨c.e,true,⟨0,fun _=>c.e.dflt⟩⟩,0,[]⟩
inductive Fs where
 | full (t:Tr)
 | stop (t:Tr)
 | bt (t:Tr)
 | bad
def Nv:Out->Fs
 | .ret s | .norm s=>match gH s.aS with
  | true=>match s.tr.live with
   | true=>.full s.tr
   | false=>.stop s.tr
  | false=>.bad
 | .cw .jc s=>match s.aS with
  | []=>.bt s.tr
  | _=>.bad
 | _=>.bad
def Fs.Ok (e:Ty) (items:Sl e.den):Fs->Prop
 | .full t=>∃ x:Sl e.den,t=⟨e,true,x⟩/\x.list=items.list
 | .stop t=>∃ x:Sl e.den,t=⟨e,false,x⟩/\x.list <+: items.list
 | .bt t=>∃ x:Sl e.den,t=⟨e,false,x⟩/\x.list <+: items.list
 | .bad=>False
def ab5 (P:Program) (E:cO) (Γ:Ctx) (fn:Func) (ls:List Loop) (c:LY) (x:c.fst.den) (y:c.cap.den):Tree Fs:=
 match fn.body with
 | some b=>gF P E Γ 0 fn.ntmps .any b ls (Zy c x y) fun o=>.leaf (Nv o)
 | none=>.leaf .bad
def Gh.iter (S:CS) (w:World) (F:Nat->Prop) (e:Ty) (C:Cons e.den) (items:List e.den) (l:Nat):Gh:=⟨fun _=>False,F,S,w,e,C,items,l,S,0,fun _=>none⟩
def Ty.isL:Ty->Bool
 | .nil=>true
 | .cons _ t=>t.isL
 | _=>false
theorem rQ:∀ {τ:Ty} {x:τ.den},τ.isL=true->(dP τ x).length=τ.cells
 | .nil,_,_=>rfl
 | .cons h t,x,hl=>by simp [dP,Ty.cells,rQ (τ:=t) (x:=x.2) hl]
theorem Zz (c:LY) (h1:c.fst.isL=true) {x:c.fst.den} {y:c.cap.den} {us vs:List Value} (hx:R P c.fst S w x us) (hy:R P c.cap S w y vs) (t:Nat) :
  RS P Y S w heap ρ ((dP c.fst x ++ .v .jc :: dP c.cap y).getD t .top) ((us ++ Y :: vs).getD t undef):=by
 have hl:(dP c.fst x).length=us.length:=by rw [rQ h1,hx.len]
 by_cases ht:t < us.length
 ·have e1:(dP c.fst x ++ Slot.v .jc :: dP c.cap y).getD t .top=(dP c.fst x).getD t .top:=by
   simp only [List.getD_eq_getElem?_getD]; rw [List.getElem?_append_left (by omega)]
  have e2:(us ++ Y :: vs).getD t undef=us.getD t undef:=by
   simp only [List.getD_eq_getElem?_getD]; rw [List.getElem?_append_left ht]
  rw [e1,e2]
  exact jG hx t
 ·obtain ⟨k,rfl⟩:∃ k,t=us.length + k:=⟨t - us.length,by omega⟩
  have e1:(dP c.fst x ++ Slot.v .jc :: dP c.cap y).getD (us.length + k) .top=(Slot.v .jc :: dP c.cap y).getD k .top:=by
   simp only [List.getD_eq_getElem?_getD]; rw [List.getElem?_append_right (by omega),hl]; congr 2; omega
  have e2:(us ++ Y :: vs).getD (us.length + k) undef=(Y :: vs).getD k undef:=by
   simp only [List.getD_eq_getElem?_getD]; rw [List.getElem?_append_right (by omega)]; congr 2; omega
  rw [e1,e2]
  cases k with
  | zero=>rfl
  | succ k=>exact jG hy k
theorem Ep (hm:P.follows .mixedOrders=true) (hΓ:Sound P Γ) (hE:fI P E.eq) (hK:ez P E.key) {f:FuncId} {fn:Func} {b:Code} (hf:P.funcs[f]? = some fn) (hb:fn.body=some b) {ls:List Loop}
    (c:LY) (h1:c.fst.isL=true) (h2:c.cap.isL=true) (hn:c.fst.cells + 1 + c.cap.cells<=fn.ntmps) (hres:fn.results = #[]) (hl:∀ G':Gh,G'.lo=0->G'.Ok P->G'.e=c.e->iW P fn.ntmps G' f Fence.wide 0 b ls)
    (h:∀ x y,c.pre x y=true->(ab5 P E Γ fn ls c x y).kE (Fs.Ok c.e (c.items x y))):Pr P f c:=by
  intro S w hbd x y us vs hp hx hy C hC F l hJ hF hY
  have hT:=h x y hp
  unfold ab5 at hT
  rw [hb] at hT
  simp only at hT
  have ajx:(Gh.iter S w F c.e C (c.items x y).list l).Ok P:=⟨hC,hY,fun _ _ q=>by cases q⟩
  have sY:Env P E Γ (Gh.iter S w F c.e C (c.items x y).list l) Fence.wide:=⟨hm,hΓ,hE,hK,ajx,.wide,fun _=>rfl⟩
  have hlen:(us ++ (.func (.yield l) #[] #[]) :: vs).length<=fn.ntmps:=by
    have e1:=hx.len; have e2:=hy.len
    simp only [List.length_append,List.length_cons]; omega
  have h0:SR P fn.ntmps (Gh.iter S w F c.e C (c.items x y).list l) (Zy c x y) (lV fn.ntmps (us ++ (.func (.yield l) #[] #[]) :: vs)) w (fun _=>none) S F:=by
    refine ⟨ld hlen,trivial,fun t=>?_,fun id=>trivial,fun i j b hi=>hi.elim,.refl hbd,fun _ _ q=>.inl q,.refl _ _,⟨true,_,rfl,hJ⟩,fun b hb=>(hF b).1 hb,fun _ _ q=>q,fun _ q=>q,fun b o hS _=>hS,fun _ _ q=>by cases q⟩
    rw [nH]
    exact Zz c h1 hx hy t
  have hargs:us.toArray ++ #[.func (.yield l) #[] #[]] ++ vs.toArray=(us ++ (.func (.yield l) #[] #[]) :: vs).toArray:=by apply Array.ext'; simp
  rw [hargs]
  refine (callsIn_wide (n:=0)).1 (fN hf hb trivial ?_)
  refine dG (dy (G:=Gh.iter S w F c.e C (c.items x y).list l) (K:=fun o=>.leaf (Nv o)) (ch:=Tree.any) (T:=fun t:Tree Fs=>t.kE (Fs.Ok c.e (c.items x y))) sY (fun a b q=>q) ⟨fun q=>q.elim,fun s' q z hz=>by
    have q:(Nv (.cw .jc s')).Ok c.e (c.items x y):=q
    simp only [Nv] at q
    split at q
    case h_2=>exact q.elim
    obtain ⟨x',hx',Ad⟩:=q
    have hz:s'.tr=⟨c.e,false,z⟩:=hz
    rw [hz] at hx'
    cases hx'
    exact Ad⟩ hT (hl _ rfl ajx rfl) ⟨_,_,_,h0⟩) ?_
  rintro e a' w' ⟨o,ho,hT⟩
  have agn:∀ {F':Nat->Prop} {w':World},(∀ b,F' b->b < w'.heap.size)->(∀ b,b < w.heap.size->F' b->F b)->(∀ b,F b->F' b)->zT F w F' w':=fun q1 q2 q3 =>
    ⟨q3,fun b q=>by
      by_cases hb:b < w.heap.size
      · exact .inl (q2 b hb q)
      · exact .inr (by omega),q1⟩
  have fin:∀ s',SX P fn.ntmps (Gh.iter S w F c.e C (c.items x y).list l) s' a' w'->(Nv (.ret s')).Ok c.e (c.items x y) ->
      LeavesInM Fence.wide 0 P fn a'.tmps (fun e w'=>∃ F' S',zT F w F' w'/\zS S w w' /\
      ((e = .returned (.tuple #[])/\(C.J (c.items x y).list F' S' w'\/∃ l',l' <+: (c.items x y).list/\C.JS l' F' S' w'))\/∃ l' ch,l' <+: (c.items x y).list/\e = .panicked ch/\C.JP l' ch F' S' w')) a'.defers .returning w':=by
    intro s' ⟨ρ',S',F',hs⟩ hT
    simp only [Nv] at hT
    split at hT
    case h_2=>exact hT.elim
    rename_i hmk
    refine gr ajx (by simp) _ rfl hmk hs fun w'' q1 _=>?_
    have hr0:(results fn a'.tmps).run P w'' = .ok (.tuple #[]) w'':=by
      obtain ⟨us',r1,r2⟩:=jH (fn:=fn) (τ:=.nil) (y:=()) q1 (by rw [hres]; rfl)
      rw [show us'=[] from r2] at r1; exact r1
    refine ⟨_,hr0,F',S',agn q1.fb q1.f0 q1.sub,q1.ext.kps,.inl ⟨rfl,?_⟩⟩
    obtain ⟨lv,z,hz,hJ⟩:=q1.tr
    have hz:s'.tr=⟨c.e,lv,z⟩:=hz
    split at hT
    · obtain ⟨x',hx',Ad⟩:=hT
      rw [hz] at hx'
      cases hx'
      exact .inl (by rw [<- Ad]; exact hJ)
    · obtain ⟨x',hx',Ad⟩:=hT
      rw [hz] at hx'
      cases hx'
      obtain ⟨l',g1,g2⟩:=hJ
      exact .inr ⟨l',g1.trans Ad,g2⟩
  cases o with
  | norm s'=>cases e <;> first | exact ho.elim | exact fin s' ho hT
  | ret s'=>cases e <;> first | exact ho.elim | exact fin s' ho hT
  | exit id s'=>exact hT.elim
  | bad=>exact hT.elim
  | cw d s' =>
    cases e <;> try exact ho.elim
    rename_i ch
    cases d with
    | jc =>
      have hT:(Nv (.cw .jc s')).Ok c.e (c.items x y):=hT
      simp only [Nv] at hT
      split at hT
      case h_2=>exact hT.elim
      rename_i hmk
      obtain ⟨F',S',z,l',hz,g1,g2,hfw,hd⟩:=ho
      obtain ⟨x',hx',Ad⟩:=hT
      have hz:s'.tr=⟨c.e,false,z⟩:=hz
      rw [hz] at hx'
      cases hx'
      have hd:=hd hmk
      show LeavesInM _ _ _ _ _ _ a'.defers (.panicking ch) w'
      rw [hd]
      exact ⟨F',S',agn hfw.fb hfw.f0 hfw.sub,hfw.kps,.inr ⟨l',ch,g1.trans Ad,rfl,g2⟩⟩
    | _=>exact hT.elim
end Go.Dm
namespace Go.Dm
open Go.RowKit
variable {P:Program} {N N':Nat} {G:Gh} {S S' S2:CS} {w w' w2:World} {s s2:St} {a a2:Act} {ρ ρ' ρ2:fV} {F F' F2:Nat->Prop} {heap heap' H' H2:Nat->aN} {Y:Value} {E:cO} {Γ:Ctx} {Fw:Fence} {r:Nat} {ops:Array Oper} {lo base:Nat} {aS:List gx} {vr Ma:Nat->Nat} {n:Nat} {fid:FuncId}
theorem IG {g:Operand} {ps:Array Tmp} {assign body:Code} {Q:Exit->Act->World->Prop} {a:Act} {w:World}
    (h:∃ (l:Nat) (mark:List Deferred) (w₁:World) (d:Deferred) (w₁':World) (f:FuncId) (args:Array Value) (w₂:World),
      (Instr.enterLoop fid a.tmps ps assign body Fw.round).run P w = .ok (l,mark) w₁ /\
      (resolve a.eval (rangeCall g l) 0).run P w₁ = .ok d w₁' /\
      (∀ f',Target.leads P w₁' d.target d.args=some f'->Fw.fn f') /\
      (invoke d.target d.args).run P w₁' = .ok (.enter f args) w₂ /\
      (Fw.depth.isSome=true->1<=n) /\
      CallsIn Fw (n - 1) P f args w₂ (rangePost Fw n P l Q { a with defers:=mark ++ a.defers })) :
    Bp fid Fw n P (.rangeFunc g ps assign body) Q a w:=by
  intro b k cs hbf hro hb hr
  obtain ⟨l,mark,w₁,d,w₁',f,args,w₂,he,hres,aqL,hinv,hn,hF,SK⟩:=h
  rw [<- hro,<- hbf] at he
  have h0:(lone (b.atR a (.code (.rangeFunc g ps assign body) :: k)) cs w).fenced P Fw:=by
    refine fenced_lone (.inl hb) (fun f' hf'=>aqL f' ?_) (Fence.room_le hr (by omega))
    have hev:=Frame.eval_atR b a (.code (.rangeFunc g ps assign body) :: k)
    simp only [Frame.atR] at hev
    simp only [Frame.about,Frame.atR,he,hev,hres] at hf'
    exact hf'
  have wX:=stepR_rangeFunc (P:=P) (b:=b) (a:=a) (k:=k) (cs:=cs) (w:=w) he hres hinv
  have hroom:Fw.room ((b.atR { a with defers:=mark ++ a.defers } (.inRangeFunc l :: k) :: cs).length + 1 + (n - 1)):=Fence.room_enter hr hn
  obtain ⟨e,w₃,fr,hR,QM,hfn,KW⟩:=SK (b.atR { a with defers:=mark ++ a.defers } (.inRangeFunc l :: k) :: cs) hroom
  cases e with
  | outgrown =>
    obtain ⟨a₀,w₀,hq⟩:=hR
    exact ⟨.outgrown,a₀,w₀,hq,.inr (Outgrown.of_steps (.one wX) QM)⟩
  | returned v =>
    have hl:(lone fr (b.atR { a with defers:=mark ++ a.defers } (.inRangeFunc l :: k) :: cs) w₃).fenced P Fw:=fenced_leaving (hfn ▸ hF) hroom KW
    obtain ⟨jump,w₄,hend,hj⟩:=hR
    have ago:StepsIn (Machine.fenced P Fw) P (lone (b.atR a (.code (.rangeFunc g ps assign body) :: k)) cs w) (lone (b.atR { a with defers:=mark ++ a.defers } ((jump.map Item.code).toList ++ k)) cs w₄):=by
      refine .head h0 wX (StepsIn.trans QM (.head hl ?_ (.one (fenced_calm (fr:=b.atR { a with defers:=mark ++ a.defers } (.endRangeFunc l :: k)) hb hr rfl) (stepR_endRangeFunc hend))))
      rw [<- finish_atR_inRangeFunc l v]; exact step_leave_returned KW
    cases jump with
    | none=>exact ⟨.normal,_,w₄,hj,ago⟩
    | some c =>
      obtain ⟨e',a'',w₅,hq,dM⟩:=hj b k cs hro hb hr
      exact ⟨e',a'',w₅,hq,.of_steps ago dM⟩
  | panicked chain =>
    have hl:(lone fr (b.atR { a with defers:=mark ++ a.defers } (.inRangeFunc l :: k) :: cs) w₃).fenced P Fw:=fenced_leaving (hfn ▸ hF) hroom KW
    refine ⟨.panic chain,_,w₃,hR,.inRangeFunc l :: k,.head h0 wX (StepsIn.trans QM (.one hl ?_))⟩
    rw [<- Frame.raise_atR]; exact step_leave_panicked KW
theorem Ft (hW:jv Fw) {l:Nat} {fd:Func} (hfd:P.funcs[fid]? = some fd) {tmps:Array Value} {assign body:Code} {w:World} {R:Ending->World->Prop}
    (h:Bp fid (Fw.inRound l) n P assign (Exit.then (fun a₁ w₁=>∃ w₂,(Instr.beginRound l).run P w₁ = .ok () w₂/\Bp fid (Fw.inRound l) n P body (QL P l R) a₁ w₂) (fun _ _ _=>False))
      { tmps:=tmps,defers:=[] } w) :
    RoundIn Fw n P l fid tmps assign body w R:=by
  have hF:Fw.fn fid:=hW.fn fid
  refine ⟨hF,fun c cs hr=>?_⟩
  let b:Frame:={ (default:Frame) with fn:=fid,kind:=.normal,roundOf:=some l }
  have hb0:Frame.round l fid tmps assign body .normal=b.atR { tmps:=tmps,defers:=[] } [.code assign,.beginRound,.code body]:=by
    simp [Frame.round,Frame.atR,b]
  have hr':(Fw.inRound l).room ((c :: cs).length + 1 + n):=hr
  have hF':(Fw.inRound l).fn b.fn:=hF
  obtain ⟨e,a₁,w₁,hq,dM⟩:=h b [.beginRound,.code body] (c :: cs) rfl rfl hF' hr'
  rw [<- hb0] at dM
  cases e with
  | normal =>
    obtain ⟨w₂,hbr,hbody⟩:=hq
    have s1:StepsIn (Machine.fenced P (Fw.inRound l)) P (lone (b.atR a₁ [.beginRound,.code body]) (c :: cs) w₁) (lone (b.atR a₁ [.code body]) (c :: cs) w₂):=
      .one ((hW.inRound l).fenced _) (stepR_beginRound rfl hbr)
    obtain ⟨e₂,a₂,w₃,WT,vV⟩:=hbody b [] (c :: cs) rfl rfl hF' hr'
    cases e₂ with
    | normal =>
      obtain ⟨v,w₄,hend,hR⟩:=WT
      exact ⟨.returned v,w₄,hR,(StepsIn.trans dM s1).trans (StepsIn.trans vV (.one ((hW.inRound l).fenced _) (stepR_round_end rfl rfl hend)))⟩
    | ret =>
      obtain ⟨v,w₄,hend,hR⟩:=WT
      obtain ⟨k₁,hs⟩:=vV.2 rfl
      exact ⟨.returned v,w₄,hR,(StepsIn.trans dM s1).trans (StepsIn.trans hs (.one ((hW.inRound l).fenced _) (stepR_round_ret rfl rfl hend)))⟩
    | exit id =>
      obtain ⟨v,w₄,hend,hR⟩:=WT
      obtain ⟨k₁,hk,hs⟩:=vV.2 rfl rfl
      exact ⟨.returned v,w₄,hR,(StepsIn.trans dM s1).trans (StepsIn.trans hs (.one ((hW.inRound l).fenced _) (stepR_round_exit rfl rfl hk hend)))⟩
    | goto t=>exact WT.elim
    | panic chain =>
      obtain ⟨hd,hR⟩:=WT
      obtain ⟨todo,hs⟩:=vV
      refine ⟨.panicked chain,w₃,hR,(StepsIn.trans dM s1).trans (StepsIn.trans hs (.one ((hW.inRound l).fenced _) (step_leave_panicked ⟨rfl,hd,fd,hfd⟩)))⟩
    | outgrown=>exact WT.elim
  | exit id=>exact hq.elim
  | goto t=>exact hq.elim
  | ret=>exact hq.elim
  | panic chain=>exact hq.elim
  | outgrown=>exact hq.elim
theorem SR.more (hG:G.Ok P) (h:SR P N G s a w ρ S F) (hbd:Bd S' w) (hnew:∀ b o,S' b o->S b o\/(G.w0.heap.size<=b/\¬ F b/\∀ id,¬ Own w ρ id (s.heap id) b)) :
  SR P N G s a w ρ (fun b o=>S b o\/S' b o) F:=by
 have ex:Ext0 S w (fun b o=>S b o\/S' b o) w:=⟨Nat.le_refl _,fun _ _ q=>.inl q,fun _ _ _=>rfl,fun _ _ _ _ _ q=>q,fun b o q=>q.elim (h.bd b o) (hbd b o),.refl w⟩
 have hk:∀ id,Kept w w ρ ρ id (s.heap id) (s.heap id):=fun id=>.refl rfl fun _ _ _=>rfl
 refine ⟨h.size,h.aS,fun t=>(h.env t).tr ex hk,fun id=>(h.obj id).tr ex hk rfl fun b hb=>⟨rfl,fun i q=>?_,fun x=>x⟩,h.inj,h.ext.trans ex,fun b o q=>?_,h.same,h.tr.tr hG.c h.fb (.refl _ _) ex,h.fb,h.f0,h.sub,fun b o q x=>?_,h.pins⟩
 ·rcases q with q | q
  ·exact q
  ·rcases hnew b i q with q | ⟨_,_,q⟩
   ·exact q
   ·exact absurd hb (q id)
 ·rcases q with q | q
  ·exact h.new b o q
  ·rcases hnew b o q with q | ⟨q,_⟩
   ·exact h.new b o q
   ·exact .inr (.inl q)
 ·rcases q with q | q
  ·exact h.fs b o q x
  ·rcases hnew b o q with q | ⟨_,q,_⟩
   ·exact h.fs b o q x
   ·exact absurd x q
theorem SR.yG (h:SR P N G s a w ρ S F) {id b:Nat} (ho':Own w ρ id (s.heap id) b):(∃ c T f,w.heap[b]? = some (.cells c T f))\/∃ es c,w.heap[b]? = some (.map es c):=by
 have hl:=ho'.lv
 have hb:(∀ T e d cur,s.heap id ≠ .rows cur T e d)->ρ id=some b:=fun q=>by
  cases ho:s.heap id <;> rw [ho] at ho' <;> first | exact ho' | exact ho'.elim | exact absurd ho (q _ _ _ _)
 have:=h.obj id
 cases ho:s.heap id with
 | none=>rw [ho] at hl; exact hl.elim
 | gone=>rw [ho] at hl; exact hl.elim
 | box ds =>
  have hb:=hb (by rw [ho]; simp)
  rw [ho] at this
  obtain ⟨b',arr,T,h1,h2,h3,_⟩:=this
  rw [hb] at h1; cases h1
  exact .inl ⟨_,_,_,h3⟩
 | chain cur T k n =>
  have hb:=hb (by rw [ho]; simp)
  rw [ho] at this
  rcases this with ⟨h1,_⟩ | ⟨b',h1,h2,h3,h4,_⟩
  ·rw [hb] at h1; cases h1
  ·rw [hb] at h1; cases h1; exact .inl h4
 | row cur T e s' =>
  have hb:=hb (by rw [ho]; simp)
  rw [ho] at this
  obtain ⟨_,⟨h1,_⟩ | ⟨b',arr,h1,h2,h3,_⟩⟩:=this
  ·rw [hb] at h1; cases h1
  rw [hb] at h1; cases h1
  exact .inl ⟨_,_,_,h3⟩
 | mp k v m =>
  have hb:=hb (by rw [ho]; simp)
  rw [ho] at this
  obtain ⟨b',es,c,h1,h2,h3,_⟩:=this
  rw [hb] at h1; cases h1
  exact .inr ⟨_,_,h3⟩
 | rows cur T e d =>
  rw [ho] at this ho'
  obtain ⟨h1,b0,arr,T',h2,h3,h4,h5,h6,h7,h8⟩:=this
  rcases ho' with q | ⟨i,n,cap,b1,It,T1,q1,q2,q3⟩
  ·rw [h2] at q; cases q
   exact .inl ⟨_,_,_,h4⟩
  ·rw [h2] at q1; cases q1
   rw [h4] at q2; cases q2
   have hi:i < d.n:=by rw [<- h5]; exact (Array.getElem?_eq_some_iff.1 q3).1
   obtain ⟨ad,cap',r1,r2⟩:=h8 i hi
   rw [q3] at r1
   simp only [Option.some.injEq,Value.slice.injEq] at r1
   obtain ⟨r1,r3,r4⟩:=r1
   rcases r2 with r2 | ⟨_,b',gC,Vc,s1,s2,s3,s4,_⟩
   ·omega
   ·rw [<- r1] at s1; cases s1
    exact .inl ⟨_,_,_,s4⟩
def rR (o:Option Obj):Prop:=∃ r,o=some (.loop r)
theorem Ao {w:World} {l:Nat} {r':Go.Loop} (hl:rR w.heap[l]?) (b o:Nat):(w.putObj l (.loop r')).cell? ⟨b,o,none⟩=w.cell? ⟨b,o,none⟩:=by
 obtain ⟨r,hr⟩:=hl
 have hlt:=(Array.getElem?_eq_some_iff.1 hr).1
 by_cases hb:b=l
 ·subst hb
  have h2:(w.putObj b (.loop r')).heap[b]? = some (.loop r'):=World.putObj_heap_same hlt
  simp [World.cell?,h2,hr]
 ·exact World.cell?_of_block (a:=⟨b,o,none⟩) (World.putObj_heap_other hb)
theorem lX {w:World} {l:Nat} {r':Go.Loop} (hl:rR w.heap[l]?):zS S w (w.putObj l (.loop r')):=
 ⟨fun b o _=>Ao hl b o,fun b o es c _ q=>by
  obtain ⟨r,hr⟩:=hl
  exact (World.putObj_heap_other fun e=>by rw [e,hr] at q; cases q).trans q,by
  obtain ⟨r,hr⟩:=hl
  exact .putObj (Array.getElem?_eq_some_iff.1 hr).1 (fun _ _ _=>by simp)⟩
theorem Ap {w:World} {l:Nat} {r':Go.Loop} {D:Nat->Prop} (hD:¬ D l):eT D w (w.putObj l (.loop r')):=
 ⟨rfl,rfl,rfl,by simp,fun k hk=>World.putObj_heap_other fun e=>hD (e ▸ hk)⟩
theorem SR.adf (hG:G.Ok P) (h:SR P N G s a w ρ S F) {l:Nat} {r':Go.Loop} (hl:rR w.heap[l]?) (h0:G.w0.heap.size<=l) (hF:¬ F l):SR P N G s a (w.putObj l (.loop r')) ρ S F:=by
 have hne:∀ b,¬ rR w.heap[b]? -> (w.putObj l (.loop r')).heap[b]? = w.heap[b]? := fun b hb=>World.putObj_heap_other fun e=>hb (e ▸ hl)
 have yH:∀ id b,Own w ρ id (s.heap id) b->¬ rR w.heap[b]? := fun id b h1 ⟨r,hr⟩=>by
  rcases h.yG h1 with ⟨c,T,f,q⟩ | ⟨es,c,q⟩ <;> (rw [q] at hr; cases hr)
 have hsz:(w.putObj l (.loop r')).heap.size=w.heap.size:=by simp
 have ex:Ext0 S w S (w.putObj l (.loop r')):=⟨by omega,fun _ _ q=>q,(lX hl).cell,(lX hl).maps,fun b o q=>by rw [hsz]; exact h.bd b o q,(lX (S:=S) hl).pl⟩
 have hk:∀ id,Kept w (w.putObj l (.loop r')) ρ ρ id (s.heap id) (s.heap id):=fun id=>.refl rfl fun b hb h1=>hne b (yH id b (.of h1 hb))
 refine ⟨h.size,h.aS.tr hk (fun D hF hD=>⟨(hne D fun ⟨r,hr⟩=>by rw [hD] at hr; cases hr).trans hD,hF⟩),fun t=>(h.env t).tr ex hk,fun id=>(h.obj id).tr ex hk rfl fun b hb=>⟨hne b (yH id b hb),fun i q=>q,fun x=>x⟩,fun i j b hi hj=>h.inj i j b (hi.back rfl fun b q1 q2=>hne b (yH _ b (.of q2 q1))) (hj.back rfl fun b q1 q2=>hne b (yH _ b (.of q2 q1))),h.ext.trans ex,h.new,
  h.same.trans (Ap fun q=>by omega),h.tr.tr hG.c h.fb (Ap hF) ex,fun b x=>by rw [hsz]; exact h.fb b x,h.f0,h.sub,h.fs,h.pins⟩
theorem SR.aqM {M:Nat->Prop} {l0:Nat} {fu:Nat->Option Nat} {w0:World} {S0:CS} (h:SR P N (Gh.inner M S0 w0 l0 lo fu) s a w ρ S F) {l:Nat} {r':Go.Loop} (hl:rR w.heap[l]?) (h0:l < w0.heap.size) (hM:¬ M l) (hF:¬ F l) :
  SR P N (Gh.inner M S0 (w0.putObj l (.loop r')) l0 lo fu) s a (w.putObj l (.loop r')) ρ S F:=by
 have hl0:rR w0.heap[l]? := by
  obtain ⟨r,hr⟩:=hl
  exact ⟨r,(h.same.block l ⟨h0,hM,fun q=>q⟩).symm.trans hr⟩
 have hne:∀ b,¬ rR w.heap[b]? -> (w.putObj l (.loop r')).heap[b]? = w.heap[b]? := fun b hb=>World.putObj_heap_other fun e=>hb (e ▸ hl)
 have yH:∀ id b,Own w ρ id (s.heap id) b->¬ rR w.heap[b]? := fun id b h1 ⟨r,hr⟩=>by
  rcases h.yG h1 with ⟨c,T,f,q⟩ | ⟨es,c,q⟩ <;> (rw [q] at hr; cases hr)
 have hsz:(w.putObj l (.loop r')).heap.size=w.heap.size:=by simp
 have KX:(w0.putObj l (.loop r')).heap.size=w0.heap.size:=by simp
 have ex:Ext0 S w S (w.putObj l (.loop r')):=⟨by omega,fun _ _ q=>q,(lX hl).cell,(lX hl).maps,fun b o q=>by rw [hsz]; exact h.bd b o q,(lX (S:=S) hl).pl⟩
 have hk:∀ id,Kept w (w.putObj l (.loop r')) ρ ρ id (s.heap id) (s.heap id):=fun id=>.refl rfl fun b hb h1=>hne b (yH id b (.of h1 hb))
 have vT:∀ b,ve (Gh.inner M S0 w0 l0 lo fu) F b->ve (Gh.inner M S0 (w0.putObj l (.loop r')) l0 lo fu) F b:=fun b q=>⟨q.1.imp (fun x=>by show (w0.putObj l (.loop r')).heap.size<=b; rw [KX]; exact x) fun x=>x,q.2⟩
 have aBE:Pl (w0.putObj l (.loop r')) (w.putObj l (.loop r')):=⟨by rw [KX,hsz]; exact h.ext.size,h.ext.pl.drawn,fun b arr T f hb hc=>by
  rw [KX] at hb
  by_cases e:b=l
  ·subst e
   rw [World.putObj_heap_same (w:=w) (Array.getElem?_eq_some_iff.1 hl.choose_spec).1] at hc
   cases hc
  ·rw [World.putObj_heap_other e] at hc
   obtain ⟨sW,T0,f0,q1,q2⟩:=h.ext.pl.sz b arr T f hb hc
   exact ⟨sW,T0,f0,by rw [World.putObj_heap_other e]; exact q1,q2⟩⟩
 have ajz:∀ {ds:List gx} {dd:List Deferred},eV w0.heap.size w s.heap ρ F ds dd->eV (w0.putObj l (.loop r')).heap.size (w.putObj l (.loop r')) s.heap ρ F ds dd:=fun q=>by
  rw [KX]
  exact q.tr hk fun D hF hD=>⟨(hne D fun ⟨r,hr⟩=>by rw [hD] at hr; cases hr).trans hD,hF⟩
 refine ⟨h.size,ajz h.aS,fun t=>(h.env t).tr ex hk,fun id=>?_,fun i j b hi hj=>h.inj i j b (hi.back rfl fun b q1 q2=>hne b (yH _ b (.of q2 q1))) (hj.back rfl fun b q1 q2=>hne b (yH _ b (.of q2 q1))),⟨by show (w0.putObj l (.loop r')).heap.size<=_; rw [KX,hsz]; exact h.ext.size,h.ext.sub,fun b o q=>?_,fun b o es c q m=>?_,ex.bd,aBE⟩,fun b o q=>?_,
  ⟨h.same.os,h.same.tape,h.same.output,by show (w0.putObj l (.loop r')).heap.size<=_; rw [KX,hsz]; exact h.same.size,fun k hk=>?_⟩,h.tr,fun b x=>by rw [hsz]; exact h.fb b x,fun b hb x=>?_,fun _ q=>q.elim,fun _ _ _ _=>trivial,h.pins⟩
 ·have hh:=(h.obj id).tr (F':=F) ex hk rfl fun b hb=>⟨hne b (yH id b hb),fun i q=>q,fun x=>x⟩
  cases ho:s.heap id with
  | none=>trivial
  | gone=>trivial
  | box ds=>rw [ho] at hh; obtain ⟨b,arr,T,q1,q2,q3⟩:=hh; exact ⟨b,arr,T,q1,vT b q2,q3⟩
  | chain cur T k n =>
   rw [ho] at hh
   rcases hh with q | ⟨b,q1,q2,q3⟩
   ·exact .inl q
   ·exact .inr ⟨b,q1,vT b q2,q3⟩
  | row cur T e x =>
   rw [ho] at hh
   obtain ⟨q0,⟨q1,q2⟩ | ⟨b,arr,q1,q2,q3⟩⟩:=hh
   ·exact ⟨q0,.inl ⟨q1,q2⟩⟩
   ·exact ⟨q0,.inr ⟨b,arr,q1,vT b q2,q3⟩⟩
  | mp k v m=>rw [ho] at hh; obtain ⟨b,es,c,q1,q2,q3⟩:=hh; exact ⟨b,es,c,q1,vT b q2,q3⟩
  | rows cur T e d =>
   rw [ho] at hh
   obtain ⟨q0,b,arr,T',q1,q2,q3,q4,q5,q6,q7⟩:=hh
   refine ⟨q0,b,arr,T',q1,vT b q2,q3,q4,q5,q6,fun i hi=>?_⟩
   obtain ⟨ad,cap,z1,z2⟩:=q7 i hi
   exact ⟨ad,cap,z1,z2.imp (fun x=>x) fun ⟨z0,b',gC,Vc,z3,z4,z5,z6⟩=>⟨z0,b',gC,Vc,z3,z4,vT b' z5,z6⟩⟩
 ·have q:S0 b o:=q
  show (w.putObj l (.loop r')).cell? ⟨b,o,none⟩=(w0.putObj l (.loop r')).cell? ⟨b,o,none⟩
  rw [Ao hl,Ao hl0]
  exact h.ext.same b o q
 ·have m:(w0.putObj l (.loop r')).heap[b]? = some (.map es c):=m
  have hb:b≠l:=fun e=>by
   rw [e,World.putObj_heap_same h0] at m; cases m
  rw [World.putObj_heap_other hb] at m
  show (w.putObj l (.loop r')).heap[b]? = _
  rw [World.putObj_heap_other hb]
  exact h.ext.maps b o es c q m
 ·rcases h.new b o q with q | q | q
  ·exact .inl q
  ·exact .inr (.inl (by show (w0.putObj l (.loop r')).heap.size<=b; rw [KX]; exact q))
  ·exact .inr (.inr q)
 ·obtain ⟨k1,k2,k3⟩:=hk
  have k1:k < (w0.putObj l (.loop r')).heap.size:=k1
  rw [KX] at k1
  show (w.putObj l (.loop r')).heap[k]? = (w0.putObj l (.loop r')).heap[k]?
  by_cases e:k=l
  ·subst e
   rw [World.putObj_heap_same (w:=w0) h0,World.putObj_heap_same (w:=w) (Array.getElem?_eq_some_iff.1 hl.choose_spec).1]
  ·rw [World.putObj_heap_other e,World.putObj_heap_other e]
   exact h.same.block k ⟨k1,k2,k3⟩
 ·have hb:b < (w0.putObj l (.loop r')).heap.size:=hb
  rw [KX] at hb
  exact h.f0 b hb x
theorem SR.idle (hG:G.Ok P) (h:SR P N G s a w ρ S F) {FI:Nat->Prop} {SI:CS} (h1:∀ b o,S b o->FI b\/SI b o) (h2:∀ id b,Own w ρ id (s.heap id) b->FI b) (h3:∀ b,F b->FI b) (h4:∀ b,b < G.w0.heap.size->FI b)
  (h5:∀ D∈marksOf a.defers,FI D) (hs:eT FI w w') (hk:zS SI w w'):SR P N G s a w' ρ S F:=by
 have ex:Ext0 S w S w':=⟨hs.size,fun _ _ q=>q,fun b o q=>(h1 b o q).elim (fun x=>World.cell?_of_block (a:=⟨b,o,none⟩) (hs.block b x)) (hk.cell b o),
  fun b o es c q m=>(h1 b o q).elim (fun x=>(hs.block b x).trans m) (fun x=>hk.maps b o es c x m),fun b o q=>Nat.lt_of_lt_of_le (h.bd b o q) hs.size,hk.pl⟩
 have hkp:∀ id,Kept w w' ρ ρ id (s.heap id) (s.heap id):=fun id=>.refl rfl fun b hb hl=>hs.block b (h2 id b (.of hl hb))
 have ajz:∀ {ds:List gx} {dd:List Deferred},(∀ D∈marksOf dd,FI D)->eV G.w0.heap.size w s.heap ρ F ds dd->eV G.w0.heap.size w' s.heap ρ F ds dd:=by
  intro ds
  induction ds with
  | nil=>intro dd hm q; cases dd <;> exact q
  | cons d ds ih =>
   intro dd hm q
   cases dd with
   | nil=>cases d <;> exact q.elim
   | cons e dd =>
    cases d with
    | mark =>
     obtain ⟨⟨D,q1,q2,q3,q4,q5⟩,q6⟩:=q
     subst q1
     have hm':FI D/\∀ D'∈marksOf dd,FI D':=by simpa [marksOf] using hm
     exact ⟨⟨D,rfl,q2,q3,(hs.block D hm'.1).trans q4,q5⟩,ih hm'.2 q6⟩
    | nE f ids =>
     obtain ⟨⟨us,q1,q2⟩,q6⟩:=q
     subst q1
     exact ⟨⟨us,rfl,q2⟩,ih (by simpa [marksOf] using hm) q6⟩
 exact ⟨h.size,ajz h5 h.aS,fun t=>(h.env t).tr ex hkp,fun id=>(h.obj id).tr ex hkp rfl fun b hb=>⟨hs.block b (h2 id b hb),fun i q=>q,fun x=>x⟩,fun i j b hi hj=>h.inj i j b (hi.back rfl fun b q1 q2=>hs.block b (h2 _ b (.of q2 q1))) (hj.back rfl fun b q1 q2=>hs.block b (h2 _ b (.of q2 q1))),h.ext.trans ex,h.new,
  h.same.trans (hs.mono fun b hb=>h4 b hb.1),h.tr.tr hG.c h.fb (hs.mono h3) ex,fun b x=>Nat.lt_of_lt_of_le (h.fb b x) hs.size,h.f0,h.sub,h.fs,h.pins⟩
end Go.Dm
namespace Go.Dm
open Go.RowKit
variable {P:Program} {N N':Nat} {G:Gh} {S S' S2:CS} {w w' w2:World} {s s2:St} {a a2:Act} {ρ ρ' ρ2:fV} {F F' F2:Nat->Prop} {heap heap' H' H2:Nat->aN} {Y:Value} {E:cO} {Γ:Ctx} {Fw:Fence} {r:Nat} {ops:Array Oper} {lo lo' base:Nat} {aS:List gx} {vr Ma:Nat->Nat} {n:Nat} {fid:FuncId} {mps:List aL} {e:Ty}
def setArgs:List Nat->List Slot->(Nat->Slot)->Nat->Slot
 | t :: ts,d :: ds,env=>setArgs ts ds (setEnv env t d)
 | _,_,env=>env
inductive RO (mps:List aL) where
 | next (x:(aa mps).den)
 | brk (id:Nat) (x:(aa mps).den)
 | ret (x:(aa mps).den)
 | cw (T:TypeId) (τ:Ty) (d:τ.den) (x:(aa mps).den)
 | bad
def rst (lo':Nat) (ps:List Nat) (e:Ty) (mps:List aL) (x:(aa mps).den) (i:e.den):St:=
 { wr lo' .none [] mps x with env:=setArgs ps (dP e i) (wr lo' .none [] mps x).env }
def QN (lo:Nat) (mps:List aL) (x:(aa mps).den) (y:(aa (aj mps)).den):Option (aa mps).den:=
 rd lo ⟨(wr lo .none [] mps x).env,dm (wr lo .none [] mps x).heap (aT (bL (wr lo .none [] mps x).heap) (aj mps) y),.none,0,[]⟩ mps
def KY (lo lo':Nat) (mps:List aL) (x:(aa mps).den) (mk:(aa mps).den->RO mps) (s:St):RO mps:=
 match s.aS,rd lo' s (aj mps) with
 | [],some y=>match dw mps x y,QN lo mps x y with
  | true,some x'=>mk x'
  | _,_=>.bad
 | _,_=>.bad
def aqN (lo lo':Nat) (mps:List aL) (x:(aa mps).den):Out->RO mps
 | .norm s=>KY lo lo' mps x .next s
 | .exit id s=>KY lo lo' mps x (.brk id) s
 | .ret s=>KY lo lo' mps x .ret s
 | .cw (.Cm T τ d) s=>KY lo lo' mps x (.cw T τ d) s
 | _=>.bad
def cO.uD (E:cO):cO:={ E with aS:=false }
def agp (P:Program) (E:cO) (Γ:Ctx) (lo lo' N:Nat) (body:Code) (lb:List Loop) (mps:List aL) (x:(aa mps).den):Out->Tree (RO mps)
 | .norm s1=>gF P E.uD Γ lo' N .any body lb s1 fun o=>.leaf (aqN lo lo' mps x o)
 | _=>.leaf .bad
def jl (P:Program) (E:cO) (Γ:Ctx) (lo lo' N:Nat) (ps:List Nat) (as body:Code) (la lb:List Loop) (e:Ty) (mps:List aL) (x:(aa mps).den) (i:e.den):Tree (RO mps):=
 gF P E.uD Γ lo' N .any as la (rst lo' ps e mps x i) (agp P E Γ lo lo' N body lb mps x)
def pQ {I:Type} {mps:List aL} (step:(aa mps).den->I->Tree (RO mps)):(aa mps).den->List I->Tree (RO mps)
 | x,[]=>.leaf (.next x)
 | x,i :: r=>(step x i).run .any fun
  | .next x'=>pQ step x' r
  | .brk id x'=>.leaf (.brk id x')
  | .ret x'=>.leaf (.ret x')
  | .cw T τ d x'=>.leaf (.cw T τ d x')
  | .bad=>.leaf .bad
def RO.out (lo:Nat) (aS:List gx) {mps:List aL}:RO mps->Out
 | .next x=>.norm (wr lo .none aS mps x)
 | .brk id x=>.exit id (wr lo .none aS mps x)
 | .ret x=>.ret (wr lo .none aS mps x)
 | .cw T τ d x=>.cw (.Cm T τ d) (wr lo .none aS mps x)
 | .bad=>.bad
def QS (lo:Nat) (aS:List gx) (t:Nat) (e:Ty) (mps:List aL) (step:(aa mps).den->e.den->Tree (RO mps)) (s:St):Tree Out:=
 match nZ s.aS aS,s.env t,rd lo s mps with
 | true,.v (.pc (.seq e') ZB),some x=>match cZ (σ:=.seq e') (.seq e) ZB with
  | some ZB=>(pQ step x (show Sl e.den from ZB).list).map (RO.out lo (.mark :: aS))
  | none=>.leaf .bad
 | _,_,_=>.leaf .bad
inductive Bs {I:Type} {mps:List aL} (step:(aa mps).den->I->Tree (RO mps)) (x0:(aa mps).den):List I->(aa mps).den->Prop
 | nil:Bs step x0 [] x0
 | snoc {k:List I} {x x':(aa mps).den} {i:I} (h:Bs step x0 k x) (h':(step x i).Has (.next x')):Bs step x0 (k ++ [i]) x'
theorem Tree.vo {α β:Type} {K:α->Tree β} {a:α} {b:β}:∀ {t:Tree α},t.Has a->(K a).Has b->(t.run Tree.any K).Has b
 | .leaf _,h,h'=>by cases h; exact h'
 | .br c l r,h,h'=>by
  cases c with
  | true=>exact Tree.vo (t:=l) (by simpa [Tree.Has] using h) h'
  | false=>exact Tree.vo (t:=r) (by simpa [Tree.Has] using h) h'
 | .any l r,h,h'=>h.elim (fun h=>.inl (Tree.vo h h')) (fun h=>.inr (Tree.vo h h'))
theorem yI {I:Type} {step:(aa mps).den->I->Tree (RO mps)} {x0:(aa mps).den} {k:List I} {x:(aa mps).den} (h:Bs step x0 k x):∀ (rest:List I) (o:RO mps),(pQ step x rest).Has o->(pQ step x0 (k ++ rest)).Has o:=by
 induction h with
 | nil=>exact fun rest o h=>h
 | snoc h h' ih =>
  intro rest o ho
  rw [List.append_assoc]
  refine ih _ o ?_
  exact Tree.vo h' ho
def RO.ends {mps:List aL}:RO mps->Prop
 | .next _=>False
 | _=>True
theorem pz {I:Type} {step:(aa mps).den->I->Tree (RO mps)} {x0:(aa mps).den} {k:List I} {x:(aa mps).den} (h:Bs step x0 k x) {i:I} {o:RO mps} (ho:(step x i).Has o) (he:o.ends) (rest:List I) :
  (pQ step x0 (k ++ i :: rest)).Has o:=by
 refine yI h _ _ ?_
 refine Tree.vo ho ?_
 cases o with
 | next x=>exact he.elim
 | _=>rfl
structure Cz (P:Program) (N:Nat) (G:Gh) (aS:List gx) (mps:List aL) (a₁:Act) (SI:CS) (l:Nat) (x:(aa mps).den) (F:Nat->Prop) (S:CS) (W:World) (ρ:fV) (So:CS) (FG:Nat->Prop):Prop where
 sr:SR P N G (wr G.lo .none (.mark :: aS) mps x) a₁ W ρ So FG
 so:∀ b o,So b o->F b\/S b o
 ob:∀ id b,Own W ρ id ((wr G.lo .none (.mark :: aS) mps x).heap id) b->F b
 fg:∀ b,FG b->F b
 w0:∀ b,b < G.w0.heap.size->F b
 mks:∀ D∈marksOf a₁.defers,F D
 si:∀ b o,SI b o->So b o
 fl:∀ b,FG b->b < l
theorem Cz.idle (hG:G.Ok P) {l:Nat} {a₁:Act} {SI:CS} {x:(aa mps).den} {So:CS} {FG:Nat->Prop} (h:Cz P N G aS mps a₁ SI l x F S w ρ So FG) (hs:eT F w w') (hk:zS S w w') (hS:∀ b o,S b o->S' b o) :
  Cz P N G aS mps a₁ SI l x F S' w' ρ So FG:=
 ⟨h.sr.idle hG h.so h.ob h.fg h.w0 h.mks hs hk,fun b o q=>(h.so b o q).imp (fun x=>x) (hS b o),fun id b q=>h.ob id b (q.back rfl fun b q1 q2=>hs.block b (h.ob id b (.of q2 q1))),h.fg,h.w0,h.mks,h.si,h.fl⟩
theorem Cz.ext {l:Nat} {a₁:Act} {SI:CS} {x:(aa mps).den} {So:CS} {FG:Nat->Prop} (h:Cz P N G aS mps a₁ SI l x F S w ρ So FG) (hs:eT F w w') (hk:zS S w w'):Ext0 So w So w':=
 ⟨hs.size,fun _ _ q=>q,fun b o q=>(h.so b o q).elim (fun x=>World.cell?_of_block (a:=⟨b,o,none⟩) (hs.block b x)) (hk.cell b o),
  fun b o es c q m=>(h.so b o q).elim (fun x=>(hs.block b x).trans m) (fun x=>hk.maps b o es c x m),fun b o q=>Nat.lt_of_lt_of_le (h.sr.bd b o q) hs.size,hk.pl⟩
def RO.jump {mps:List aL}:RO mps->Option Code
 | .brk id _=>some (.exit id)
 | .ret _=>some .ret
 | _=>none
def RO.dat {mps:List aL}:RO mps->Option (aa mps).den
 | .next x=>some x
 | .brk _ x=>some x
 | .ret x=>some x
 | .cw _ _ _ x=>some x
 | .bad=>none
def ZC (P:Program) (N:Nat) (G:Gh) (aS:List gx) (mps:List aL) (a₁:Act) (SI:CS) {I:Type} (step:(aa mps).den->I->Tree (RO mps)) (x0:(aa mps).den) (l:Nat) (rec:Go.Loop):Cons I where
 J k F S W:=∃ x ρ So FG,Bs step x0 k x/\Cz P N G aS mps a₁ SI l x F S W ρ So FG/\F l/\W.heap[l]? = some (.loop rec)
 JS k F S W:=∃ k0 i x o x' ρ So FG c,k=k0 ++ [i]/\Bs step x0 k0 x/\(step x i).Has o/\o.dat=some x'/\o.jump=some c/\Cz P N G aS mps a₁ SI l x' F S W ρ So FG/\F l/\W.heap[l]? = some (.loop { rec with state:=.done,pending:=some c })
 JP k ch F S W:=∃ k0 i x T τ d x' u0 ρ So FG,k=k0 ++ [i]/\Bs step x0 k0 x/\(step x i).Has (.cw T τ d x')/\ch=[{ v:=.iface T u0,recovered:=false }]/\Cz P N G aS mps a₁ SI l x' F S W ρ So FG/\R P τ So W d [u0]
theorem ZG (hG:G.Ok P) {a₁:Act} {SI:CS} {I:Type} {step:(aa mps).den->I->Tree (RO mps)} {x0:(aa mps).den} {l:Nat} {rec:Go.Loop}:(ZC P N G aS mps a₁ SI step x0 l rec).Ok where
 J k F S S' w w' h _ hs hk hS:=by
  obtain ⟨x,ρ,So,FG,h1,h2,h3,h4⟩:=h
  exact ⟨x,ρ,So,FG,h1,h2.idle hG hs hk hS,h3,(hs.block l h3).trans h4⟩
 JS k F S S' w w' h _ hs hk hS:=by
  obtain ⟨k0,i,x,o,x',ρ,So,FG,c,h1,h2,h3,h4,h5,h6,h7,h8⟩:=h
  exact ⟨k0,i,x,o,x',ρ,So,FG,c,h1,h2,h3,h4,h5,h6.idle hG hs hk hS,h7,(hs.block l h7).trans h8⟩
 JP k ch F S S' w w' h _ hs hk hS:=by
  obtain ⟨k0,i,x,T,τ,d,x',u0,ρ,So,FG,h1,h2,h3,h4,h5,h6⟩:=h
  exact ⟨k0,i,x,T,τ,d,x',u0,ρ,So,FG,h1,h2,h3,h4,h5.idle hG hs hk hS,h6.mono (h5.ext hs hk)⟩
theorem SR.params:∀ (ps:List Nat) (ds:List Slot) (us:List Value) {s:St} {a:Act},ps.all (Nat.blt · N)=true->SR P N G s a w ρ S F->ps.length=us.length->ds.length=us.length->(∀ (j:Nat) d u,ds[j]? = some d->us[j]? = some u->RS P G.Y S w s.heap ρ d u) ->
  SR P N G { s with env:=setArgs ps ds s.env } { a with tmps:=(ps.zip us).foldl (fun tmps p=>tmps.setIfInBounds p.1 p.2) a.tmps } w ρ S F
 | [],ds,us,s,a,_,h,_,_,_=>by cases ds <;> exact h
 | t :: ps,[],us,s,a,_,h,h1,h2,_=>by cases us <;> simp at h1 h2
 | t :: ps,d :: ds,[],s,a,_,h,h1,h2,_=>by simp at h1
 | t :: ps,d :: ds,u :: us,s,a,hp,h,h1,h2,hr=>by
  simp only [List.all_cons,Bool.and_eq_true] at hp
  have hq:=h.put (dst:=some t) (by simpa using hp.1) (hr 0 d u rfl rfl)
  have:=SR.params ps ds us (s:={ s with env:=Go.Dm.setEnv s.env t d }) (a:={ a with tmps:=a.tmps.setIfInBounds t u }) hp.2 (by simpa [Act.put,jh] using hq) (by simpa using h1) (by simpa using h2) (fun j d u g1 g2=>hr (j + 1) d u (by simpa using g1) (by simpa using g2))
  simpa [setArgs] using this
end Go.Dm
namespace Go.Dm
open Go.RowKit
variable {P:Program} {N N':Nat} {G:Gh} {S S' S2:CS} {w w' w2:World} {s s2:St} {a a2:Act} {ρ ρ' ρ2:fV} {F F' F2:Nat->Prop} {heap heap' H' H2:Nat->aN} {Y:Value} {E:cO} {Γ:Ctx} {Fw:Fence} {r:Nat} {ops:Array Oper} {lo lo' base:Nat} {aS:List gx} {vr Ma:Nat->Nat} {n:Nat} {fid:FuncId} {mps:List aL} {e:Ty}
theorem SL {ps:List aL} {x:(aa ps).den} (hw:IF lo ps=true) {M:Nat->Prop} {l:Nat}:(Gh.inner M S w l lo (bP (bG (aT (fun _=>0) ps x)) ρ)).Ok P:=by
 simp only [IF,Bool.and_eq_true] at hw
 obtain ⟨⟨⟨⟨⟨⟨w1,w2⟩,w3⟩,w4⟩,w5⟩,w6⟩,w7⟩:=hw
 simp only [lowIds,Bool.and_eq_true,List.all_eq_true,Nat.blt_eq] at w4
 refine yD fun id b hb=>?_
 have key:∀ o,bG (aT (fun _=>0) ps x) id=o->o ≠ .none->(id,o)∈aT (fun _=>0) ps x:=fun o ho hn=>by subst ho; exact dA hn
 unfold bP at hb
 split at hb
 ·rename_i ho; exact w4.1.1 id (wY (key _ ho (by simp)))
 ·rename_i ho; exact w4.1.2 id (wZ (key _ ho (by simp)))
 ·rename_i ho; exact w4.2 id (Ak (key _ ho (by simp)))
 ·rename_i ho; exact w4.2 id (xb (key _ ho (by simp)))
 ·cases hb
theorem agq {s s':St} (h1:s.env=s'.env) (h2:s.heap=s'.heap) (h3:s.tr=s'.tr):∀ (ps:List aL),rd lo s ps=rd lo s' ps
 | []=>rfl
 | p :: ps=>by
  simp only [rd,agq h1 h2 h3 ps]
  have:Gs lo s p=Gs lo s' p:=by
   cases p <;> simp only [Gs,h1,h2,h3]
  rw [this]
theorem QT {M:Nat->Prop} (hM:∀ b,M b->∃ id,Own w ρ id (s.heap id) b) (hG:G.Ok P) (h:SR P N G s a w ρ S F) {x:(aa mps).den} (hH:s.heap=bG (aT (fun _=>0) mps x)) (hw:IF lo' mps=true)
  {s':St} (q:SR P N' (Gh.inner M S w G.l lo' (bP s.heap ρ)) s' a2 w' ρ' S' F') (hd:s'.aS=[]) {y:(aa (aj mps)).den} (hy:rd lo' s' (aj mps)=some y) (hs:dw mps x y=true) :
  ∃ Fq,SR P N G { s with heap:=dm s.heap (aT (bL s.heap) (aj mps) y) } a w' Fq S' F /\
   ∀ id b,Own w' Fq id (dm s.heap (aT (bL s.heap) (aj mps) y) id) b->w.heap.size<=b\/∃ id,Own w ρ id (s.heap id) b:=by
 have wT:=hw
 simp only [IF,Bool.and_eq_true,Bool.not_eq_true'] at hw
 obtain ⟨⟨⟨⟨⟨⟨w1,w2⟩,w3⟩,w4⟩,w5⟩,w6⟩,w7⟩:=hw
 have w3:=fZ w3
 have Cy:(Gh.inner M S w G.l lo' (bP s.heap ρ)).Ok P:=by rw [hH]; exact SL wT
 obtain ⟨n1,n2⟩:nW (de mps)=true/\nW (de (aj mps))=true:=by
  simp only [jy,Bool.and_eq_true] at w1 w2
  exact ⟨w1.1,w2.1⟩
 have xU:((aT (fun _=>0) mps x).map (·.1)).Nodup:=by rw [dO]; exact eS n1
 have hn2:((aT (bL s.heap) (aj mps) y).map (·.1)).Nodup:=by rw [dO]; exact eS n2
 have h3:=qz Cy q (vr:=bL s.heap) (t:=.none) w2 (by rw [hd]; rfl) (.inr (dH _ _ _)) (show rd (Gh.inner M S w G.l lo' (bP s.heap ρ)).lo s' (aj mps)=some y from hy)
 let D:Nat->Bool:=fun id=>((aT (bL s.heap) (aj mps) y).map (·.1)).any (Nat.beq id)
 have dn:∀ id,D id=true->∃ o,bG (aT (bL s.heap) (aj mps) y) id=o/\IE (bL s.heap id) (s.heap id) o:=fun id hid=>by
  obtain ⟨p,hp,rfl⟩:=List.mem_map.1 (any_beq.1 hid)
  obtain ⟨o0,h1,h2⟩:=js (Ma:=fun _=>0) w7 hs _ hp
  refine ⟨p.2,ff hn2 p hp,?_⟩
  rw [hH,ff xU _ h1]
  rw [hH] at h2
  exact h2
 have hblk:∀ id,live (s.heap id)->dS (s.heap id)=false->Ql (s.heap id)=false->∃ b,ρ id=some b:=fun id hl hc Zv=>by
  have:=h.obj id
  cases ho:s.heap id with
  | none=>rw [ho] at hl; exact hl.elim
  | gone=>rw [ho] at hl; exact hl.elim
  | box ds=>rw [ho] at this; obtain ⟨b,_,_,hb,_⟩:=this; exact ⟨b,hb⟩
  | chain _ _ _ _=>rw [ho] at hc; cases hc
  | row cur T e x=>rw [ho] at Zv; cases Zv
  | mp k v m=>rw [ho] at this; obtain ⟨b,_,_,hb,_⟩:=this; exact ⟨b,hb⟩
  | rows _ T e d=>rw [ho] at this; obtain ⟨_,b,_,_,hb,_⟩:=this; exact ⟨b,hb⟩
 have kM:=h3.pins
 have hK:∀ id,D id=true->Kept w w' ρ (fo (Gh.inner M S w G.l lo' (bP s.heap ρ)).fu s'.heap ρ') id (s.heap id) (bG (aT (bL s.heap) (aj mps) y) id):=fun id hid=>by
  obtain ⟨o,hf,An⟩:=dn id hid
  rw [hf]
  generalize Mb:s.heap id=o0 at An
  cases An with
  | box ds ds' =>
   obtain ⟨b,hb⟩:=hblk id (by rw [Mb]; trivial) (by rw [Mb]; rfl) (by rw [Mb]; rfl)
   have:=(kM id b (by show bP _ _ id=some b; unfold bP; rw [Mb]; exact hb)).1
   exact .inr ⟨⟨_,rfl⟩,this.trans hb.symm⟩
  | row u T e a b hn =>
   have hv:bL s.heap id=u:=by unfold bL; rw [Mb]
   refine .inr ⟨_,_,rfl,by omega,fun _=>⟨hn,?_⟩⟩
   have Bq:=h.obj id
   rw [Mb] at Bq
   cases hb:ρ id with
   | some bb=>exact .inl ((kM id bb (by show bP _ _ id=some bb; unfold bP; rw [Mb]; exact hb)).1)
   | none =>
    obtain ⟨_,⟨_,q⟩ | ⟨b1,_,q,_⟩⟩:=Bq
    ·exact .inr ⟨q,rfl⟩
    ·rw [hb] at q; cases q
  | mp k e m m' =>
   obtain ⟨bb,hb⟩:=hblk id (by rw [Mb]; trivial) (by rw [Mb]; rfl) (by rw [Mb]; rfl)
   have:=(kM id bb (by show bP _ _ id=some bb; unfold bP; rw [Mb]; exact hb)).1
   exact .inr ⟨⟨_,rfl⟩,this.trans hb.symm⟩
  | rows u T e a b hn =>
   obtain ⟨bb,hb⟩:=hblk id (by rw [Mb]; trivial) (by rw [Mb]; rfl) (by rw [Mb]; rfl)
   have:=(kM id bb (by show bP _ _ id=some bb; unfold bP; rw [Mb]; exact hb)).1
   have hv:bL s.heap id=u:=by unfold bL; rw [Mb]
   exact .inr ⟨_,_,rfl,by omega,hn,this.trans hb.symm,fun q=>by omega⟩
  | chain u T k n n' =>
   have hv:bL s.heap id=u + 1:=by unfold bL; rw [Mb]
   exact ⟨bL s.heap id,n',rfl,by omega,fun q=>by omega⟩
 have kL:=h.back hG (D:=D) (s2:=wrV (bL s.heap) lo' .none [] (aj mps) y) (M:=M) (lo:=lo') (fu:=bP s.heap ρ)
  (h3.of_eq rfl rfl rfl hd.symm) (fun b hb=>?_) (fun id hn=>?_) hK (fun id b hid hb=>?_)
 ·have hheap:dm s.heap (aT (bL s.heap) (aj mps) y)=dD D (wrV (bL s.heap) lo' .none [] (aj mps) y).heap s.heap:=by
   funext i
   rw [vn hn2]
   rfl
  refine ⟨_,kL.of_eq rfl hheap rfl rfl,fun id b hl=>?_⟩
  rw [hheap] at hl
  cases hd:D id with
  | true =>
   rw [dD,hd,cond_true] at hl
   exact (h3.gD (hl.back (by simp [dr,hd]) fun _ _ _=>rfl)).2.1.1.imp (fun q=>q) (fun q=>hM b q)
  | false =>
   rw [dD,hd,cond_false] at hl
   refine .inr ⟨id,hl.back (by simp [dr,hd]) fun b q1 q2=>h3.same.block b ⟨(h.eE q2 q1).1,?_,fun q=>q⟩⟩
   intro hMb
   obtain ⟨id',aBF⟩:=hM _ hMb
   have:=h.inj id' id b aBF (.of q2 q1)
   subst this
   have hne:bG (aT (fun _=>0) mps x) id' ≠ .none:=fun e=>by rw [hH,e] at q2; exact q2
   have hmem:id'∈de mps:=by rw [<- dO (bB:=fun _=>0) (x:=x)]; exact List.mem_map.2 ⟨_,dA hne,rfl⟩
   have:D id'=true:=by
    show ((aT (bL s.heap) (aj mps) y).map (·.1)).any (Nat.beq id')=true
    rw [dO]
    exact any_beq.2 (w3 ▸ hmem)
   rw [hd] at this; cases this
 ·obtain ⟨id,hl⟩:=hM b hb
  refine ⟨id,?_,hl⟩
  have hne:bG (aT (fun _=>0) mps x) id ≠ .none:=fun e=>by rw [hH,e] at hl; exact hl
  have hmem:id∈de mps:=by rw [<- dO (bB:=fun _=>0) (x:=x)]; exact List.mem_map.2 ⟨_,dA hne,rfl⟩
  show ((aT (bL s.heap) (aj mps) y).map (·.1)).any (Nat.beq id)=true
  rw [dO]
  exact any_beq.2 (w3 ▸ hmem)
 ·have hn:bG (aT (bL s.heap) (aj mps) y) id ≠ .none:=hn
  exact any_beq.2 (List.mem_map.2 ⟨_,dA hn,rfl⟩)
 ·obtain ⟨p1,p2⟩:=h.pins id b hb
  obtain ⟨o,hf,An⟩:=dn id hid
  refine kM id b ?_
  show bP s.heap ρ id=some b
  unfold bP
  generalize Mb:s.heap id=o0 at An p2
  cases An with
  | box ds ds'=>exact p1
  | row u T e a b hn=>exact p1
  | mp k e m m'=>exact p1
  | rows u T e a b' hn=>exact p1
  | chain u T k n n'=>cases p2
end Go.Dm
namespace Go.Dm
open Go.RowKit
variable {P:Program} {N N':Nat} {G:Gh} {S S' S2:CS} {w w' w2:World} {s s2:St} {a a2:Act} {ρ ρ' ρ2:fV} {F F' F2:Nat->Prop} {heap heap' H' H2:Nat->aN} {Y:Value} {E:cO} {Γ:Ctx} {Fw:Fence} {r:Nat} {ops:Array Oper} {lo lo' base:Nat} {aS:List gx} {vr Ma:Nat->Nat} {n:Nat} {fid:FuncId} {mps:List aL} {e:Ty}
theorem VD {x:(aa mps).den} {mk:(aa mps).den->RO mps} {s:St} (h:KY lo lo' mps x mk s ≠ .bad) :
  ∃ y x',s.aS=[]/\rd lo' s (aj mps)=some y/\dw mps x y=true/\QN lo mps x y=some x'/\KY lo lo' mps x mk s=mk x':=by
 unfold KY at h ⊢
 split at h
 ·rename_i y hd hy
  split at h
  ·rename_i x' hs ha
   exact ⟨y,x',hd,hy,hs,ha,rfl⟩
  ·exact absurd rfl h
 ·exact absurd rfl h
theorem QU {M:Nat->Prop} (hG:G.Ok P) (hfree:G.lU) (hw:IF lo' mps=true) (Pw:sG (gp mps) aS=true) {a₁:Act} {x x':(aa mps).den} {FG:Nat->Prop} (h:SR P N G (wr G.lo .none (.mark :: aS) mps x) a₁ w ρ S FG) (hM:∀ b,M b->∃ id,Own w ρ id ((wr G.lo .none (.mark :: aS) mps x).heap id) b)
  {s':St} (q:SR P N (Gh.inner M S w G.l lo' (bP (wr G.lo .none (.mark :: aS) mps x).heap ρ)) s' a2 w' ρ' S' F') (hd:s'.aS=[]) {y:(aa (aj mps)).den} (hy:rd lo' s' (aj mps)=some y) (hs:dw mps x y=true)
  (ha:QN G.lo mps x y=some x') :
  ∃ Fq,SR P N G (wr G.lo .none (.mark :: aS) mps x') a₁ w' Fq S' FG /\
   ∀ id b,Own w' Fq id ((wr G.lo .none (.mark :: aS) mps x').heap id) b->w.heap.size<=b\/∃ id,Own w ρ id ((wr G.lo .none (.mark :: aS) mps x).heap id) b:=by
 obtain ⟨ρ1,h1,h2⟩:=QT hM hG h rfl hw q hd hy hs
 have wT:=hw
 simp only [IF,Bool.and_eq_true,Bool.not_eq_true'] at hw
 obtain ⟨⟨⟨⟨⟨⟨w1,w2⟩,w3⟩,w4⟩,w5⟩,w6⟩,w7⟩:=hw
 have hx:rd G.lo { wr G.lo .none (.mark :: aS) mps x with heap:=dm (wr G.lo .none (.mark :: aS) mps x).heap (aT (bL (wr G.lo .none (.mark :: aS) mps x).heap) (aj mps) y) } mps=some x':=
  (agq (s:={ wr G.lo .none (.mark :: aS) mps x with heap:=dm (wr G.lo .none (.mark :: aS) mps x).heap (aT (bL (wr G.lo .none (.mark :: aS) mps x).heap) (aj mps) y) }) (s':=⟨(wr G.lo .none [] mps x).env,dm (wr G.lo .none [] mps x).heap (aT (bL (wr G.lo .none [] mps x).heap) (aj mps) y),.none,0,[]⟩) rfl rfl (show Cx .none mps x = .none from gG w5) mps).trans ha
 have hdm:sG (gp mps) (.mark :: aS)=true:=by simp only [sG,List.all_cons,Bool.true_and]; exact Pw
 exact ⟨_,qz hG h1 w1 hdm (.inr (hfree _ _ _)) hx,fun id b hl=>h2 id b (Fp hG h1 hx id b hl)⟩
theorem Nw (hE:Env P E Γ G Fence.wide) (hfree:G.lU) {fd:Func} (hfd:P.funcs[fid]? = some fd) {ps:Array Tmp} (hps:ps.toList.all (Nat.blt · N)=true) (sC:ps.size=e.cells) (heL:e.isL=true)
  (hw:IF lo' mps=true) (Pw:sG (gp mps) aS=true) {as body:Code} {la lb:List Loop}
  (hla:∀ G':Gh,G'.lo=lo'->G'.Ok P->G'.lU->∀ l,iW P N G' fid (Fence.wide.inRound l) 0 as la) (hlb:∀ G':Gh,G'.lo=lo'->G'.Ok P->G'.lU->∀ l,iW P N G' fid (Fence.wide.inRound l) 0 body lb)
  {a₁:Act} {SI:CS} {x0:(aa mps).den} {l Db:Nat} {items:List e.den} (hl0:G.w0.heap.size<=l)
  (cC:∀ ro,(pQ (jl P E Γ G.lo lo' N ps.toList as body la lb e mps) x0 items).Has ro->ro ≠ .bad) :
  Di P (R P e) (ZC P N G aS mps a₁ SI (jl P E Γ G.lo lo' N ps.toList as body la lb e mps) x0 l { state:=.ready,pending:=none,fn:=fid,tmps:=a₁.tmps,params:=ps,assign:=as,body:=body,defers:=Db }) SI l items:=by
 intro k F S W i vs hpre hJ hFb hbd Vf hR
 obtain ⟨x,ρ,So,FG,hT,hI,hFl,Cp⟩:=hJ
 have hstep:∀ ro,(jl P E Γ G.lo lo' N ps.toList as body la lb e mps x i).Has ro->ro ≠ .bad:=fun ro hro e=>by
  subst e
  obtain ⟨rest,lW⟩:=hpre
  have:=pz hT hro trivial rest
  rw [<- lW,List.append_assoc] at cC
  exact cC _ this rfl
 have hlen:vs.length=ps.size:=by rw [hR.len,sC]
 refine ⟨fid,_,as,body,run_yield Cp (by simpa using hlen),Ft jv.wide hfd ?_⟩
 -- the frame of the round
 have hm:=hI.sr.more hE.gh hbd fun b o q=>by
  by_cases hb:F b
  ·exact .inl (hI.si b o (Vf b o q hb))
  ·exact .inr ⟨by have:=hI.w0 b; exact Nat.le_of_not_lt fun h=>hb (this h),fun h=>hb (hI.fg b h),fun id h1=>hb (hI.ob id b h1)⟩
 have hc:=hm.enter (lo:=lo') (l:=G.l) rfl
 have hvl:(dP e i).length=vs.length:=by rw [rQ heL,hR.len]
 have hp:=SR.params ps.toList (dP e i) vs hps hc (by simpa using hlen.symm) hvl (fun j d u h1 h2=>by
  have hR':R P e (fun b o=>So b o\/S b o) W i vs:=hR.mono ⟨Nat.le_refl _,fun _ _ q=>.inr q,fun _ _ _=>rfl,fun _ _ _ _ _ q=>q,hm.bd,.refl W⟩
  have:=jG (Y:=(Gh.inner (seen W (wr G.lo .none (.mark :: aS) mps x).heap ρ) (fun b o=>So b o\/S b o) W G.l lo' (bP (wr G.lo .none (.mark :: aS) mps x).heap ρ)).Y) (heap:=(wr G.lo .none (.mark :: aS) mps x).heap) (ρ:=ρ) hR' j
  rw [List.getD_eq_getElem?_getD,List.getD_eq_getElem?_getD,h1,h2] at this
  exact this)
 have wT:=hw
 simp only [IF,Bool.and_eq_true,Bool.not_eq_true'] at wT
 have hnt:lS mps=false:=wT.1.1.2
 have h0:SR P N (Gh.inner (seen W (wr G.lo .none (.mark :: aS) mps x).heap ρ) (fun b o=>So b o\/S b o) W G.l lo' (bP (wr G.lo .none (.mark :: aS) mps x).heap ρ)) (rst lo' ps.toList e mps x i)
   { tmps:=(ps.zip vs.toArray).foldl (fun tmps (t,a)=>tmps.setIfInBounds t a) a₁.tmps,defers:=[] } W ρ (fun b o=>So b o\/S b o) (fun _=>False):=by
  have ea:(ps.zip vs.toArray).foldl (fun tmps (t,a)=>tmps.setIfInBounds t a) a₁.tmps=(ps.toList.zip vs).foldl (fun tmps p=>tmps.setIfInBounds p.1 p.2) a₁.tmps:=by
   rw [<- Array.foldl_toList]; simp
  rw [ea]
  exact hp.of_eq rfl rfl (gG hnt) rfl
 have Cy:∀ W',(Gh.inner (seen W (wr G.lo .none (.mark :: aS) mps x).heap ρ) (fun b o=>So b o\/S b o) W' G.l lo' (bP (wr G.lo .none (.mark :: aS) mps x).heap ρ)).Ok P:=fun W'=>SL hw
 have sY:∀ W',Env P E.uD Γ (Gh.inner (seen W (wr G.lo .none (.mark :: aS) mps x).heap ρ) (fun b o=>So b o\/S b o) W' G.l lo' (bP (wr G.lo .none (.mark :: aS) mps x).heap ρ)) (Fence.wide.inRound l):=fun W' =>
  ⟨hE.mixed,hE.fns,hE.eq,hE.key,Cy W',jv.wide.inRound l,fun q=>by cases q⟩
 have hlW:l < W.heap.size:=(Array.getElem?_eq_some_iff.1 Cp).1
 have Fu:¬ seen W (wr G.lo .none (.mark :: aS) mps x).heap ρ l:=fun ⟨id,h1⟩=>by
  rcases hI.sr.yG h1 with ⟨c,T,f,q⟩ | ⟨es,c,q⟩ <;> (rw [q] at Cp; cases Cp)
 refine dG (dy (G:=Gh.inner (seen W (wr G.lo .none (.mark :: aS) mps x).heap ρ) (fun b o=>So b o\/S b o) W G.l lo' (bP (wr G.lo .none (.mark :: aS) mps x).heap ρ)) (K:=agp P E Γ G.lo lo' N body lb mps x) (ch:=Tree.any)
  (T:=fun t:Tree (RO mps)=>∀ ro,t.Has ro->(jl P E Γ G.lo lo' N ps.toList as body la lb e mps x i).Has ro) (sY W) (fun a b q=>⟨fun ro h=>q ro (.inl h),fun ro h=>q ro (.inr h)⟩)
  ⟨fun q=>hstep _ (q .bad rfl) rfl,fun s' q=>(hstep _ (q .bad rfl) rfl).elim⟩ (fun ro h=>h) (hla _ rfl (Cy W) dH l) ⟨_,_,_,h0⟩) ?_
 rintro e1 a1 w1 ⟨o,ho,hT1⟩
 cases o with
 | exit id s1=>exact (hstep _ (hT1 .bad rfl) rfl).elim
 | ret s1=>exact (hstep _ (hT1 .bad rfl) rfl).elim
 | cw d s1=>exact (hstep _ (hT1 .bad rfl) rfl).elim
 | bad=>exact (hstep _ (hT1 .bad rfl) rfl).elim
 | norm s1 =>
  cases e1 <;> try exact ho.elim
  obtain ⟨ρ1,S1,F1,h1⟩:=ho
  have agr:w1.heap[l]? = some (.loop { state:=.ready,pending:=none,fn:=fid,tmps:=a₁.tmps,params:=ps,assign:=as,body:=body,defers:=Db }):=(h1.same.block l ⟨hlW,Fu,fun q=>q⟩).trans Cp
  have aBH:¬ F1 l:=fun q=>h1.f0 l hlW q
  refine ⟨_,run_beginRound agr rfl,?_⟩
  have h1':=h1.aqM (r':={ state:=.busy,pending:=none,fn:=fid,tmps:=a₁.tmps,params:=ps,assign:=as,body:=body,defers:=Db }) ⟨_,agr⟩ hlW Fu aBH
  refine dG (dy (G:=Gh.inner (seen W (wr G.lo .none (.mark :: aS) mps x).heap ρ) (fun b o=>So b o\/S b o) (W.putObj l (.loop { state:=.busy,pending:=none,fn:=fid,tmps:=a₁.tmps,params:=ps,assign:=as,body:=body,defers:=Db })) G.l lo' (bP (wr G.lo .none (.mark :: aS) mps x).heap ρ))
   (K:=fun o=>.leaf (aqN G.lo lo' mps x o)) (ch:=Tree.any)
   (T:=fun t:Tree (RO mps)=>∀ ro,t.Has ro->(jl P E Γ G.lo lo' N ps.toList as body la lb e mps x i).Has ro) (sY _) (fun a b q=>⟨fun ro h=>q ro (.inl h),fun ro h=>q ro (.inr h)⟩)
   ⟨fun q=>hstep _ (q .bad rfl) rfl,fun s' q=>(hstep _ (q .bad rfl) rfl).elim⟩ (fun ro h=>hT1 ro h) (hlb _ rfl (Cy _) dH l) ⟨_,_,_,h1'⟩) ?_
  rintro e2 a2 w3 ⟨o2,Jl,hT2⟩
  have hro:=hT2 _ rfl
  have hne:=hstep _ hro
  -- the main frame,with the record busy
  have hmP:=hm.adf hE.gh (r':={ state:=.busy,pending:=none,fn:=fid,tmps:=a₁.tmps,params:=ps,assign:=as,body:=body,defers:=Db }) ⟨_,Cp⟩ hl0 (fun q=>absurd (hI.fl l q) (Nat.lt_irrefl _))
  have adg:(W.putObj l (.loop { state:=.busy,pending:=none,fn:=fid,tmps:=a₁.tmps,params:=ps,assign:=as,body:=body,defers:=Db })).heap.size=W.heap.size:=by simp
  -- what holds behind the round,whichever way it was left
  have key:∀ {s2:St} {ρ2:fV} {S2:CS} {F2:Nat->Prop} {mk:(aa mps).den->RO mps},
    SR P N (Gh.inner (seen W (wr G.lo .none (.mark :: aS) mps x).heap ρ) (fun b o=>So b o\/S b o) (W.putObj l (.loop { state:=.busy,pending:=none,fn:=fid,tmps:=a₁.tmps,params:=ps,assign:=as,body:=body,defers:=Db })) G.l lo' (bP (wr G.lo .none (.mark :: aS) mps x).heap ρ)) s2 a2 w3 ρ2 S2 F2 ->
    KY G.lo lo' mps x mk s2 ≠ .bad->∃ x' ρ3,KY G.lo lo' mps x mk s2=mk x'/\a2.defers=[]/\(∃ r,w3.heap[l]? = some (.loop r)/\r={ state:=.busy,pending:=none,fn:=fid,tmps:=a₁.tmps,params:=ps,assign:=as,body:=body,defers:=Db }) /\
     eT (fun b=>b < W.heap.size/\¬ F b) W w3/\zS S W w3/\Cz P N G aS mps a₁ SI l x' (fun b=>F b\/(W.heap.size<=b/\b < w3.heap.size)) S w3 ρ3 S2 FG:=by
   intro s2 ρ2 S2 F2 mk h2 hb
   obtain ⟨y,x',hd,hy,hs,ha,hmk⟩:=VD hb
   obtain ⟨ρ3,g1,g2⟩:=QU hE.gh hfree hw Pw hmP (fun b ⟨id,q⟩=>⟨id,q.tr rfl fun b q1 q2=>World.putObj_heap_other fun e=>Fu ⟨id,e ▸ .of q2 q1⟩⟩) h2 hd hy hs ha
   have ZH:∀ b,b < W.heap.size->¬ seen W (wr G.lo .none (.mark :: aS) mps x).heap ρ b->w3.heap[b]? = (W.putObj l (.loop { state:=.busy,pending:=none,fn:=fid,tmps:=a₁.tmps,params:=ps,assign:=as,body:=body,defers:=Db })).heap[b]? := fun b hb hn =>
    h2.same.block b ⟨by show b < (W.putObj l _).heap.size; rw [adg]; exact hb,hn,fun q=>q⟩
   have ZK:∀ b,seen W (wr G.lo .none (.mark :: aS) mps x).heap ρ b->F b:=fun b ⟨id,q1⟩=>hI.ob id b q1
   have ags:W.heap.size<=w3.heap.size:=by have:=h2.same.size; have this:(W.putObj l _).heap.size<=w3.heap.size:=this; rw [adg] at this; exact this
   refine ⟨x',ρ3,hmk,?_,⟨_,?_,rfl⟩,⟨h2.same.os,h2.same.tape,h2.same.output,ags,fun b hb=>?_⟩,?_,g1,fun b o q=>?_,fun id b q1=>?_,fun b q=>.inl (hI.fg b q),fun b q=>.inl (hI.w0 b q),fun D q=>.inl (hI.mks D q),fun b o q=>?_,hI.fl⟩
   ·have:=h2.aS
    rw [hd] at this
    cases qV:a2.defers with
    | nil=>rfl
    | cons d ds=>rw [qV] at this; exact this.elim
   ·rw [ZH l hlW Fu]; exact World.putObj_heap_same hlW
   ·rw [ZH b hb.1 fun q=>hb.2 (ZK b q)]
    exact World.putObj_heap_other fun q=>hb.2 (q ▸ hFl)
   ·exact (lX ⟨_,Cp⟩).trans ((h2.ext.kps).mono fun b o q=>.inr q)
   ·rcases h2.new b o q with (q | q) | q | q
    ·exact (hI.so b o q).imp .inl id
    ·exact .inr q
    ·have q:(W.putObj l _).heap.size<=b:=q
     rw [adg] at q
     exact .inl (.inr ⟨q,h2.bd b o ‹_›⟩)
    ·exact .inl (.inl (ZK b q))
   ·rcases g2 id b q1 with q | ⟨id',q3⟩
    ·rw [adg] at q
     exact .inr ⟨q,(g1.gD q1).1⟩
    ·exact .inl (hI.ob id' b (q3.back rfl fun b q1 q2=>World.putObj_heap_other fun e=>Fu ⟨id',e ▸ .of q2 q1⟩))
   ·exact h2.ext.sub b o (.inl (hI.si b o q))
  -- the record's last turn
  have last:∀ {x':(aa mps).den} {ρ3:fV} {S2:CS} {r r':Go.Loop},w3.heap[l]? = some (.loop r)->eT (fun b=>b < W.heap.size/\¬ F b) W w3->zS S W w3 ->
    Cz P N G aS mps a₁ SI l x' (fun b=>F b\/(W.heap.size<=b/\b < w3.heap.size)) S w3 ρ3 S2 FG ->
    zT F W (fun b=>F b\/(W.heap.size<=b/\b < w3.heap.size)) (w3.putObj l (.loop r'))/\eT (fun b=>b < W.heap.size/\¬ F b) W (w3.putObj l (.loop r'))/\zS S W (w3.putObj l (.loop r')) /\
    Cz P N G aS mps a₁ SI l x' (fun b=>F b\/(W.heap.size<=b/\b < w3.heap.size)) S (w3.putObj l (.loop r')) ρ3 S2 FG/\(w3.putObj l (.loop r')).heap[l]? = some (.loop r'):=by
   intro x' ρ3 S2 r r' hr hs hk Nx
   refine ⟨⟨fun b q=>.inl q,fun b q=>q.imp id fun q=>q.1,fun b q=>by
    have hz:(w3.putObj l (.loop r')).heap.size=w3.heap.size:=by simp
    rw [hz]
    rcases q with q | q
    ·exact Nat.lt_of_lt_of_le (hFb b q) hs.size
    ·exact q.2⟩,hs.trans (Ap fun q=>q.2 hFl),hk.trans (lX ⟨_,hr⟩),⟨Nx.sr.adf hE.gh ⟨_,hr⟩ hl0 (fun q=>absurd (hI.fl l q) (Nat.lt_irrefl _)),Nx.so,fun id b q=>Nx.ob id b (q.back rfl fun b q1 q2=>World.putObj_heap_other fun e=>by
     subst e
     rcases Nx.sr.yG (.of q2 q1) with ⟨c,T,f,z⟩ | ⟨es,c,z⟩ <;> (rw [z] at hr; cases hr)),Nx.fg,Nx.w0,Nx.mks,Nx.si,Nx.fl⟩,World.putObj_heap_same (Array.getElem?_eq_some_iff.1 hr).1⟩
  cases o2 with
  | bad=>exact absurd rfl hne
  | norm s2 =>
   cases e2 <;> try exact Jl.elim
   obtain ⟨ρ2,S2,F2,h2⟩:=Jl
   obtain ⟨x',ρ3,hmk,_,⟨r,hr,rfl⟩,hs,hk,Nx⟩:=key h2 hne
   obtain ⟨g1,g2,g3,g4,g5⟩:=last (r':={ state:=.ready,pending:=none,fn:=fid,tmps:=a₁.tmps,params:=ps,assign:=as,body:=body,defers:=Db }) hr hs hk Nx
   refine ⟨_,_,run_endRound none hr,_,g1,g2,g3,.inl ⟨rfl,x',ρ3,S2,FG,.snoc hT (by rw [<- hmk]; exact hro),g4,.inl hFl,g5⟩⟩
  | exit id s2 =>
   cases e2 <;> try exact Jl.elim
   obtain ⟨rfl,ρ2,S2,F2,h2⟩:=Jl
   obtain ⟨x',ρ3,hmk,_,⟨r,hr,rfl⟩,hs,hk,Nx⟩:=key h2 hne
   obtain ⟨g1,g2,g3,g4,g5⟩:=last (r':={ state:=.done,pending:=some (.exit id),fn:=fid,tmps:=a₁.tmps,params:=ps,assign:=as,body:=body,defers:=Db }) hr hs hk Nx
   exact ⟨_,_,run_endRound (some (.exit id)) hr,_,g1,g2,g3,.inr (.inl ⟨rfl,k,i,x,.brk id x',x',ρ3,S2,FG,.exit id,rfl,hT,by rw [<- hmk]; exact hro,rfl,rfl,g4,.inl hFl,g5⟩)⟩
  | ret s2 =>
   cases e2 <;> try exact Jl.elim
   obtain ⟨ρ2,S2,F2,h2⟩:=Jl
   obtain ⟨x',ρ3,hmk,_,⟨r,hr,rfl⟩,hs,hk,Nx⟩:=key h2 hne
   obtain ⟨g1,g2,g3,g4,g5⟩:=last (r':={ state:=.done,pending:=some .ret,fn:=fid,tmps:=a₁.tmps,params:=ps,assign:=as,body:=body,defers:=Db }) hr hs hk Nx
   exact ⟨_,_,run_endRound (some .ret) hr,_,g1,g2,g3,.inr (.inl ⟨rfl,k,i,x,.ret x',x',ρ3,S2,FG,.ret,rfl,hT,by rw [<- hmk]; exact hro,rfl,rfl,g4,.inl hFl,g5⟩)⟩
  | cw d s2 =>
   cases e2 <;> try exact Jl.elim
   cases d with
   | Cm T τ d =>
    obtain ⟨u,ρ2,S2,F2,hch,h2,u0,hu,hRd⟩:=Jl
    obtain ⟨x',ρ3,hmk,aBI,⟨r,hr,rfl⟩,hs,hk,Nx⟩:=key h2 hne
    subst hu
    refine ⟨aBI,fun b=>F b\/(W.heap.size<=b/\b < w3.heap.size),⟨fun b q=>.inl q,fun b q=>q.imp id fun q=>q.1,fun b q=>?_⟩,hs,hk,.inr (.inr ⟨_,rfl,k,i,x,T,τ,d,x',u0,ρ3,S2,FG,rfl,hT,by rw [<- hmk]; exact hro,hch,Nx,hRd⟩)⟩
    rcases q with q | q
    ·exact Nat.lt_of_lt_of_le (hFb b q) hs.size
    ·exact q.2
   | _=>exact absurd rfl hne
end Go.Dm
namespace Go.Dm
open Go.RowKit
variable {P:Program} {N N':Nat} {G:Gh} {S S' S2:CS} {w w' w2:World} {s s2:St} {a a2:Act} {ρ ρ' ρ2:fV} {F F' F2:Nat->Prop} {heap heap' H' H2:Nat->aN} {Y:Value} {E:cO} {Γ:Ctx} {Fw:Fence} {r:Nat} {ops:Array Oper} {lo lo' base:Nat} {aS:List gx} {vr Ma:Nat->Nat} {n:Nat} {fid:FuncId} {mps:List aL} {e:Ty}
theorem eV.Fv {n0:Nat}:∀ {ds:List gx} {dd:List Deferred},eV n0 w heap ρ F ds dd->∀ D∈marksOf dd,D < w.heap.size
 | [],[],_=>by simp [marksOf]
 | .mark :: r,d :: ds,⟨⟨D',h1,h2,h3,h4,h5⟩,h⟩=>by
  subst h1
  intro D hD
  have hD:D=D'\/D∈marksOf ds:=by simpa [marksOf] using hD
  rcases hD with rfl | hD
  ·exact (Array.getElem?_eq_some_iff.1 h4).1
  ·exact h.Fv D hD
 | .nE f ids :: r,d :: ds,⟨⟨us,h1,h2⟩,h⟩=>by
  subst h1
  intro D hD
  exact h.Fv D (by simpa [marksOf] using hD)
 | [],_ :: _,h=>h.elim
 | .mark :: _,[],h=>h.elim
 | .nE _ _ :: _,[],h=>h.elim
theorem VE (hE:Env P E Γ G Fence.wide) (hfree:G.lU) {fd:Func} (hfd:P.funcs[fid]? = some fd) {t:Tmp} {ps:Array Tmp} (hps:ps.toList.all (Nat.blt · N)=true) (sC:ps.size=e.cells) (heL:e.isL=true)
  (hw:IF lo' mps=true) (Pw:sG (gp mps) aS=true) {as body:Code} {la lb:List Loop}
  (hla:∀ G':Gh,G'.lo=lo'->G'.Ok P->G'.lU->∀ l,iW P N G' fid (Fence.wide.inRound l) 0 as la) (hlb:∀ G':Gh,G'.lo=lo'->G'.Ok P->G'.lU->∀ l,iW P N G' fid (Fence.wide.inRound l) 0 body lb) :
  gX P N G fid Fence.wide 0 (.rangeFunc (.tmp t) ps as body) (QS G.lo aS t e mps (jl P E Γ G.lo lo' N ps.toList as body la lb e mps)):=by
 intro s a w ⟨ρ,S,F,h⟩ cC
 unfold QS at cC ⊢
 split at cC
 case h_2=>exact (cC .bad rfl).elim
 rename_i e' ZB x0 hd hs hx
 split at cC
 case h_2=>exact (cC .bad rfl).elim
 rename_i aBJ hcast
 obtain ⟨heq,aBK⟩:=bK hcast
 cases heq
 cases aBK
 have hd:=dU hd
 have hro:∀ ro,(pQ (jl P E Γ G.lo lo' N ps.toList as body la lb e mps) x0 (show Sl e.den from ZB).list).Has ro->ro ≠ .bad:=fun ro hr e=>by
  subst e
  exact cC _ (Tree.dz (f:=RO.out G.lo (.mark :: aS)) hr)
 -- the iterator
 have hv:=h.env t
 rw [hs] at hv
 obtain ⟨_,f,first,caps,hval,jK,hit⟩:=hv
 have hval:a.eval (.tmp t) = .func (.func f) first caps:=(List.cons.inj hval).1
 -- what lives
 have wT:=hw
 simp only [IF,Bool.and_eq_true,Bool.not_eq_true'] at wT
 obtain ⟨⟨⟨⟨⟨⟨w1',w2'⟩,w3'⟩,w4'⟩,w5'⟩,w6'⟩,w7'⟩:=wT
 have h0:=qz hE.gh h (vr:=fun _=>0) (t:=.none) w1' (by rw [hd]; exact Pw) (.inr (hfree _ _ _)) hx
 -- the record
 let Ny:Go.Loop:={ state:=.ready,pending:=none,fn:=fid,tmps:=a.tmps,params:=ps,assign:=as,body:=body,defers:=w.heap.size }
 let W:=(w.alloc (.deferred (some []))).alloc (.loop Ny)
 have e1:=nF h0.bd (.deferred (some []))
 have h1:=h0.grow hE.gh.c e1 (jB w _)
 have e2:=nF h1.bd (.loop Ny)
 have h2:=h1.grow hE.gh.c e2 (jB _ _)
 have hsz:W.heap.size=w.heap.size + 2:=by simp [W]
 have hD:W.heap[w.heap.size]? = some (.deferred (some [])):=by
  have q1:(w.alloc (.deferred (some []))).heap[w.heap.size]? = some (.deferred (some [])):=heap_alloc_new w _
  exact ((jB (w.alloc (.deferred (some []))) (.loop Ny)).block w.heap.size (by simp)).trans q1
 have hL:W.heap[w.heap.size + 1]? = some (.loop Ny):=by
  have q:=heap_alloc_new (w.alloc (.deferred (some []))) (.loop Ny)
  have e:(w.alloc (.deferred (some []))).heap.size=w.heap.size + 1:=by simp
  rw [e] at q
  exact q
 have hmk:=h0.aS.Fv
 have h3:SR P N G (wr G.lo .none (.mark :: aS) mps x0) { a with defers:=[{ target:=.collected w.heap.size,args:=#[] }] ++ a.defers } W (fo G.fu s.heap ρ) S F:=by
  refine ⟨h2.size,⟨⟨w.heap.size,rfl,h.ext.size,fun q=>absurd (h.fb _ q) (Nat.lt_irrefl _),hD,fun q=>absurd (hmk _ q) (Nat.lt_irrefl _)⟩,?_⟩,h2.env,h2.obj,h2.inj,h2.ext,h2.new,h2.same,h2.tr,h2.fb,h2.f0,h2.sub,h2.fs,h2.pins⟩
  rw [<- hd]; exact h2.aS
 have hex:Ext0 S w S W:=e1.toExt0.trans e2.toExt0
 have hI:Cz P N G aS mps { a with defers:=[{ target:=.collected w.heap.size,args:=#[] }] ++ a.defers } S (w.heap.size + 1) x0 (fun b=>b < W.heap.size) S W (fo G.fu s.heap ρ) S F:=by
  refine ⟨h3,fun b o q=>.inl (h3.bd b o q),fun id b q1=>(h3.gD q1).1,fun b q=>h3.fb b q,fun b q=>Nat.lt_of_lt_of_le q h3.ext.size,fun D q=>?_,fun b o q=>q,fun b q=>Nat.lt_succ_of_lt (h.fb b q)⟩
  have q:D=w.heap.size\/D∈marksOf a.defers:=by simpa [marksOf] using q
  rcases q with rfl | q
  ·rw [hsz]; omega
  ·have:=hmk D q; rw [hsz]; omega
 have hy:=Nw (SI:=S) (x0:=x0) (l:=w.heap.size + 1) (Db:=w.heap.size) (a₁:={ a with defers:=[{ target:=.collected w.heap.size,args:=#[] }] ++ a.defers }) (items:=(show Sl e.den from ZB).list) hE hfree hfd hps sC heL hw Pw hla hlb
  (by have:=h.ext.size; omega) hro
 have rF:=hit S W hex (ZC P N G aS mps { a with defers:=[{ target:=.collected w.heap.size,args:=#[] }] ++ a.defers } S (jl P E Γ G.lo lo' N ps.toList as body la lb e mps) x0 (w.heap.size + 1) Ny) (ZG hE.gh)
  (fun b=>b < W.heap.size) (w.heap.size + 1) ⟨x0,_,_,_,.nil,hI,by rw [hsz]; omega,hL⟩ (fun b=>Iff.rfl) hy
 have hres:(resolve a.eval (rangeCall (.tmp t) (w.heap.size + 1)) 0).run P W = .ok { target:=.fn (.func f) caps,args:=first ++ #[.func (.yield (w.heap.size + 1)) #[] #[]] } W:=by
  have em:Array.map a.eval #[Operand.const (Value.func (Fn.yield (w.heap.size + 1)) #[] #[])] = #[.func (.yield (w.heap.size + 1)) #[] #[]]:=by simp [Act.eval]
  simp only [resolve,rangeCall,hval,Deferred.ofValue,Sem.run_pure,em]
 refine IG ⟨w.heap.size + 1,_,W,_,W,f,_,W,run_enterLoop_outer fid a.tmps ps as body,hres,fun _ _=>trivial,jK _ _,fun q=>(by cases q),(jv.wide.calls rF).mono ?_⟩
 rintro en w3 ⟨F',S',hg,hk,mJ⟩
 have ags:∀ b,b < W.heap.size->F' b:=fun b hb=>hg.sub b hb
 rcases mJ with ⟨rfl,hJ | ⟨l',hl',hJ⟩⟩ | ⟨l',ch,hl',rfl,hJ⟩
 ·obtain ⟨x,ρ3,So,FG,hT,hI3,hFl,hr3⟩:=hJ
  refine ⟨_,_,run_endLoop hr3 (by simp [Ny]),?_⟩
  have hh:=yI hT [] (.next x) rfl
  rw [List.append_nil] at hh
  exact ⟨_,Tree.dz (f:=RO.out G.lo (.mark :: aS)) hh,_,_,_,hI3.sr.adf hE.gh ⟨_,hr3⟩ (by have:=h.ext.size; omega) (fun q=>absurd (hI3.fl _ q) (Nat.lt_irrefl _))⟩
 ·obtain ⟨k0,i,x,o,x',ρ3,So,FG,c,rfl,hT,ho,aqR,hj,hI3,hFl,hr3⟩:=hJ
  refine ⟨_,_,run_endLoop hr3 (by simp),?_⟩
  obtain ⟨rest,lW⟩:=hl'
  rw [List.append_assoc] at lW
  have hsr:=hI3.sr.adf hE.gh (r':={ { Ny with state:=.done,pending:=some c } with state:=.exhausted }) ⟨_,hr3⟩ (by have:=h.ext.size; omega) (fun q=>absurd (hI3.fl _ q) (Nat.lt_irrefl _))
  cases o with
  | next _=>cases hj
  | cw _ _ _ _=>cases hj
  | bad=>cases hj
  | brk id y =>
   cases hj; cases aqR
   have hh:=pz hT ho trivial rest
   rw [show k0 ++ i :: rest=k0 ++ ([i] ++ rest) from rfl,lW] at hh
   exact wpIn_exit ⟨_,Tree.dz (f:=RO.out G.lo (.mark :: aS)) hh,rfl,_,_,_,hsr⟩
  | ret y =>
   cases hj; cases aqR
   have hh:=pz hT ho trivial rest
   rw [show k0 ++ i :: rest=k0 ++ ([i] ++ rest) from rfl,lW] at hh
   exact wpIn_ret ⟨_,Tree.dz (f:=RO.out G.lo (.mark :: aS)) hh,_,_,_,hsr⟩
 ·obtain ⟨k0,i,x,T,τ,d,x',u0,ρ3,So,FG,rfl,hT,ho,rfl,hI3,hR⟩:=hJ
  obtain ⟨rest,lW⟩:=hl'
  rw [List.append_assoc] at lW
  have hh:=pz hT ho trivial rest
  rw [show k0 ++ i :: rest=k0 ++ ([i] ++ rest) from rfl,lW] at hh
  exact ⟨_,Tree.dz (f:=RO.out G.lo (.mark :: aS)) hh,_,ρ3,So,FG,rfl,hI3.sr,u0,rfl,hR⟩
end Go.Dm
namespace Go.Dm
open Go.RowKit
variable {P:Program} {N N':Nat} {G:Gh} {S S' S2:CS} {w w' w2:World} {s s2:St} {a a2:Act} {ρ ρ' ρ2:fV} {F F' F2:Nat->Prop} {heap heap' H' H2:Nat->aN} {Y:Value} {E:cO} {Γ:Ctx} {Fw:Fence} {r:Nat} {ops:Array Oper} {lo lo' base:Nat} {aS:List gx} {vr Ma:Nat->Nat} {n:Nat} {fid:FuncId} {mps:List aL} {e:Ty}
def QV (fid:FuncId) (F:Fence) (n:Nat) (P:Program) (c:Code) (Q:Exit->Act->List Frame->World->Prop) (a:Act) (cs:List Frame) (w:World):Prop:=
 ∀ (b:Frame) (k:List Item),b.fn=fid->b.kind = .deferred->b.roundOf=none->F.fn b.fn->F.room (cs.length + 1 + n) ->
  ∃ e a' cs' w',cs'.length=cs.length/\Q e a' cs' w'/\ArrivesIn (Machine.fenced P F) P (lone (b.atR a (.code c :: k)) cs w) b k cs' e a' w'
section
variable {Q:Exit->Act->List Frame->World->Prop} {cs:List Frame}
theorem Nz {c:Code} (hro:Fw.round=none) (h:Bp fid Fw n P c (fun e a' w'=>Q e a' cs w') a w):QV fid Fw n P c Q a cs w:=
 fun b k hf _ hr hb hroom=>let ⟨e,a',w',q,r⟩:=h b k cs hf (hr.trans hro.symm) hb hroom; ⟨e,a',cs,w',rfl,q,r⟩
theorem II {c:Code} (h:c.wpSIn Fw n P Q a cs w):QV fid Fw n P c Q a cs w:=fun b k _=>h b k
theorem ZL {x y:Code} (h:QV fid Fw n P x (Exit.thenS (QV fid Fw n P y Q) Q) a cs w):QV fid Fw n P (.seq x y) Q a cs w:=by
 intro b k hf hb hr hF hroom
 have i0:(lone (b.atR a (.code (.seq x y) :: k)) cs w).fenced P Fw:=fenced_calm hF hroom rfl
 obtain ⟨e,a₁,cs₁,w₁,hl,hq,dM⟩:=h b (.code y :: k) hf hb hr hF hroom
 cases e with
 | normal =>
  obtain ⟨e₂,a₂,cs₂,w₂,hl₂,WT,vV⟩:=hq b k hf hb hr hF (hl ▸ hroom)
  exact ⟨e₂,a₂,cs₂,w₂,hl₂.trans hl,WT,.of_steps (.head i0 stepR_seq dM) vV⟩
 | exit id=>exact ⟨_,a₁,cs₁,w₁,hl,hq,.of_steps (.one i0 stepR_seq) (.pass (x:=.code y) rfl (fun _ _=>.inl (by simp)) dM)⟩
 | goto l=>exact ⟨_,a₁,cs₁,w₁,hl,hq,.of_steps (.one i0 stepR_seq) (.pass (x:=.code y) rfl (fun _ _=>.inl (by simp)) dM)⟩
 | ret=>exact ⟨_,a₁,cs₁,w₁,hl,hq,.of_steps (.one i0 stepR_seq) (.pass (x:=.code y) rfl (fun _ _=>.inl (by simp)) dM)⟩
 | panic ch=>exact ⟨_,a₁,cs₁,w₁,hl,hq,.of_steps (.one i0 stepR_seq) (.pass (x:=.code y) rfl (fun _ _=>.inl (by simp)) dM)⟩
 | outgrown=>exact ⟨_,a₁,cs₁,w₁,hl,hq,.of_steps (.one i0 stepR_seq) (.pass (x:=.code y) rfl (fun _ _=>.inl (by simp)) dM)⟩
theorem Aq {fn:Func} {c:Code} {args:Array Value} {u:FrameMode} {w:World} {R:Ending->FrameMode->World->Prop}
    (hf:P.funcs[fid]? = some fn) (hb:fn.body=some c) (hF:Fw.fn fid)
    (h:∀ (c₀:Frame) (cs:List Frame),c₀.mode=u ->
      QV fid Fw n P c (bodyPostS P fn c₀ cs R) { tmps:=args ++ Array.replicate (fn.ntmps - args.size) undef,defers:=[] } (c₀ :: cs) w) :
    CallsDIn Fw n P fid args u w R:=by
  refine ⟨hF,fun c₀ cs hu hroom=>?_⟩
  let b:Frame:={ (default:Frame) with fn:=fid,kind:=.deferred,roundOf:=none }
  have wX:Frame.enter P fid args .deferred =
      b.atR { tmps:=args ++ Array.replicate (fn.ntmps - args.size) undef,defers:=[] } [.code c]:=by
    simp [Frame.enter,Frame.atR,hf,hb,b]
  obtain ⟨e,a',cs',w',hl,hq,dM⟩:=h c₀ cs hu b [] rfl rfl rfl hF hroom
  rw [<- wX] at dM
  cases e with
  | normal =>
    obtain ⟨hd,u',rfl,v,hr,hR⟩:=hq
    exact ⟨.returned v,u',w',_,hR,StepsIn.trans dM (.one (fenced_calm (fr:=b.atR a' []) hF hroom rfl) (stepR_end rfl)),rfl,rfl,rfl,hd,fn,hf,hr⟩
  | ret =>
    obtain ⟨hd,u',rfl,v,hr,hR⟩:=hq
    obtain ⟨todo,hs⟩:=dM.1 rfl
    exact ⟨.returned v,u',w',_,hR,hs,rfl,rfl,rfl,hd,fn,hf,hr⟩
  | panic chain =>
    obtain ⟨hd,u',rfl,hR⟩:=hq
    obtain ⟨todo,hs⟩:=dM
    exact ⟨.panicked chain,u',w',_,hR,hs,rfl,rfl,rfl,hd,fn,hf⟩
  | exit id=>exact hq.elim
  | goto l=>exact hq.elim
  | outgrown =>
    obtain ⟨u',hR⟩:=hq
    exact ⟨.outgrown,u',w',b,hR,dM.resolve_left (by simp [b]),rfl,rfl,trivial⟩
end
inductive Md where
 | ret
 | cw (T:TypeId) (τ:Ty) (d:τ.den)
def Md.dc:Md->DC
 | .ret=>.ua
 | .cw T τ d=>.Cm T τ d
def uE (P:Program) (S:CS) (w:World):Md->FrameMode->Prop
 | .ret,u=>u = .returning
 | .cw T τ d,u=>∃ u0,u = .panicking [{ v:=.iface T u0,recovered:=false }]/\R P τ S w d [u0]
def adh (lo:Nat) (ps:List aL) (x:(aa ps).den):Out->Tree (Option (aa (aj ps)).den)
 | .ret s | .norm s=>match s.aS,rd lo s (aj ps) with
  | [],some y=>match dw ps x y with
   | true=>.leaf (some y)
   | false=>.leaf none
  | _,_=>.leaf none
 | _=>.leaf none
def aph (P:Program) (E:cO) (Γ:Ctx) (N:Nat) (rest:Code) (ls:List Loop) (lo:Nat) (ps:List aL) (t:Nat) (m:Md) (x:(aa ps).den):Option (aa (aj ps)).den:=
 (gF P E Γ lo N .any rest ls { wr lo .none [] ps x with env:=setEnv (wr lo .none [] ps x).env t (.v m.dc) } (adh lo ps x)).sure
abbrev UP:=List Nat->Md->(Nat->aN)->Option (List (Nat×aN))
def aiy (n:Nat) (ps:List aL) (run:Md->(aa ps).den->Option (aa (aj ps)).den):UP:=fun ids m heap =>
 match Nat.ble ids.length n,rd 0 ⟨fun t=>(ids.map fun i=>Slot.v (.ptr i 0)).getD t .top,heap,.none,0,[]⟩ ps with
 | true,some x=>(run m x).map fun y=>aT (bL heap) (aj ps) y
 | _,_=>none
def Ju (P:Program) (f:FuncId) (app:UP):Prop:=
 ∀ (N:Nat) (G:Gh) (s:St) (a:Act) (w:World) (ρ:fV) (S:CS) (F:Nat->Prop),G.Ok P->G.lo=0->SR P N G s a w ρ S F ->
  ∀ (ids:List Nat) (us:List Value) (m:Md) (u:FrameMode) (wh:List (Nat×aN)),dZ s.heap ρ ids us->uE P S w m u->app ids m s.heap=some wh ->
   CallsDIn Fence.wide 0 P f us.toArray u w fun e u' w'=>(∃ v,e = .returned v)/\settle u' = .returning/\∃ ρ' S',SR P N G { s with heap:=dm s.heap wh } a w' ρ' S' F
theorem dZ.len:∀ {ids:List Nat} {us:List Value},dZ heap ρ ids us->ids.length=us.length
 | [],[],_=>rfl
 | _ :: _,_ :: _,h=>by simp [dZ.len h.2]
 | [],_ :: _,h=>h.elim
 | _ :: _,[],h=>h.elim
theorem dZ.get:∀ {ids:List Nat} {us:List Value},dZ heap ρ ids us->∀ t,RS P Y S w heap ρ ((ids.map fun i=>Slot.v (.ptr i 0)).getD t .top) (us.getD t undef)
 | [],[],_,t=>trivial
 | _ :: _,_ :: _,h,0=>h.1
 | _ :: _,_ :: _,h,t + 1=>by simpa using dZ.get h.2 t
 | [],_ :: _,h,_=>h.elim
 | _ :: _,[],h,_=>h.elim
theorem Er (hm:P.follows .mixedOrders=true) (hΓ:Sound P Γ) (hE:fI P E.eq) (hK:ez P E.key) {f:FuncId} {fn:Func} (hf:P.funcs[f]? = some fn) {rid:Nat} {o:Oper} {rest:Code} (hb:fn.body=some (.seq (.region rid #[o] false) rest))
  {c:Call} (hop:o.op = .call c) (Vo:c.callee = .builtin .recover) (ajC:c.args = #[]) (hg:o.guard=none) {t:Nat} (aqS:o.dst=some t) (ht:Nat.blt t fn.ntmps=true) (hres:fn.results = #[])
  {ls:List Loop} {ps:List aL} (hw:IF lo ps=true) (hl:∀ G':Gh,G'.lo=lo->G'.lU->G'.Ok P->iW P fn.ntmps G' f Fence.wide 0 rest ls) :
  Ju P f (aiy fn.ntmps ps (aph P E Γ fn.ntmps rest ls lo ps t)):=by
 intro N G s a w ρ S F hG hG0 h ids us m u wh wM SM wQ
 unfold aiy at wQ
 split at wQ
 case h_2=>cases wQ
 rename_i x hlen hx
 have hlen:=Nat.le_of_ble_eq_true hlen
 rw [Option.map_eq_some_iff] at wQ
 obtain ⟨y,hy,rfl⟩:=wQ
 have hx:rd G.lo ⟨fun t=>(ids.map fun i=>Slot.v (.ptr i 0)).getD t .top,s.heap,s.tr,0,[]⟩ ps=some x:=by
  have wT:=hw
  simp only [IF,Bool.and_eq_true,Bool.not_eq_true'] at wT
  rw [hG0,<- hx]
  have:∀ qs:List aL,lS qs=false->rd 0 ⟨fun t=>(ids.map fun i=>Slot.v (.ptr i 0)).getD t .top,s.heap,s.tr,0,[]⟩ qs=rd 0 ⟨fun t=>(ids.map fun i=>Slot.v (.ptr i 0)).getD t .top,s.heap,.none,0,[]⟩ qs:=by
   intro qs
   induction qs with
   | nil=>intro _; rfl
   | cons q qs ih =>
    intro hq
    cases q with
    | tr e=>cases hq
    | _=>simp only [rd,ih hq]; rfl
  exact this ps wT.1.1.2
 have wT:=hw
 simp only [IF,Bool.and_eq_true,Bool.not_eq_true'] at hw
 obtain ⟨⟨⟨⟨⟨⟨w1,w2⟩,w3⟩,w4⟩,w5⟩,w6⟩,w7⟩:=hw
 have hul:us.length<=fn.ntmps:=by rw [<- wM.len]; omega
 have hv:SR P fn.ntmps G ⟨fun t=>(ids.map fun i=>Slot.v (.ptr i 0)).getD t .top,s.heap,s.tr,0,[]⟩ (lV fn.ntmps us) w ρ S F:=by
  refine ⟨ld hul,trivial,fun t=>?_,h.obj,h.inj,h.ext,h.new,h.same,h.tr,h.fb,h.f0,h.sub,h.fs,h.pins⟩
  rw [nH]
  exact wM.get t
 have h1:=qz hG hv (vr:=fun _=>0) (t:=s.tr) w1 rfl (.inr h.tr) hx
 have h2:SR P fn.ntmps (G.callee S w s.heap ρ lo ps x) (wr lo .none [] ps x) (lV fn.ntmps us) w (fo G.fu s.heap ρ) S (fun _=>False):=
  (h1.enter (lo:=lo) (l:=G.l) rfl).of_eq rfl rfl (gG w5) rfl
 have Cy:(G.callee S w s.heap ρ lo ps x).Ok P:=Al wT
 have sY:Env P E Γ (G.callee S w s.heap ρ lo ps x) Fence.wide:=⟨hm,hΓ,hE,hK,Cy,.wide,fun _=>rfl⟩
 -- the value of 'recover',and the frame's mode then
 have Cp:∃ v u',RC P G.Y S w (bG (aT (fun _=>0) ps x)) (fo G.fu s.heap ρ) m.dc v/\settle u' = .returning /\
   ∀ (c₀:Frame) (cs:List Frame),c₀.mode=u->(recoverD (c₀ :: cs)=some (v,{ c₀ with mode:=u' } :: cs))\/(recoverD (c₀ :: cs)=none/\v = .nilIface/\u'=c₀.mode):=by
  cases m with
  | ret =>
   have hu:u = .returning:=SM
   subst hu
   exact ⟨.nilIface,.returning,rfl,rfl,fun c₀ cs hc=>.inr ⟨by simp [recoverD,hc],rfl,hc.symm⟩⟩
  | cw T τ d =>
   obtain ⟨u0,rfl,hR⟩:=SM
   refine ⟨.iface T u0,.panicking [{ v:=.iface T u0,recovered:=true }],⟨u0,rfl,hR⟩,rfl,fun c₀ cs hc=>.inl ?_⟩
   simp [recoverD,hc]
 obtain ⟨v,u',hvr,EW,aqT⟩:=Cp
 refine Aq hf hb trivial fun c₀ cs hc=>ZL (II (wpSIn_region ?_))
 have hrun:∀ a:Act,(execOp a.eval o).run P w = .ok .recover w:=fun a=>by
  simp [execOp,hop,resolve,Vo,ajC,invoke]
  rfl
 have aqU:∀ a:Act,Region.wanted o (yielded #[o] a.tmps)=true:=fun a=>by simp [Region.wanted,hg]
 have lW:∀ cs',cs'={ c₀ with mode:=u' } :: cs->QV f Fence.wide 0 P rest (bodyPostS P fn c₀ cs fun e u' w'=>(∃ v,e = .returned v)/\settle u' = .returning/\∃ ρ' S',SR P N G { s with heap:=dm s.heap (aT (bL s.heap) (aj ps) y) } a w' ρ' S' F)
   ((lV fn.ntmps us).put o.dst v) cs' w:=by
  intro cs' hcs
  subst hcs
  refine Nz rfl ?_
  have aqV:=Tree.qB hy
  have h3:SR P fn.ntmps (G.callee S w s.heap ρ lo ps x) { wr lo .none [] ps x with env:=setEnv (wr lo .none [] ps x).env t (.v m.dc) } ((lV fn.ntmps us).put o.dst v) w (fo G.fu s.heap ρ) S (fun _=>False):=by
   have:=h2.put (dst:=o.dst) (sl:=.v m.dc) (v:=v) (by rw [aqS]; simpa using ht) hvr
   rw [aqS] at this ⊢
   exact this
  refine dG (dy (G:=G.callee S w s.heap ρ lo ps x) (K:=adh lo ps x) (ch:=Tree.any) (T:=fun t:Tree (Option (aa (aj ps)).den)=>t.kE (· = some y)) sY (fun a b q=>q)
   ⟨(fun q=>by cases (show none=some _ from q)),(fun s' q=>by cases (show none=some _ from q))⟩ aqV (hl _ rfl dH Cy) ⟨_,_,_,h3⟩) ?_
  rintro e a' w' ⟨o',ho,hT⟩
  have fin:∀ s',SX P fn.ntmps (G.callee S w s.heap ρ lo ps x) s' a' w'->(adh lo ps x (.ret s')).kE (· = some y)->bodyPostS P fn c₀ cs (fun e u' w'=>(∃ v,e = .returned v)/\settle u' = .returning/\∃ ρ' S',SR P N G { s with heap:=dm s.heap (aT (bL s.heap) (aj ps) y) } a w' ρ' S' F) .ret a' ({ c₀ with mode:=u' } :: cs) w':=by
   rintro s' ⟨ρ',S',F',q⟩ hT
   simp only [adh] at hT
   split at hT
   case h_2=>cases (show none=some _ from hT)
   rename_i y' hd hrd
   split at hT
   case h_2=>cases (show none=some _ from hT)
   rename_i hsm
   have hT:some y'=some y:=hT
   cases hT
   have qV:a'.defers=[]:=by
    have:=q.aS
    rw [hd] at this
    cases hx:a'.defers with
    | nil=>rfl
    | cons d ds=>rw [hx] at this; exact this.elim
   obtain ⟨us',r1,_⟩:=jH (fn:=fn) (τ:=.nil) (y:=()) q (by rw [hres]; rfl)
   obtain ⟨Fq,hb⟩:=Am hG h wT hv rfl hx q hd hrd hsm
   exact ⟨qV,u',rfl,_,r1,⟨_,rfl⟩,EW,Fq,S',hb⟩
  cases o' with
  | norm s'=>cases e <;> first | exact ho.elim | exact fin s' ho hT
  | ret s'=>cases e <;> first | exact ho.elim | exact fin s' ho hT
  | exit id s'=>cases (show none=some _ from hT)
  | bad=>cases (show none=some _ from hT)
  | cw d s'=>cases (show none=some _ from hT)
 show wpOpsSIn Fence.wide 0 P #[o] _ [0] (lV fn.ntmps us) _ _
 generalize hac:lV fn.ntmps us=ac at lW ⊢
 simp only [wpOpsSIn,List.getElem?_toArray,List.getElem?_cons_zero]
 refine ⟨fun _ _=>trivial,?_⟩
 rw [if_pos (aqU ac)]
 simp only [hrun]
 rcases aqT c₀ cs hc with q | ⟨q,hv',Pt⟩
 ·simp only [q]
  exact lW _ rfl
 ·simp only [q]
  rw [<- hv']
  refine lW _ ?_
  rw [Pt]
end Go.Dm
namespace Go.Dm
open Go.RowKit
variable {P:Program} {N N':Nat} {G:Gh} {S S' S2:CS} {w w' w2:World} {s s' s2:St} {a a2:Act} {ρ ρ' ρ2:fV} {F F' F2:Nat->Prop} {heap heap' H' H2:Nat->aN} {Y:Value} {E:cO} {Γ:Ctx} {Fw:Fence} {r:Nat} {ops:Array Oper} {lo lo' base:Nat} {aS:List gx} {vr Ma:Nat->Nat} {n:Nat} {fid:FuncId} {mps:List aL} {e:Ty}
abbrev vY:=FuncId->Option UP
def Ds (P:Program) (Δ:vY):Prop:=∀ f app,Δ f=some app->aE P f/\Ju P f app
def oa (Δ:vY):List gx->Md->St->Option St
 | [],.ret,s=>some { s with aS:=[] }
 | [],.cw _ _ _,_=>none
 | .mark :: r,m,s=>oa Δ r m s
 | .nE f ids :: r,m,s=>match Δ f with
  | some app=>match app ids m s.heap with
   | some wh=>oa Δ r .ret { s with heap:=dm s.heap wh }
   | none=>none
  | none=>none
theorem uE.mono {m:Md} {u:FrameMode} (h:uE P S w m u) (ex:Ext0 S w S' w'):uE P S' w' m u:=by
 cases m with
 | ret=>exact h
 | cw T τ d=>obtain ⟨u0,h1,h2⟩:=h; exact ⟨u0,h1,h2.mono ex⟩
theorem uE.ne {m:Md} {u:FrameMode} (h:uE P S w m u):u ≠ .run:=by
 cases m with
 | ret=>rw [show u=_ from h]; simp
 | cw T τ d=>obtain ⟨u0,h1,_⟩:=h; rw [h1]; simp
theorem xe (hG:G.Ok P) (hG0:G.lo=0) {Δ:vY} (hΔ:Ds P Δ) {fn:Func} {K:Ending->World->Prop}:∀ (r:List gx) {m:Md} {u:FrameMode} {s s':St} {a:Act} {w:World} {ρ:fV} {S:CS},s.aS=r->SR P N G s a w ρ S F->uE P S w m u->oa Δ r m s=some s' ->
  (∀ w' ρ' S',SR P N G s' { a with defers:=[] } w' ρ' S' F->LeavesInM Fence.wide 0 P fn a.tmps K [] .returning w')->LeavesInM Fence.wide 0 P fn a.tmps K a.defers u w
 | [],m,u,s,s',a,w,ρ,S,hr,h,hm,hl,hK=>by
  have hd:=h.aS
  rw [hr] at hd
  cases qV:a.defers with
  | cons d ds=>rw [qV] at hd; exact hd.elim
  | nil =>
   cases m with
   | cw T τ d=>cases hl
   | ret =>
    cases hl
    rw [show u = .returning from hm]
    refine hK w ρ S ?_
    have:({ a with defers:=[] }:Act)=a:=by cases a; simp only at qV; subst qV; rfl
    rw [this]
    exact h.of_eq rfl rfl rfl hr.symm
 | .mark :: r,m,u,s,s',a,w,ρ,S,hr,h,hm,hl,hK=>by
  have hd:=h.aS
  rw [hr] at hd
  cases qV:a.defers with
  | nil=>rw [qV] at hd; exact hd.elim
  | cons d ds =>
   rw [qV] at hd
   obtain ⟨⟨D,rfl,h2,h3,h4,h5⟩,lW⟩:=hd
   have ht:=h.take hG h2 h3 h4 (lW.put h5)
   refine ⟨hm.ne,.inl ⟨D,_,rfl,run_takeDeferred h4,?_⟩⟩
   have hlt:=(Array.getElem?_eq_some_iff.1 h4).1
   have hsz:(w.putObj D (.deferred none)).heap.size=w.heap.size:=by simp [World.putObj]
   have ex:Ext0 S w S (w.putObj D (.deferred none)):=by
    refine ⟨by omega,fun _ _ q=>q,fun b o _=>?_,fun b o es c _ q=>(World.putObj_heap_other fun e=>by rw [e,h4] at q; cases q).trans q,fun b o q=>by rw [hsz]; exact h.bd b o q,.putObj hlt (fun _ _ _=>by simp)⟩
    by_cases hb:b=D
    ·subst hb
     have h2:(w.putObj b (.deferred none)).heap[b]? = some (.deferred none):=World.putObj_heap_same hlt
     simp [World.cell?,h2,h4]
    ·exact World.cell?_of_block (a:=⟨b,o,none⟩) (World.putObj_heap_other hb)
   have hdi:∀ (r:List gx) (m:Md) (s:St) (d:List gx),oa Δ r m { s with aS:=d }=oa Δ r m s:=by
    intro r
    induction r with
    | nil=>intro m s d; cases m <;> rfl
    | cons x r ih =>
     intro m s d
     cases x with
     | mark=>exact ih m s d
     | nE f ids =>
      simp only [oa]
      cases Δ f with
      | none=>rfl
      | some app =>
       simp only
       cases app ids m s.heap with
       | none=>rfl
       | some wh=>exact ih .ret { s with heap:=dm s.heap wh } d
   exact xe hG hG0 hΔ r (s:={ s with aS:=r }) (a:={ a with defers:=ds }) rfl ht (hm.mono ex) ((hdi r m s r).trans hl) hK
 | .nE f ids :: r,m,u,s,s',a,w,ρ,S,hr,h,hm,hl,hK=>by
  have hd:=h.aS
  rw [hr] at hd
  cases qV:a.defers with
  | nil=>rw [qV] at hd; exact hd.elim
  | cons d ds =>
   rw [qV] at hd
   obtain ⟨⟨us,rfl,wM⟩,lW⟩:=hd
   simp only [oa] at hl
   split at hl
   case h_2=>cases hl
   rename_i app wQ
   split at hl
   case h_2=>cases hl
   rename_i wh hwh
   obtain ⟨jK,hdh⟩:=hΔ f app wQ
   have hinv:(invoke (.fn (.func f) us.toArray) #[]).run P w = .ok (.enter f us.toArray) w:=by
    have:=jK us.toArray w
    simpa [invoke] using this
   refine ⟨hm.ne,.inr ⟨fun q=>(by cases q),.func f,us.toArray,f,us.toArray,rfl,hinv,fun _ _=>trivial,?_⟩⟩
   refine (hdh N G s a w ρ S F hG hG0 h ids us m u wh wM hm hwh).mono ?_
   rintro en u' w1 ⟨⟨v,rfl⟩,EW,ρ1,S1,h1⟩
   show LeavesInM Fence.wide 0 P fn a.tmps K ds (settle u') w1
   have hd1:=h1.aS
   have hd1:eV G.w0.heap.size w1 (dm s.heap wh) ρ1 F s.aS a.defers:=hd1
   rw [hr,qV] at hd1
   have h2:SR P N G { s with heap:=dm s.heap wh,aS:=r } { a with defers:=ds } w1 ρ1 S1 F:=
    ⟨h1.size,hd1.2,h1.env,h1.obj,h1.inj,h1.ext,h1.new,h1.same,h1.tr,h1.fb,h1.f0,h1.sub,h1.fs,h1.pins⟩
   have hdi:∀ (r:List gx) (m:Md) (s:St) (d:List gx),oa Δ r m { s with aS:=d }=oa Δ r m s:=by
    intro r
    induction r with
    | nil=>intro m s d; cases m <;> rfl
    | cons x r ih =>
     intro m s d
     cases x with
     | mark=>exact ih m s d
     | nE f ids =>
      simp only [oa]
      cases Δ f with
      | none=>rfl
      | some app =>
       simp only
       cases app ids m s.heap with
       | none=>rfl
       | some wh=>exact ih .ret { s with heap:=dm s.heap wh } d
   exact xe hG hG0 hΔ r (m:=.ret) (s:={ s with heap:=dm s.heap wh,aS:=r }) (a:={ a with defers:=ds }) rfl h2 EW ((hdi r .ret { s with heap:=dm s.heap wh } r).trans hl) hK
def adi (P:Program) (Δ:vY) (fn:Func) (τ:Ty) (m:Md) (s:St):Option τ.den:=
 match oa Δ s.aS m s with
 | some s'=>jT P fn.results.toList τ (mK fn s')
 | none=>none
def SN (P:Program) (Δ:vY) (fn:Func) (τ:Ty):Out->Tree (Option τ.den)
 | .ret s | .norm s=>.leaf (adi P Δ fn τ .ret s)
 | .cw (.Cm T σ d) s=>.leaf (adi P Δ fn τ (.cw T σ d) s)
 | _=>.leaf none
def yJ (P:Program) (E:cO) (Γ:Ctx) (Δ:vY) (fn:Func) (ls:List Loop) (τa τr:Ty) (x:τa.den):Tree (Option τr.den):=
 match fn.body with
 | some c=>gF P E Γ 0 fn.ntmps .any c ls (Fo τa x) (SN P Δ fn τr)
 | none=>.leaf none
theorem IJ (hm:P.follows .mixedOrders=true) (hΓ:Sound P Γ) {Δ:vY} (hΔ:Ds P Δ) (hE:fI P E.eq) (hK:ez P E.key) {f:FuncId} {fn:Func} {c:Code} (hf:P.funcs[f]? = some fn) (hb:fn.body=some c) {ls:List Loop}
  (hl:∀ S w,iW P fn.ntmps (Gh.start S w) f Fence.wide 0 c ls)
  (oW:ee) (hn:oW.args.cells<=fn.ntmps) (h:∀ x,oW.pre x=true->(yJ P E Γ Δ fn ls oW.args oW.res x).kE (· = some (oW.fn x))):Holds P f oW:=by
 intro S w hbd x vs hp hr
 have hx:=h x hp
 unfold yJ at hx
 rw [hb] at hx
 refine (callsIn_wide (n:=0)).1 (fN hf hb trivial ?_)
 have hi:=SH (N:=fn.ntmps) hbd hr (by rw [hr.len]; exact hn)
 have sY:Env P E Γ (Gh.start S w) Fence.wide:=⟨hm,hΓ,hE,hK,jS,.wide,fun _=>rfl⟩
 refine dG (dy (G:=Gh.start S w) (K:=SN P Δ fn oW.res) (ch:=Tree.any) (T:=fun t:Tree (Option oW.res.den)=>t.kE (· = some (oW.fn x))) sY (fun a b q=>q) ⟨(fun q=>by cases (show none=some _ from q)),(fun s' q=>by cases (show none=some _ from q))⟩ hx (hl S w) ⟨_,_,_,hi⟩) ?_
 rintro e a' w' ⟨o,ho,hT⟩
 have fin:∀ (s:St) (m:Md) (u:FrameMode) (ρ:fV) (S':CS) (F:Nat->Prop),SR P fn.ntmps (Gh.start S w) s a' w' ρ S' F->uE P S' w' m u->adi P Δ fn oW.res m s=some (oW.fn x) ->
   LeavesInM Fence.wide 0 P fn a'.tmps (fun e w'=>∃ S' rs,e = .returned (pack rs)/\R P oW.res S' w' (oW.fn x) rs/\Ext S w S' w'/\Below w.heap.size w w') a'.defers u w':=by
  intro s m u ρ S' F hs SM Nu
  unfold adi at Nu
  split at Nu
  case h_2=>cases Nu
  rename_i s1 hl1
  refine xe jS rfl hΔ _ rfl hs SM hl1 fun w'' ρ' MJ q1=>?_
  obtain ⟨ρ2,S2,F2,q2⟩:=SX.er jS (rP fn.results.toList) ⟨ρ',MJ,F,q1⟩
  obtain ⟨us,r1,r2⟩:=jH (fn:=fn) (τ:=oW.res) (y:=oW.fn x) q2 Nu
  obtain ⟨e1,e2⟩:=q2.Nt (M:=fun _=>False)
  exact ⟨_,r1,S2,us,rfl,r2,e1,e2⟩
 cases o with
 | norm s=>cases e <;> first | exact ho.elim | exact (let ⟨ρ,S',F,q⟩:=ho; fin s .ret .returning ρ S' F q rfl hT)
 | ret s=>cases e <;> first | exact ho.elim | exact (let ⟨ρ,S',F,q⟩:=ho; fin s .ret .returning ρ S' F q rfl hT)
 | exit id s=>cases (show none=some _ from hT)
 | bad=>cases (show none=some _ from hT)
 | cw d s =>
  cases e <;> try exact ho.elim
  cases d with
  | Cm T τ d =>
   obtain ⟨u,ρ,S',F,hch,q,u0,hu,hR⟩:=ho
   subst hch hu
   exact fin s (.cw T τ d) _ ρ S' F q ⟨u0,rfl,hR⟩ hT
  | _=>cases (show none=some _ from hT)
end Go.Dm
namespace Go.Dm
open Go.RowKit
variable {P:Program} {N N':Nat} {G:Gh} {S S' S2:CS} {w w' w2:World} {s s' s2:St} {a a2:Act} {ρ ρ' ρ2:fV} {F F' F2:Nat->Prop} {heap heap' H' H2:Nat->aN} {Y:Value} {E:cO} {Γ:Ctx} {Fw:Fence} {r:Nat} {ops:Array Oper} {lo lo' base:Nat} {aS:List gx} {vr Ma:Nat->Nat} {n:Nat} {fid:FuncId} {mps:List aL} {e:Ty}
structure FR where
 T:TypeId
 e:Ty
 s:Sl e.den
theorem ZM {τ:Ty} {x:τ.den} {vs:List Value} {l:Nat} (hb:Bd S w) (hr:R P τ S w x vs) (hn:vs.length<=N) :
  SR P N (Gh.inner (fun _=>False) S w l 0 fun _=>none) (Fo τ x) (lV N vs) w (fun _=>none) S (fun _=>False):=by
 refine ⟨ld hn,trivial,fun t=>?_,fun id=>trivial,fun i j b hi=>hi.elim,.refl hb,fun _ _ q=>.inl q,.refl _ _,dH _ _ _,fun _ q=>q.elim,fun _ _ q=>q,fun _ q=>q,fun _ _ _ _=>trivial,fun _ _ q=>by cases q⟩
 rw [nH]
 exact jG hr t
end Go.Dm
namespace Go.Dm
open Go.RowKit
variable {P:Program} {N:Nat} {G:Gh} {Fw:Fence} {r:Nat} {fid:FuncId}
theorem fC:∀ {c:Code},iW P N G fid Fw r c []
 | .seq a b=>⟨by simpa using fC (c:=a),by simpa using fC (c:=b)⟩
 | .cond _ a b=>⟨by simpa using fC (c:=a),by simpa using fC (c:=b)⟩
 | .block _ b=>fC (c:=b)
 | .scope b=>fC (c:=b)
 | .loop b=>trivial
 | .rangeFunc _ _ _ _=>trivial
 | .skip=>trivial
 | .region _ _ _=>trivial
 | .exit _=>trivial
 | .ret=>trivial
 | .label _=>trivial
 | .goto _=>trivial
 | .refuse _=>trivial
end Go.Dm
namespace Go.Dm
open Go.RowKit
variable {P:Program} {N:Nat} {G:Gh} {S S':CS} {w w':World} {s:St} {a:Act} {ρ ρ':fV} {F F':Nat->Prop} {E:cO} {Γ:Ctx} {Fw:Fence} {r:Nat} {aS:List gx} {fid:FuncId}
@[reducible] def dB (wy:aO) (id:Nat):List aL:=(rO wy.bw id).getD []
inductive LQ (wy:aO) where
 | exit (id:Nat) (y:(aa (dB wy id)).den)
 | ret (y:(aa wy.ret).den)
 | cw (T:TypeId) (τ:Ty) (x:τ.den) (y:(aa wy.cw).den)
 | bad
inductive RQ (ps:List aL) (wy:aO) where
 | next (x:(aa ps).den)
 | out (q:LQ wy)
 | bad
namespace LQ
variable {wy:aO}
def eH (q:LQ wy) (id:Nat):Bool:=match q with
 | .exit id' _=>Nat.beq id' id
 | _=>false
def dY (q:LQ wy) (id:Nat):(aa (dB wy id)).den:=match q with
 | .exit id' y=>match Nat.decEq id' id with
  | isTrue h=>h ▸ y
  | isFalse _=>(aa (dB wy id)).dflt
 | _=>(aa (dB wy id)).dflt
def uF (q:LQ wy):Bool:=match q with
 | .ret _=>true
 | _=>false
def ZN (q:LQ wy):(aa wy.ret).den:=match q with
 | .ret y=>y
 | _=>(aa wy.ret).dflt
def mL (q:LQ wy) (T:TypeId) (τ:Ty):Bool:=match q with
 | .cw T' τ' _ _=>Nat.beq T' T && decide (τ'=τ)
 | _=>false
def pR (q:LQ wy) (τ:Ty):τ.den:=match q with
 | .cw _ τ' x _=>(cZ τ x).getD τ.dflt
 | _=>τ.dflt
def KZ (q:LQ wy):(aa wy.cw).den:=match q with
 | .cw _ _ _ y=>y
 | _=>(aa wy.cw).dflt
@[simp] theorem NA (id id':Nat) (y):(exit (wy:=wy) id y).eH id'=Nat.beq id id':=rfl
@[simp] theorem rT (id:Nat) (y):(exit (wy:=wy) id y).dY id=y:=by
 simp only [dY]
 cases Nat.decEq id id with
 | isTrue h=>rfl
 | isFalse h=>exact absurd rfl h
end LQ
def ng:List aL->List Nat
 | []=>[]
 | .slot t (.pc (.sl _)) :: ps=>t :: ng ps
 | .slot t (.pc (.map _ _)) :: ps=>t :: ng ps
 | _ :: ps=>ng ps
def rdQ (lo:Nat) (aS:List gx) (ps:List aL) (wy:aO):Out->RQ ps wy
 | .norm s=>match nZ s.aS aS,rd lo (er s (ng ps)) ps with
  | true,some x=>.next x
  | _,_=>.bad
 | .exit id s=>match nZ s.aS aS,(rO wy.bw id).isSome,rd lo (er s (ng (dB wy id))) (dB wy id) with
  | true,true,some y=>.out (.exit id y)
  | _,_,_=>.bad
 | .ret s=>match nZ s.aS aS,rd lo (er s (ng wy.ret)) wy.ret with
  | true,some y=>.out (.ret y)
  | _,_=>.bad
 | .cw (.Cm T τ x) s=>match nZ s.aS aS,rd lo s wy.cw with
  | true,some y=>.out (.cw T τ x y)
  | _,_=>.bad
 | _=>.bad
def bF (lo:Nat) (aS:List gx) (ps:List aL) (f:(aa ps).den->Tree LO) (s:St):Tree Out:=Dd lo aS ps f (er s (ng ps))
def bu {ps:List aL} {wy:aO}:Tree (RQ ps wy)->RQ ps wy
 | .leaf r=>r
 | .br b l r=>bif b then bu l else bu r
 | .any _ _=>.bad
def aU (P:Program) (E:cO) (Γ:Ctx) (lo N:Nat) (aS:List gx) (ps:List aL) (wy:aO) (body:Code) (ls:List Loop) (x:(aa ps).den):Tree (RQ ps wy):=
 gF P E Γ lo N .any body ls (wr lo .none aS ps x) fun o=>.leaf (rdQ lo aS ps wy o)
def aH {ps:List aL} {wy:aO} (step:(aa ps).den->RQ ps wy):Nat->(aa ps).den->LQ wy
 | 0,_=>.bad
 | n + 1,x=>match step x with
  | .next x'=>aH step n x'
  | .out q=>q
  | .bad=>.bad
def cz:Nat:=4722366482869645213696
def LQ.out {wy:aO} (lo:Nat) (aS:List gx):LQ wy->Out
 | .exit id y=>.exit id (wr lo .none aS (dB wy id) y)
 | .ret y=>.ret (wr lo .none aS wy.ret y)
 | .cw T τ x y=>.cw (.Cm T τ x) (wr lo .none aS wy.cw y)
 | .bad=>.bad
theorem VF (hE:Env P E Γ G Fw) {tr:Bool} (ht:tr=true\/G.lU) {ps:List aL} {wy:aO} {body:Code} {ls:List Loop} (hls:iW P N G fid Fw r body ls)
  (hps:WU aS tr ps=true) (hwy:wy.wf aS tr=true) {step:(aa ps).den->RQ ps wy} (hstep:∀ x,bu (aU P E Γ G.lo N aS ps wy body ls x)=step x) (n:Nat) {f:(aa ps).den->Tree LO}
  (hf:∀ x,(∀ o,((f x).map (LO.out G.lo aS)).Has o->o ≠ .bad)->aH step n x ≠ .bad/\((f x).map (LO.out G.lo aS)).Has ((aH step n x).out G.lo aS)) :
  gX P N G fid Fw r (.loop body) (bF G.lo aS ps f):=by
 intro s a w h cC
 replace h:=SX.er hE.gh (ng ps) h
 unfold bF Dd at cC ⊢
 split at cC
 case h_2=>exact (cC .bad rfl).elim
 rename_i hd
 try simp only [hd]
 split at cC
 case h_2=>exact (cC .bad rfl).elim
 rename_i x hx
 try simp only [hx]
 obtain ⟨hq,ajE⟩:=hf x fun o ho e=>by subst e; exact cC _ ho
 have h0:=uC hE.gh h ht hps (dU hd) hx
 have key:∀ (n:Nat) (x:(aa ps).den) (a:Act) (w:World),aH step n x ≠ .bad->SX P N G (wr G.lo .none aS ps x) a w ->
   mZ fid Fw r P body (fun e a' w'=>qx P N G ((aH step n x).out G.lo aS) e a' w') n a w:=by
  intro n
  induction n with
  | zero=>intro x a w hn; exact absurd rfl hn
  | succ n ih =>
   intro x a w hn hs
   unfold mZ
   have hne:step x ≠ .bad:=fun e=>by simp only [aH,e] at hn; exact hn rfl
   refine dG (dy (T:=fun t:Tree (RQ ps wy)=>bu t=step x) (ch:=Tree.any) (K:=fun o=>.leaf (rdQ G.lo aS ps wy o)) hE (fun a b q=>absurd q.symm hne) ⟨fun q=>absurd q.symm hne,fun s' q=>absurd q.symm hne⟩ (hstep x) hls hs) ?_
   rintro e a' w' ⟨o,ho,lR⟩
   have lR:rdQ G.lo aS ps wy o=step x:=lR
   simp only [aO.wf,Bool.and_eq_true] at hwy
   obtain ⟨⟨w1,w2⟩,w3⟩:=hwy
   cases o with
   | bad=>exact absurd lR.symm hne
   | cw d s' =>
    cases d with
    | Cm T τ v =>
     cases e <;> try exact ho.elim
     simp only [rdQ] at lR
     split at lR
     case h_2=>exact absurd lR.symm hne
     rename_i y hd hy
     have e1:aH step (n + 1) x = .cw T τ v y:=by simp only [aH,<- lR]
     rw [e1]
     obtain ⟨u,ρ,S,F,h1,h2,h3⟩:=ho
     simp only [WU,Bool.and_eq_true,Bool.or_eq_true,Bool.not_eq_true'] at w3
     obtain ⟨⟨q1,q2⟩,q3⟩:=w3
     have hd:=dU hd
     subst hd
     refine ⟨u,_,S,F,h1,qz hE.gh h2 q1 q2 ?_ hy,h3⟩
     rcases ht with rfl | ht
     ·exact .inl (q3.resolve_left (by simp))
     ·exact .inr (ht F S w')
    | _=>exact absurd lR.symm hne
   | norm s' =>
    cases e <;> try exact ho.elim
    simp only [rdQ] at lR
    split at lR
    case h_2=>exact absurd lR.symm hne
    rename_i x' hd hx'
    have e1:aH step (n + 1) x=aH step n x':=by simp only [aH,<- lR]
    rw [e1] at hn ⊢
    exact ih x' a' w' hn (uC hE.gh (SX.er hE.gh (ng ps) ho) ht hps ((iB _ _).trans (dU hd)) hx')
   | exit id s' =>
    cases e <;> try exact ho.elim
    obtain ⟨rfl,ho⟩:=ho
    simp only [rdQ] at lR
    split at lR
    case h_2=>exact absurd lR.symm hne
    rename_i y hd hid hy
    have e1:aH step (n + 1) x = .exit id y:=by simp only [aH,<- lR]
    rw [e1]
    have hmem:(id,dB wy id)∈wy.bw:=by
     cases hl:rO wy.bw id with
     | none=>rw [hl] at hid; cases hid
     | some p=>have:=uB hl; rwa [show dB wy id=p by simp [dB,hl]]
    have:=List.all_eq_true.1 w1 _ hmem
    exact ⟨rfl,uC hE.gh (SX.er hE.gh _ ho) ht this ((iB _ _).trans (dU hd)) hy⟩
   | ret s' =>
    cases e <;> try exact ho.elim
    simp only [rdQ] at lR
    split at lR
    case h_2=>exact absurd lR.symm hne
    rename_i y hd hy
    have e1:aH step (n + 1) x = .ret y:=by simp only [aH,<- lR]
    rw [e1]
    exact uC hE.gh (SX.er hE.gh _ ho) ht w2 ((iB _ _).trans (dU hd)) hy
 exact dG (mB n (key n x a w hq h0)) fun e a' w' ho=>⟨_,ajE,ho⟩
def af:Code->List Code
 | .seq a b=>af a ++ af b
 | .cond _ a b=>af a ++ af b
 | .block _ b=>af b
 | .scope b=>af b
 | .loop b=>[.loop b]
 | .rangeFunc g ps as b=>[.rangeFunc g ps as b]
 | _=>[]
theorem ga:∀ c:Code,(af c).length=Code.loops c
 | .seq a b=>by simp [af,Code.loops,ga a,ga b]
 | .cond _ a b=>by simp [af,Code.loops,ga a,ga b]
 | .block _ b=>ga b
 | .scope b=>ga b
 | .loop b=>rfl
 | .rangeFunc g ps as b=>rfl
 | .skip=>rfl
 | .region _ _ _=>rfl
 | .exit _=>rfl
 | .ret=>rfl
 | .label _=>rfl
 | .goto _=>rfl
 | .refuse _=>rfl
inductive Kn (P:Program) (N:Nat) (G:Gh) (fid:FuncId) (Fw:Fence) (r:Nat):List Code->List Loop->Prop
 | nil:Kn P N G fid Fw r [] []
 | cons {c:Code} {f:St->Tree Out} {cs:List Code} {ls:List Loop} (h:gX P N G fid Fw r c f) (t:Kn P N G fid Fw r cs ls):Kn P N G fid Fw r (c :: cs) (.known f :: ls)
 | unr {b:Code} {n:Nat} {inner:List Loop} {cs:List Code} {ls:List Loop} (h:iW P N G fid Fw r b inner) (t:Kn P N G fid Fw r cs ls):Kn P N G fid Fw r (.loop b :: cs) (.gW n inner :: ls)
theorem Kn.split:∀ {as bs:List Code} {ls:List Loop},Kn P N G fid Fw r (as ++ bs) ls->Kn P N G fid Fw r as (ls.take as.length)/\Kn P N G fid Fw r bs (ls.drop as.length)
 | [],_,_,h=>⟨by simpa using Kn.nil,by simpa using h⟩
 | a :: as,bs,ls,h=>by
  cases h with
  | cons h1 t =>
   obtain ⟨q1,q2⟩:=Kn.split t
   exact ⟨.cons h1 q1,q2⟩
  | unr h1 t =>
   obtain ⟨q1,q2⟩:=Kn.split t
   exact ⟨.unr h1 q1,q2⟩
theorem ai:∀ {c:Code} {ls:List Loop},Kn P N G fid Fw r (af c) ls->iW P N G fid Fw r c ls
 | .seq a b,ls,h=>by
  obtain ⟨h1,h2⟩:=Kn.split h
  rw [ga] at h1 h2
  exact ⟨ai h1,ai h2⟩
 | .cond _ a b,ls,h=>by
  obtain ⟨h1,h2⟩:=Kn.split h
  rw [ga] at h1 h2
  exact ⟨ai h1,ai h2⟩
 | .block _ b,ls,h=>ai (c:=b) h
 | .scope b,ls,h=>ai (c:=b) h
 | .loop b,ls,h=>by cases h with
  | cons h1 _=>exact h1
  | unr h1 _=>exact h1
 | .rangeFunc g ps as b,ls,h=>by cases h with | cons h1 _=>exact h1
 | .skip,_,_=>trivial
 | .region _ _ _,_,_=>trivial
 | .exit _,_,_=>trivial
 | .ret,_,_=>trivial
 | .label _,_,_=>trivial
 | .goto _,_,_=>trivial
 | .refuse _,_,_=>trivial
def aG:Option Code->Code
 | some (.loop b)=>b
 | _=>.skip
theorem az {f:FuncId} {fn:Func} (h:P.funcs[f]? = some fn) (hn:(fn.name == "runtime.NumGoroutine")=false) (hb:fn.body.isNone=false):aE P f:=by
 intro args w
 have hn':fn.name ≠ "runtime.NumGoroutine" := fun e=>by rw [e] at hn; simp at hn
 have hb':fn.body≠none:=fun e=>by rw [e] at hb; cases hb
 simp [callFunc,h,hn',hb']
theorem cM {ps:List aL} {wy:aO} (b:Bool) (l r:Tree (RQ ps wy)):bu (bif b then l else r)=bif b then bu l else bu r:=by cases b <;> rfl
theorem bM {α:Type} (b:Bool) (l r:Tree (Option α)):(bif b then l else r).sure=bif b then l.sure else r.sure:=by cases b <;> rfl
def W (n:Int):Int:=IntKind.i64.wrap n
def mn (a b:Int):Int:=if b < a then b else a
def mx (a b:Int):Int:=if b > a then b else a
end Go.Dm
namespace Go.Dm
open Go.RowKit
variable {P:Program} {N:Nat} {G:Gh} {S S':CS} {w w':World} {s:St} {a:Act} {ρ ρ':fV} {F F':Nat->Prop} {E:cO} {Γ:Ctx} {Fw:Fence} {r:Nat} {aS:List gx} {fid:FuncId} {lo lo':Nat} {mps:List aL} {e:Ty}
def Tree.iZ {α:Type} (bad:α):Tree α->α
 | .leaf r=>r
 | .br b l r=>bif b then l.iZ bad else r.iZ bad
 | .any _ _=>bad
theorem kC {α:Type} (bad:α) (b:Bool) (l r:Tree α):(bif b then l else r).iZ bad=bif b then l.iZ bad else r.iZ bad:=by cases b <;> rfl
theorem Tree.yK {α:Type} {bad:α}:∀ {t:Tree α},t.iZ bad≠bad->∀ o,t.Has o->o=t.iZ bad
 | .leaf _,_,_,h=>h
 | .br b l r,h,o,ho=>by
  cases b with
  | true=>exact Tree.yK (t:=l) h o (by simpa [Tree.Has] using ho)
  | false=>exact Tree.yK (t:=r) h o (by simpa [Tree.Has] using ho)
 | .any _ _,h,_,_=>absurd rfl h
theorem gX.mono {c:Code} {f f':St->Tree Out} (h:gX P N G fid Fw r c f') (hf:∀ s,(∀ o,(f s).Has o->o.Qk G)->∀ o,(f' s).Has o->(f s).Has o):gX P N G fid Fw r c f:=by
 intro s a w hs cC
 exact dG (h s a w hs fun o ho=>cC o (hf s cC o ho)) fun e a' w' ⟨o,h1,h2⟩=>⟨o,hf s cC o h1,h2⟩
namespace RO
def La (o:RO mps):Bool:=match o with
 | .next _=>true
 | _=>false
def SQ (o:RO mps) (id:Nat):Bool:=match o with
 | .brk id' _=>Nat.beq id' id
 | _=>false
def uF (o:RO mps):Bool:=match o with
 | .ret _=>true
 | _=>false
def mL (o:RO mps) (T:TypeId) (τ:Ty):Bool:=match o with
 | .cw T' τ' _ _=>Nat.beq T' T && decide (τ'=τ)
 | _=>false
def NB (o:RO mps):(aa mps).den:=match o with
 | .next x=>x
 | .brk _ x=>x
 | .ret x=>x
 | .cw _ _ _ x=>x
 | .bad=>(aa mps).dflt
def pR (o:RO mps) (τ:Ty):τ.den:=match o with
 | .cw _ τ' d _=>(cZ τ d).getD τ.dflt
 | _=>τ.dflt
end RO
def yL (o:RO mps):List (TypeId×Ty)->Tree (RO mps)
 | []=>.leaf .bad
 | (T,τ) :: l=>.br (o.mL T τ) (.leaf (.cw T τ (o.pR τ) o.NB)) (yL o l)
def vp (o:RO mps) (lY:List (TypeId×Ty)):List Nat->Tree (RO mps)
 | []=>.br o.La (.leaf (.next o.NB)) (.br o.uF (.leaf (.ret o.NB)) (yL o lY))
 | id :: l=>.br (o.SQ id) (.leaf (.brk id o.NB)) (vp o lY l)
theorem pE {τ:Ty} (x:τ.den):cZ τ x=some x:=by simp [cZ]
theorem Fx {o:RO mps} {β:Type} {K:RO mps->β}:∀ {l:List (TypeId×Ty)},(∀ q,((yL o l).map K).Has q->q≠K .bad)->(o ≠ .bad)/\((yL o l).map K).Has (K o)
 | [],h=>absurd rfl (h _ rfl)
 | (T,τ) :: l,h=>by
  simp only [yL,Tree.map] at h ⊢
  cases hb:o.mL T τ with
  | true =>
   cases o with
   | cw T' τ' d x =>
    simp only [RO.mL,Bool.and_eq_true,decide_eq_true_eq] at hb
    obtain ⟨h1,h2⟩:=hb
    cases Nat.eq_of_beq_eq_true h1
    subst h2
    refine ⟨by simp,?_⟩
    show K _=K _
    simp [RO.pR,RO.NB,pE]
   | _=>cases hb
  | false =>
   rw [hb] at h
   have:=Fx (l:=l) (fun q hq=>h q (by simpa [Tree.Has] using hq))
   exact ⟨this.1,by simpa [Tree.Has] using this.2⟩
theorem Fy {o:RO mps} {lY:List (TypeId×Ty)} {β:Type} {K:RO mps->β}:∀ {l:List Nat},(∀ q,((vp o lY l).map K).Has q->q≠K .bad)->(o ≠ .bad)/\((vp o lY l).map K).Has (K o)
 | [],h=>by
  simp only [vp,Tree.map] at h ⊢
  cases hb:o.La with
  | true =>
   cases o with
   | next x=>exact ⟨by simp,rfl⟩
   | _=>cases hb
  | false =>
   rw [hb] at h
   cases hb':o.uF with
   | true =>
    cases o with
    | ret x=>exact ⟨by simp,rfl⟩
    | _=>cases hb'
   | false =>
    rw [hb'] at h
    have:=Fx (o:=o) (l:=lY) (fun q hq=>h q (by simpa [Tree.Has] using hq))
    exact ⟨this.1,by simpa [Tree.Has] using this.2⟩
 | id :: l,h=>by
  simp only [vp,Tree.map] at h ⊢
  cases hb:o.SQ id with
  | true =>
   cases o with
   | brk id' x =>
    cases Nat.eq_of_beq_eq_true (show Nat.beq id' id=true from hb)
    exact ⟨by simp,rfl⟩
   | _=>cases hb
  | false =>
   rw [hb] at h
   have:=Fy (l:=l) (fun q hq=>h q (by simpa [Tree.Has] using hq))
   exact ⟨this.1,by simpa [Tree.Has] using this.2⟩
def eW {I:Type} (step:(aa mps).den->I->RO mps):(aa mps).den->List I->RO mps
 | x,[]=>.next x
 | x,i :: r=>match step x i with
  | .next x'=>eW step x' r
  | o=>o
theorem Bt {I:Type} {stepT:(aa mps).den->I->Tree (RO mps)} {step:(aa mps).den->I->RO mps} (hs:∀ x i,(stepT x i).iZ .bad=step x i):∀ (l:List I) (x:(aa mps).den),eW step x l ≠ .bad->∀ o,(pQ stepT x l).Has o->o=eW step x l
 | [],x,_,o,ho=>ho
 | i :: l,x,hn,o,ho=>by
  simp only [pQ] at ho
  obtain ⟨o1,h1,h2⟩:∃ o1,(stepT x i).Has o1/\(match o1 with
   | .next x'=>pQ stepT x' l
   | .brk id x'=>.leaf (.brk id x')
   | .ret x'=>.leaf (.ret x')
   | .cw T τ d x'=>.leaf (.cw T τ d x')
   | .bad=>.leaf .bad:Tree (RO mps)).Has o:=by
   have:∀ (t:Tree (RO mps)) (K:RO mps->Tree (RO mps)),(t.run Tree.any K).Has o->∃ o1,t.Has o1/\(K o1).Has o:=by
    intro t K
    induction t with
    | leaf a=>exact fun h=>⟨a,rfl,h⟩
    | br b l r ihl ihr =>
     intro h
     cases b with
     | true=>obtain ⟨o1,q1,q2⟩:=ihl h; exact ⟨o1,by simpa [Tree.Has] using q1,q2⟩
     | false=>obtain ⟨o1,q1,q2⟩:=ihr h; exact ⟨o1,by simpa [Tree.Has] using q1,q2⟩
    | any l r ihl ihr =>
     intro h
     rcases h with h | h
     ·obtain ⟨o1,q1,q2⟩:=ihl h; exact ⟨o1,.inl q1,q2⟩
     ·obtain ⟨o1,q1,q2⟩:=ihr h; exact ⟨o1,.inr q1,q2⟩
   exact this _ _ ho
  have hne:step x i ≠ .bad:=fun e=>hn (by simp only [eW,e])
  have e1:=Tree.yK (bad:=.bad) (by rw [hs]; exact hne) o1 h1
  rw [hs] at e1
  subst e1
  cases hst:step x i with
  | next x' =>
   rw [hst] at h2
   have e2:eW step x (i :: l)=eW step x' l:=by simp only [eW,hst]
   rw [e2] at hn ⊢
   exact Bt hs l x' hn o h2
  | brk id x'=>rw [hst] at h2; simp only [eW,hst]; exact h2
  | ret x'=>rw [hst] at h2; simp only [eW,hst]; exact h2
  | cw T τ d x'=>rw [hst] at h2; simp only [eW,hst]; exact h2
  | bad=>exact absurd hst hne
def tT (lo:Nat) (aS:List gx) (t:Nat) (e:Ty) (mps:List aL) (ids:List Nat) (lY:List (TypeId×Ty)) (L:(aa mps).den->List e.den->RO mps) (s:St):Tree Out:=
 match nZ s.aS aS,s.env t,rd lo s mps with
 | true,.v (.pc (.seq e') ZB),some x=>match cZ (σ:=.seq e') (.seq e) ZB with
  | some ZB=>(vp (L x (show Sl e.den from ZB).list) lY ids).map (RO.out lo (.mark :: aS))
  | none=>.leaf .bad
 | _,_,_=>.leaf .bad
theorem Env.round (hE:Env P E Γ G Fence.wide) {G':Gh} (hok:G'.Ok P) (l:Nat):Env P E.uD Γ G' (Fence.wide.inRound l):=
 ⟨hE.mixed,hE.fns,hE.eq,hE.key,hok,jv.wide.inRound l,fun q=>by cases q⟩
theorem mO (hE:Env P E Γ G Fence.wide) (hfree:G.lU) (hlo:G.lo=lo) {fd:Func} (hfd:P.funcs[fid]? = some fd) {t:Tmp} {ps:Array Tmp} (hps:ps.toList.all (Nat.blt · N)=true) (sC:ps.size=e.cells) (heL:e.isL=true)
  (hw:IF lo' mps=true) (Pw:sG (gp mps) aS=true) {as body:Code} {la lb:List Loop} {ids:List Nat} {lY:List (TypeId×Ty)}
  (hla:∀ G':Gh,G'.lo=lo'->G'.lU->∀ l,Env P E.uD Γ G' (Fence.wide.inRound l)->iW P N G' fid (Fence.wide.inRound l) 0 as la) (hlb:∀ G':Gh,G'.lo=lo'->G'.lU->∀ l,Env P E.uD Γ G' (Fence.wide.inRound l)->iW P N G' fid (Fence.wide.inRound l) 0 body lb)
  {step:(aa mps).den->e.den->RO mps} (hstep:∀ x i,(jl P E Γ lo lo' N ps.toList as body la lb e mps x i).iZ .bad=step x i) :
  gX P N G fid Fence.wide 0 (.rangeFunc (.tmp t) ps as body) (tT lo aS t e mps ids lY (eW step)):=by
 subst hlo
 refine gX.mono (VE (la:=la) (lb:=lb) hE hfree hfd hps sC heL hw Pw (fun G' h1 h2 h3 l=>hla G' h1 h3 l (hE.round h2 l)) (fun G' h1 h2 h3 l=>hlb G' h1 h3 l (hE.round h2 l))) ?_
 intro s cC o ho
 unfold tT at cC ⊢
 unfold QS at ho
 split at ho
 case h_2 =>
  rename_i hn
  exfalso
  have:(Tree.leaf Out.bad).Has Out.bad:=rfl
  split at cC
  ·rename_i h1 h2 h3; exact hn _ _ _ h1 h2 h3
  ·exact cC .bad rfl
 rename_i e' ZB x0 hd hs hx
 simp only [hd,hs,hx] at cC ⊢
 split at ho
 case h_2 =>
  rename_i hc
  simp only [hc] at cC
  exact (cC .bad rfl).elim
 rename_i aBJ hcast
 simp only [hcast] at cC ⊢
 obtain ⟨hb,hh⟩:=Fy (K:=RO.out G.lo (.mark :: aS)) (l:=ids) (fun q hq e=>by subst e; exact cC _ hq)
 have:∀ (t:Tree (RO mps)),(t.map (RO.out G.lo (.mark :: aS))).Has o->∃ o1,t.Has o1/\o=RO.out G.lo (.mark :: aS) o1:=by
  intro t
  induction t with
  | leaf a=>exact fun h=>⟨a,rfl,h⟩
  | br b l r ihl ihr =>
   intro h
   cases b with
   | true=>obtain ⟨o1,q1,q2⟩:=ihl (by simpa [Tree.map,Tree.Has] using h); exact ⟨o1,by simpa [Tree.Has] using q1,q2⟩
   | false=>obtain ⟨o1,q1,q2⟩:=ihr (by simpa [Tree.map,Tree.Has] using h); exact ⟨o1,by simpa [Tree.Has] using q1,q2⟩
  | any l r ihl ihr =>
   intro h
   rcases h with h | h
   ·obtain ⟨o1,q1,q2⟩:=ihl h; exact ⟨o1,.inl q1,q2⟩
   ·obtain ⟨o1,q1,q2⟩:=ihr h; exact ⟨o1,.inr q1,q2⟩
 obtain ⟨o1,h1,rfl⟩:=this _ ho
 rw [Bt hstep _ _ hb o1 h1]
 exact hh
namespace GO
variable {τr:Ty} {qs:List aL}
def isOk (g:GO τr qs):Bool:=match g with
 | .ok _ _=>true
 | _=>false
def mL (g:GO τr qs) (T:TypeId) (τ:Ty):Bool:=match g with
 | .cw T' τ' _ _=>Nat.beq T' T && decide (τ'=τ)
 | _=>false
def aqW (g:GO τr qs):τr.den:=match g with
 | .ok r _=>r
 | _=>τr.dflt
def ZQ (g:GO τr qs):(aa qs).den:=match g with
 | .ok _ y=>y
 | .cw _ _ _ y=>y
 | .bad=>(aa qs).dflt
def pR (g:GO τr qs) (τ:Ty):τ.den:=match g with
 | .cw _ τ' d _=>(cZ τ d).getD τ.dflt
 | _=>τ.dflt
end GO
def yM {τr:Ty} {qs:List aL} (g:GO τr qs):List (TypeId×Ty)->Tree (GO τr qs)
 | []=>.br g.isOk (.leaf (.ok g.aqW g.ZQ)) (.leaf .bad)
 | (T,τ) :: l=>.br (g.mL T τ) (.leaf (.cw T τ (g.pR τ) g.ZQ)) (yM g l)
theorem Fz {τr:Ty} {qs:List aL} {g:GO τr qs}:∀ {l:List (TypeId×Ty)},(∀ q,(yM g l).Has q->q ≠ .bad)->g ≠ .bad/\(yM g l).Has g
 | [],h=>by
  cases g with
  | ok r y=>exact ⟨by simp,rfl⟩
  | cw T τ d y=>exact absurd rfl (h .bad rfl)
  | bad=>exact absurd rfl (h .bad rfl)
 | (T,τ) :: l,h=>by
  simp only [yM] at h ⊢
  cases hb:g.mL T τ with
  | true =>
   cases g with
   | cw T' τ' d x =>
    simp only [GO.mL,Bool.and_eq_true,decide_eq_true_eq] at hb
    obtain ⟨h1,h2⟩:=hb
    cases Nat.eq_of_beq_eq_true h1
    subst h2
    refine ⟨by simp,?_⟩
    show _=_
    simp [GO.pR,GO.ZQ,pE]
   | _=>cases hb
  | false =>
   rw [hb] at h
   have:=Fz (l:=l) (fun q hq=>h q (by simpa [Tree.Has] using hq))
   exact ⟨this.1,by simpa [Tree.Has] using this.2⟩
def Wd (n:Nat) (τr:Ty) (ps:List aL) (lY:List (TypeId×Ty)) (R:(aa ps).den->GO τr (aj ps)):List Slot->(Nat->aN)->Tr->Nat->Tree OR:=ajw n τr ps fun x=>yM (R x) lY
theorem Kl (hm:P.follows .mixedOrders=true) (hΓ:Sound P Γ) (hE:fI P E.eq) (hK:ez P E.key) {f:FuncId} {fn:Func} {c:Code} (hf:P.funcs[f]? = some fn) (hb:fn.body=some c) {ls:List Loop}
  {τr:Ty} {ps:List aL} (hw:IF lo ps=true) (hl:∀ G':Gh,G'.lo=lo->G'.lU->Env P E Γ G' Fence.wide->iW P fn.ntmps G' f Fence.wide 0 c ls)
  {R:(aa ps).den->GO τr (aj ps)} (lY:List (TypeId×Ty)) (hR:∀ x,(WV P E Γ fn ls lo τr ps x).iZ .bad=R x):fH P f (Wd fn.ntmps τr ps lY R):=by
 refine QK (E:=E) (ls:=ls) hm hΓ hE hK hf hb hw (fun G' h1 h2 h3=>hl G' h1 h2 ⟨hm,hΓ,hE,hK,h3,.wide,fun _=>rfl⟩) fun x cC go Pu=>?_
 obtain ⟨h1,h2⟩:=Fz cC
 rw [<- hR] at h1
 rw [Tree.yK h1 go Pu,hR]
 exact h2
def aiz (T:TypeId) (e:Ty):Option FR->Option (Sl e.den)
 | some ⟨T',e',s⟩=>match Nat.beq T' T,cZ (σ:=.sl e') (.sl e) s with
  | true,some s=>some s
  | _,_=>none
 | none=>none
def gU {τa τr:Ty} (M:τa.den->Option τr.den):ee:=⟨τa,τr,fun x=>(M x).isSome,fun x=>(M x).getD τr.dflt⟩
def LQ.lift {C:Type} {wv wy:aO} (je:(id:Nat)->C->(aa (dB wv id)).den->(aa (dB wy id)).den) (jr:C->(aa wv.ret).den->(aa wy.ret).den) (jp:C->(aa wv.cw).den->(aa wy.cw).den) (c:C):LQ wv->LQ wy
 | .exit id y=>.exit id (je id c y)
 | .ret y=>.ret (jr c y)
 | .cw T τ x y=>.cw T τ x (jp c y)
 | .bad=>.bad
def RQ.lift {C:Type} {vs ps:List aL} {wv wy:aO} (join:C->(aa vs).den->(aa ps).den) (je:(id:Nat)->C->(aa (dB wv id)).den->(aa (dB wy id)).den) (jr:C->(aa wv.ret).den->(aa wy.ret).den) (jp:C->(aa wv.cw).den->(aa wy.cw).den) (c:C):RQ vs wv->RQ ps wy
 | .next v=>.next (join c v)
 | .out q=>.out (q.lift je jr jp c)
 | .bad=>.bad
def nI {C:Type} {wv:aO} (wy:aO) (jp:C->(aa wv.cw).den->(aa wy.cw).den) (c:C) (q:LQ wv):List (TypeId×Ty)->Tree LO
 | []=>.leaf .bad
 | (T,τ) :: l=>.br (q.mL T τ) (.leaf (.cw T τ (q.pR τ) wy.cw (jp c q.KZ))) (nI wy jp c q l)
def aJ {C:Type} {wv:aO} (wy:aO) (je:(id:Nat)->C->(aa (dB wv id)).den->(aa (dB wy id)).den) (jr:C->(aa wv.ret).den->(aa wy.ret).den) (jp:C->(aa wv.cw).den->(aa wy.cw).den) (lY:List (TypeId×Ty)) (ZR:Bool) (c:C) (q:LQ wv):List (Nat×List aL)->Tree LO
 | []=>match ZR with
  | true=>.br q.uF (.leaf (.ret wy.ret (jr c q.ZN))) (nI wy jp c q lY)
  | false=>nI wy jp c q lY
 | (id,_) :: l=>.br (q.eH id) (.leaf (.exit id (dB wy id) (je id c (q.dY id)))) (aJ wy je jr jp lY ZR c q l)
theorem rU {C:Type} {wv wy:aO} {je:(id:Nat)->C->(aa (dB wv id)).den->(aa (dB wy id)).den} {jr:C->(aa wv.ret).den->(aa wy.ret).den} {jp:C->(aa wv.cw).den->(aa wy.cw).den} {c:C} {q:LQ wv}:∀ {l:List (TypeId×Ty)},(∀ o,((nI wy jp c q l).map (LO.out lo aS)).Has o->o ≠ .bad)->q ≠ .bad/\((nI wy jp c q l).map (LO.out lo aS)).Has ((q.lift je jr jp c).out lo aS)
 | [],h=>absurd rfl (h .bad rfl)
 | (T,τ) :: l,h=>by
  simp only [nI,Tree.map] at h ⊢
  cases hb:q.mL T τ with
  | true =>
   cases q with
   | cw T' τ' x y =>
    simp only [LQ.mL,Bool.and_eq_true,decide_eq_true_eq] at hb
    obtain ⟨h1,h2⟩:=hb
    have h1:=Nat.eq_of_beq_eq_true h1
    subst h1 h2
    refine ⟨by simp,?_⟩
    show (LQ.cw T' τ' x (jp c y)).out lo aS=_
    simp [LO.out,LQ.out,LQ.pR,LQ.KZ,pE]
   | _=>cases hb
  | false =>
   rw [hb] at h
   have:=rU (je:=je) (jr:=jr) (l:=l) (fun o ho=>h o (by simpa [Tree.Has] using ho))
   exact ⟨this.1,by simpa [Tree.Has] using this.2⟩
theorem FA {C:Type} {wv wy:aO} {je:(id:Nat)->C->(aa (dB wv id)).den->(aa (dB wy id)).den} {jr:C->(aa wv.ret).den->(aa wy.ret).den} {jp:C->(aa wv.cw).den->(aa wy.cw).den} {lY:List (TypeId×Ty)} {hr:Bool} {c:C} {q:LQ wv}:∀ {l:List (Nat×List aL)},(∀ o,((aJ wy je jr jp lY hr c q l).map (LO.out lo aS)).Has o->o ≠ .bad)->q ≠ .bad/\((aJ wy je jr jp lY hr c q l).map (LO.out lo aS)).Has ((q.lift je jr jp c).out lo aS)
 | [],h=>by
  cases hr with
  | false=>exact rU h
  | true =>
   simp only [aJ,Tree.map] at h ⊢
   cases hb:q.uF with
   | true =>
    cases q with
    | ret y=>exact ⟨by simp,rfl⟩
    | _=>cases hb
   | false =>
    rw [hb] at h
    have:=rU (je:=je) (jr:=jr) (l:=lY) (fun o ho=>h o (by simpa [Tree.Has] using ho))
    exact ⟨this.1,by simpa [Tree.Has] using this.2⟩
 | (id,p) :: l,h=>by
  simp only [aJ,Tree.map] at h ⊢
  cases hb:q.eH id with
  | true =>
   cases q with
   | exit id' y =>
    have e:id'=id:=Nat.eq_of_beq_eq_true hb
    subst e
    refine ⟨by simp,?_⟩
    show (LQ.exit id' (je id' c y)).out lo aS=_
    simp [LO.out,LQ.out]
   | _=>cases hb
  | false =>
   rw [hb] at h
   have:=FA (l:=l) (fun o ho=>h o (by simpa [Tree.Has] using ho))
   exact ⟨this.1,by simpa [Tree.Has] using this.2⟩
theorem cN {C:Type} {vs ps:List aL} {wv wy:aO} {join:C->(aa vs).den->(aa ps).den} {je:(id:Nat)->C->(aa (dB wv id)).den->(aa (dB wy id)).den} {jr:C->(aa wv.ret).den->(aa wy.ret).den} {jp:C->(aa wv.cw).den->(aa wy.cw).den} {c:C} (b:Bool) (x y:RQ vs wv):(bif b then x else y).lift join je jr jp c=bif b then x.lift join je jr jp c else y.lift join je jr jp c:=by cases b <;> rfl
theorem aM {C:Type} {vs ps:List aL} {wv wy:aO} {join:C->(aa vs).den->(aa ps).den} {je:(id:Nat)->C->(aa (dB wv id)).den->(aa (dB wy id)).den} {jr:C->(aa wv.ret).den->(aa wy.ret).den} {jp:C->(aa wv.cw).den->(aa wy.cw).den} {c:C}:(RQ.bad:RQ vs wv).lift join je jr jp c = .bad:=rfl
theorem nJ (hE:Env P E Γ G Fw) {tr:Bool} (ht:tr=true\/G.lU) (hlo:G.lo=lo) {C:Type} {vs ps:List aL} {wv wy:aO} {body:Code} {ls:List Loop} (hls:iW P N G fid Fw r body ls)
  (hps:WU aS tr ps=true) (hwy:wy.wf aS tr=true) {join:C->(aa vs).den->(aa ps).den} {je:(id:Nat)->C->(aa (dB wv id)).den->(aa (dB wy id)).den} {jr:C->(aa wv.ret).den->(aa wy.ret).den} {jp:C->(aa wv.cw).den->(aa wy.cw).den} {lY:List (TypeId×Ty)} {hr:Bool}
  (sp:(aa ps).den->C×(aa vs).den) (hsp:∀ x,join (sp x).1 (sp x).2=x) (ajF:∀ c v,sp (join c v)=(c,v))
  {step:C->(aa vs).den->RQ vs wv} (hstep:∀ c v,bu (aU P E Γ lo N aS ps wy body ls (join c v))=(step c v).lift join je jr jp c) (n:Nat) :
  gX P N G fid Fw r (.loop body) (bF lo aS ps fun x=>aJ wy je jr jp lY hr (sp x).1 (aH (step (sp x).1) n (sp x).2) wy.bw):=by
 subst hlo
 have key:∀ (n:Nat) (c:C) (v:(aa vs).den),aH (fun x=>(step (sp x).1 (sp x).2).lift join je jr jp (sp x).1) n (join c v)=(aH (step c) n v).lift je jr jp c:=by
  intro n c
  induction n with
  | zero=>intro v; rfl
  | succ n ih =>
   intro v
   simp only [aH,ajF]
   cases hs:step c v with
   | next v'=>simp only [RQ.lift]; exact ih v'
   | out q=>rfl
   | bad=>rfl
 refine VF hE ht hls hps hwy (step:=fun x=>(step (sp x).1 (sp x).2).lift join je jr jp (sp x).1) (fun x=>by rw [<- hstep,hsp]) n fun x cC=>?_
 have e1:aH (fun x=>(step (sp x).1 (sp x).2).lift join je jr jp (sp x).1) n x=(aH (step (sp x).1) n (sp x).2).lift je jr jp (sp x).1:=by
  have:=key n (sp x).1 (sp x).2
  rwa [hsp] at this
 rw [e1]
 obtain ⟨h1,h2⟩:=FA cC
 refine ⟨?_,h2⟩
 cases hq:aH (step (sp x).1) n (sp x).2 with
 | bad=>exact absurd hq h1
 | _=>simp [LQ.lift]
theorem bE (hE:Env P E Γ G Fw) (ht:G.lU) (hlo:G.lo=lo) {C:Type} {vs ps:List aL} {wv wy:aO} {body:Code} {ls:List Loop} (hls:iW P N G fid Fw r body ls)
  (hps:WU aS false ps=true) (hwy:wy.wf aS false=true) {join:C->(aa vs).den->(aa ps).den} {je:(id:Nat)->C->(aa (dB wv id)).den->(aa (dB wy id)).den} {jr:C->(aa wv.ret).den->(aa wy.ret).den} {jp:C->(aa wv.cw).den->(aa wy.cw).den} {lY:List (TypeId×Ty)} {hr:Bool}
  (sp:(aa ps).den->C×(aa vs).den) (hsp:∀ x,join (sp x).1 (sp x).2=x) (ajF:∀ c v,sp (join c v)=(c,v))
  {step:C->(aa vs).den->RQ vs wv} (hstep:∀ c v,bu (aU P E Γ lo N aS ps wy body ls (join c v))=(step c v).lift join je jr jp c) (n:Nat) :
  gX P N G fid Fw r (.loop body) (bF lo aS ps fun x=>aJ wy je jr jp lY hr (sp x).1 (aH (step (sp x).1) n (sp x).2) wy.bw):=
 nJ hE (.inr ht) hlo hls hps hwy sp hsp ajF hstep n
def tZ:Option Code->Code
 | some (.rangeFunc _ _ as _)=>as
 | _=>.skip
def mP:Option Code->Code
 | some (.rangeFunc _ _ _ b)=>b
 | _=>.skip
theorem aC (hm:P.follows .mixedOrders=true) (hΓ:Sound P Γ) (hE:fI P E.eq) (hK:ez P E.key) {f:FuncId} {fn:Func} {c:Code} (hf:P.funcs[f]? = some fn) (hb:fn.body=some c) {ls:List Loop}
  {τa τr:Ty} {M:τa.den->Option τr.den} (hn:Nat.ble τa.cells fn.ntmps=true) (hM:∀ x,(aI P E Γ fn ls τa τr x).sure=M x)
  (hl:∀ G':Gh,G'.lo=0->G'.lU->Env P E Γ G' Fence.wide->iW P fn.ntmps G' f Fence.wide 0 c ls):Holds P f (gU M):=
 KT hm hΓ hE hK hf hb (fun S w=>hl (Gh.start S w) rfl dH ⟨hm,hΓ,hE,hK,jS,.wide,fun _=>rfl⟩) (gU M) (Nat.le_of_ble_eq_true hn) fun x hp=>Tree.qB (by
  show (aI P E Γ fn ls τa τr x).sure=some ((M x).getD τr.dflt)
  rw [hM x]
  have hp:(M x).isSome=true:=hp
  cases h:M x with
  | none=>rw [h] at hp; cases hp
  | some y=>rfl)
theorem Ev {f:FuncId} {τa τr:Ty}:Holds P f (gU fun _:τa.den=>(none:Option τr.den)):=fun _ _ _ _ _ h=>by cases h
def vY.of:List (FuncId×UP)->vY
 | [],_=>none
 | p :: l,f=>match Nat.beq f p.1 with
  | true=>some p.2
  | false=>vY.of l f
theorem GV:∀ {l:List (FuncId×UP)},(∀ p∈l,aE P p.1/\Ju P p.1 p.2)->Ds P (vY.of l)
 | [],_,f,c,h=>by cases h
 | p :: l,hl,f,c,h=>by
  simp only [vY.of] at h
  split at h
  ·rename_i hb
   cases h
   rw [Nat.eq_of_beq_eq_true hb]
   exact hl p (.head _)
  ·exact GV (fun p hp=>hl p (.tail _ hp)) f c h
theorem Km (hm:P.follows .mixedOrders=true) (hΓ:Sound P Γ) {Δ:vY} (hΔ:Ds P Δ) (hE:fI P E.eq) (hK:ez P E.key) {f:FuncId} {fn:Func} {c:Code} (hf:P.funcs[f]? = some fn) (hb:fn.body=some c) {ls:List Loop}
  {τa τr:Ty} {M:τa.den->Option τr.den} (hn:Nat.ble τa.cells fn.ntmps=true) (hM:∀ x,(yJ P E Γ Δ fn ls τa τr x).sure=M x)
  (hl:∀ G':Gh,G'.lo=0->G'.lU->Env P E Γ G' Fence.wide->iW P fn.ntmps G' f Fence.wide 0 c ls):Holds P f (gU M):=
 IJ hm hΓ hΔ hE hK hf hb (fun S w=>hl (Gh.start S w) rfl dH ⟨hm,hΓ,hE,hK,jS,.wide,fun _=>rfl⟩) (gU M) (Nat.le_of_ble_eq_true hn) fun x hp=>Tree.qB (by
  show (yJ P E Γ Δ fn ls τa τr x).sure=some ((M x).getD τr.dflt)
  rw [hM x]
  have hp:(M x).isSome=true:=hp
  cases h:M x with
  | none=>rw [h] at hp; cases hp
  | some y=>rfl)
end Go.Dm
namespace Go.Dm
open Go.RowKit
variable {P:Program} {N N':Nat} {G:Gh} {S S' S2:CS} {w w' w2:World} {s s' s2:St} {a a2:Act} {ρ ρ' ρ2:fV} {F F' F2:Nat->Prop} {heap heap' H' H2:Nat->aN} {Y:Value} {E:cO} {Γ:Ctx} {Fw:Fence} {r:Nat} {ops:Array Oper} {lo lo' base:Nat} {aS:List gx} {vr Ma:Nat->Nat} {n:Nat} {fid:FuncId} {mps:List aL} {e:Ty}
def ZT (t:Nat) (T0:TypeId) (e0:Ty):Out->Tree (Option FR)
 | .ret s | .norm s=>match gH s.aS,s.env t with
  | true,.v (.own id v e sl)=>match s.heap id with
   | .chain v' T _ _=>match Nat.beq v v' with
    | true=>.leaf (some ⟨T,e,sl⟩)
    | false=>.leaf none
   | _=>.leaf none
  | true,.v .qk=>.leaf (some ⟨T0,e0,⟨0,fun _=>e0.dflt⟩⟩)
  | _,_=>.leaf none
 | _=>.leaf none
def ab7 (P:Program) (E:cO) (Γ:Ctx) (fn:Func) (ls:List Loop) (t:Nat) (T0:TypeId) (e0:Ty) (τa:Ty) (x:τa.den):Tree (Option FR):=
 match fn.body with
 | some c=>gF P E Γ 0 fn.ntmps .any c ls (Fo τa x) (ZT t T0 e0)
 | none=>.leaf none
def anC {e:Ty}:Option (Sl e.den)->Option (Sl e.den)->Option (Sl e.den)
 | some a,some b=>bif Nat.beq a.n 0 && Nat.beq b.n 0 then some ⟨0,fun _=>e.dflt⟩ else none
 | _,_=>none
def Tree.qa (T:TypeId) (e:Ty):Tree (Option FR)->Option (Sl e.den)
 | .leaf a=>aiz T e a
 | .br b l r=>bif b then l.qa T e else r.qa T e
 | .any l r=>anC (l.qa T e) (r.qa T e)
theorem NC {T:TypeId} {e:Ty} (b:Bool) (l r:Tree (Option FR)):(bif b then l else r).qa T e=bif b then l.qa T e else r.qa T e:=by cases b <;> rfl
def ND (T:TypeId) (e:Ty) (sl:Sl e.den) (z:Option FR):Prop:=∃ s:Sl e.den,z=some ⟨T,e,s⟩/\(s=sl\/s.n=0/\sl.n=0)
theorem qD {T:TypeId} {e:Ty}:∀ {t:Tree (Option FR)} {sl:Sl e.den},t.qa T e=some sl->t.kE (ND T e sl)
 | .leaf a,sl,h=>by
  simp only [Tree.qa] at h
  cases a with
  | none=>cases h
  | some fr =>
   obtain ⟨T',e',s'⟩:=fr
   simp only [aiz] at h
   split at h
   case h_2=>cases h
   rename_i s2 hT hc
   cases h
   obtain ⟨heq,WR⟩:=bK hc
   cases Nat.eq_of_beq_eq_true hT
   cases heq
   have WR:sl=s':=WR
   exact ⟨s',rfl,.inl WR.symm⟩
 | .br b l r,sl,h=>by
  cases b with
  | true=>have:=qD (t:=l) (sl:=sl) h; simpa [Tree.kE] using this
  | false=>have:=qD (t:=r) (sl:=sl) h; simpa [Tree.kE] using this
 | .any l r,sl,h=>by
  simp only [Tree.qa,anC] at h
  split at h
  case h_2=>cases h
  rename_i x y hx hy
  cases hb:(Nat.beq x.n 0 && Nat.beq y.n 0) with
  | false=>rw [hb] at h; cases h
  | true =>
   rw [hb] at h
   cases h
   rw [Bool.and_eq_true] at hb
   have h1:=Nat.eq_of_beq_eq_true hb.1
   have h2:=Nat.eq_of_beq_eq_true hb.2
   have mono:∀ {t:Tree (Option FR)} {z:Sl e.den},z.n=0->t.kE (ND T e z)->t.kE (ND T e ⟨0,fun _=>e.dflt⟩):=by
    intro t z hz
    induction t with
    | leaf a =>
     rintro ⟨s,rfl,hs⟩
     refine ⟨s,rfl,.inr ⟨?_,rfl⟩⟩
     rcases hs with rfl | hs
     ·exact hz
     ·exact hs.1
    | br b l r i1 i2 =>
     intro q
     cases b with
     | true=>have:=i1 (by simpa [Tree.kE] using q); simpa [Tree.kE] using this
     | false=>have:=i2 (by simpa [Tree.kE] using q); simpa [Tree.kE] using this
    | any l r i1 i2=>exact fun q=>⟨i1 q.1,i2 q.2⟩
   exact ⟨mono h1 (qD hx),mono h2 (qD hy)⟩
def oc (P:Program) (S:CS) (w0 w:World) (T:TypeId) (e:Ty) (s:Sl e.den) (v:Value) (ob:Option Nat):Prop:=
 R P (.sl e) S w s [v]/\((ob=none/\s.n=0/\∃ a,v = .slice a 0 0) \/
  ∃ b cap arr,ob=some b/\v = .slice (some ⟨b,0,none⟩) s.n cap/\s.n<=cap/\cap<=maxLen/\w.heap[b]? = some (.cells arr T (0,0))/\arr.size=cap * e.cells/\w0.heap.size<=b/\∀ o,S b o->o < s.n * e.cells)
theorem oc.like {T:TypeId} {e:Ty} {s sl:Sl e.den} {w0:World} {v:Value} {ob:Option Nat} (h:oc P S w0 w T e s v ob) (hs:s=sl\/s.n=0/\sl.n=0):oc P S w0 w T e sl v ob:=by
 rcases hs with rfl | ⟨h1,h2⟩
 ·exact h
 ·obtain ⟨hR,ho⟩:=h
  refine ⟨?_,?_⟩
  ·rcases hR with ⟨_,a,cap,hv⟩ | ⟨b,o,cap,hv,q1,q2,_⟩
   ·exact .inl ⟨h2,a,cap,hv⟩
   ·exact .inr ⟨b,o,cap,by rw [h2,<- h1]; exact hv,by omega,q2,fun i hi=>by omega⟩
  ·rw [h1] at ho
   rw [h2]
   exact ho
theorem He {wr:Bool} (hm:P.follows .mixedOrders=true) (hΓ:Sound P Γ) (hE:fI P E.eq) (hK:ez P E.key) {f:FuncId} {fn:Func} {c:Code} (hf:P.funcs[f]? = some fn) (hb:fn.body=some c) {ls:List Loop}
  {t:Nat} (hres:fn.results = #[.tmp t]) {τa:Ty} {T:TypeId} {e:Ty} (hfl:e.flat=true) (hwr:wr=true->e.plain=true/\0 < e.cells) (hl:∀ G':Gh,G'.lo=0->G'.lU->Env P E Γ G' Fence.wide->iW P fn.ntmps G' f Fence.wide 0 c ls)
  {R:τa.den->Option (Sl e.den)} (hR:∀ x,(ab7 P E Γ fn ls t T e τa x).qa T e=R x):fH P f (qU wr fn.ntmps τa T e R):=by
 intro N G s a w ρ S F hG h args us cv hlen hargs hlo hall _
 unfold qU at hall ⊢
 split at hall
 case h_2=>exact (hall .bad rfl rfl).elim
 rename_i x hn hx hno
 cases hs:R x with
 | none=>rw [hs] at hall; exact absurd rfl (hall .bad rfl)
 | some sl =>
 have hfr:=hR x
 rw [hs] at hfr
 have hR':=iT hlen hargs hx
 have wM:us.length<=fn.ntmps:=by rw [<- hlen]; exact Nat.le_of_ble_eq_true hn
 have h0:=ZM (N:=fn.ntmps) (l:=G.l) h.bd hR' wM
 have Cy:(Gh.inner (fun _=>False) S w G.l 0 fun _=>none).Ok P:=yD fun _ _ q=>by cases q
 have sY:Env P E Γ (Gh.inner (fun _=>False) S w G.l 0 fun _=>none) Fence.wide:=⟨hm,hΓ,hE,hK,Cy,.wide,fun _=>rfl⟩
 have hx:=qD hfr
 unfold ab7 at hx
 rw [hb] at hx
 refine (callsIn_wide (n:=0)).1 (fN hf hb trivial ?_)
 refine dG (dy (G:=Gh.inner (fun _=>False) S w G.l 0 fun _=>none) (K:=ZT t T e) (ch:=Tree.any) (T:=fun tt:Tree (Option FR)=>tt.kE (ND T e sl)) sY (fun a b q=>q) ⟨(fun q=>by obtain ⟨_,q,_⟩:=q; cases q),(fun s' q=>by obtain ⟨_,q,_⟩:=q; cases q)⟩ hx (hl _ rfl dH sY) ⟨_,_,_,h0⟩) ?_
 rintro en a' w' ⟨o,ho,hT⟩
 have fin:∀ s',SX P fn.ntmps (Gh.inner (fun _=>False) S w G.l 0 fun _=>none) s' a' w'->(ZT t T e (.ret s')).kE (ND T e sl) ->
   LeavesInM Fence.wide 0 P fn a'.tmps (fun en w'=>∃ r,(Tree.br (some sl).isSome (.leaf (.ok ⟨some (wG wr cv e ((some sl).getD ⟨0,fun _=>e.dflt⟩)),[(cv,eD wr T e ((some sl).getD ⟨0,fun _=>e.dflt⟩))],[cv],false,none⟩)) (.leaf .bad)).Has r/\yf P N G s a r en w') a'.defers .returning w':=by
  rintro s' ⟨ρ',S',F',hs⟩ hT
  have hmk:gH s'.aS=true:=by
   simp only [ZT] at hT
   cases hm:gH s'.aS with
   | true=>rfl
   | false=>rw [hm] at hT; obtain ⟨_,q,_⟩:=hT; cases q
  refine gr Cy (by simp) _ rfl hmk hs fun w'' q1 _=>?_
  -- what the row is
  have hrow:∃ ob:Option Nat,oc P S' w w'' T e sl (a'.tmps.getD t undef) ob:=by
   have hrc:=q1.env t
   simp only [ZT,hmk] at hT
   split at hT
   ·rename_i id v e' sl' _ Nj
    split at hT
    case h_2=>obtain ⟨_,q,_⟩:=hT; cases q
    rename_i v' T' k n adj
    split at hT
    case h_2=>obtain ⟨_,q,_⟩:=hT; cases q
    rename_i hc
    obtain ⟨s0,hT,qC⟩:=hT
    have hT:some (⟨T',e',sl'⟩:FR)=some ⟨T,e,s0⟩:=hT
    cases hT
    cases Nat.eq_of_beq_eq_true hc
    have Nj:({ s' with aS:=[] }:St).env t = .v (.own id v e s0):=Nj
    have adj:({ s' with aS:=[] }:St).heap id = .chain v T k n:=adj
    rw [Nj] at hrc
    obtain ⟨r1,_,cur,T0,k0,n0,r2,_,r4⟩:=hrc
    rw [adj] at r2
    cases r2
    obtain ⟨r5,r6,r7⟩:=r4 rfl
    subst r5 r6
    have dn:=q1.obj id
    rw [adj] at dn
    rcases r7 with ⟨g0,g1,g2⟩ | ⟨b,cap,arr,g1,g2,g3,g4,g5,g6⟩
    ·exact ⟨none,oc.like (s:=s0) ⟨r1,.inl ⟨rfl,g1,g2⟩⟩ qC⟩
    ·rcases dn with ⟨o1,_⟩ | ⟨b',o1,o2,o3,o4,o5⟩
     ·rw [g1] at o1; cases o1
     ·rw [g1] at o1; cases o1
      exact ⟨some b,oc.like (s:=s0) ⟨r1,.inr ⟨b,cap,arr,rfl,g2,g3,g4,g5,g6,o2.1.elim (fun x=>x) (fun x=>x.elim),o5⟩⟩ qC⟩
   ·rename_i _ Nj
    obtain ⟨s0,hT,qC⟩:=hT
    have hT:some (⟨T,e,⟨0,fun _=>e.dflt⟩⟩:FR)=some ⟨T,e,s0⟩:=hT
    cases hT
    have Nj:({ s' with aS:=[] }:St).env t = .v .qk:=Nj
    rw [Nj] at hrc
    obtain ⟨ad,hv⟩:=hrc
    exact ⟨none,oc.like (s:=⟨0,fun _=>e.dflt⟩) ⟨.inl ⟨rfl,ad,0,by rw [<- hv]⟩,.inl ⟨rfl,rfl,ad,hv⟩⟩ qC⟩
   ·obtain ⟨_,q,_⟩:=hT; cases q
  obtain ⟨ob,hv,hob⟩:=hrow
  cases wr with
  | true =>
   obtain ⟨sC,hpos⟩:=hwr rfl
   have hS2:SR P fn.ntmps (Gh.inner (fun _=>False) S w G.l 0 fun _=>none) ⟨fun _=>.top,fun i=>bif Nat.beq i cv then .row 0 T e sl else .none,.none,0,[]⟩ { a' with defers:=[] } w''
     (fun i=>bif Nat.beq i cv then ob else none) (fun b' o=>S' b' o/\ob≠some b') (fun _=>False):=by
    refine ⟨q1.size,trivial,fun _=>trivial,fun i=>?_,fun i j b' hi hj=>?_,⟨q1.ext.size,fun b' o q=>⟨q1.ext.sub b' o q,fun e=>?_⟩,q1.ext.same,q1.ext.maps,fun b' o q=>q1.ext.bd b' o q.1,q1.ext.pl⟩,fun b' o q=>q1.new b' o q.1,
     q1.same.mono fun b' q=>⟨q.1,q.2.1,q.2.2⟩,dH _ _ _,fun _ q=>q.elim,fun _ _ q=>q,fun _ q=>q,fun _ _ _ _=>trivial,fun _ _ q=>by cases q⟩
    ·by_cases hi:i=cv
     ·subst hi
      simp only [Nat.beq_refl,cond_true]
      refine ⟨⟨hfl,hpos⟩,?_⟩
      rcases hob with ⟨g0,g1,_⟩ | ⟨b,cap,arr,g0,g1,g2,g3,g4,g5,g6,g7⟩
      ·exact .inl ⟨by simp [g0],g1⟩
      ·refine .inr ⟨b,arr,by simp [g0],⟨.inl g6,fun q=>q⟩,g4,by rw [g5]; exact Nat.mul_le_mul_right _ g2,fun k hk=>⟨encs e (sl.g k),(Go.Dm.R.plain sC).2 rfl,jO _ _ sC,fun j u hu=>?_⟩,fun o q=>q.2 (by rw [g0])⟩
       rcases hv with ⟨r0,_⟩ | ⟨b',o',cap',m1,m2,m3,m4⟩
       ·omega
       ·have m1:=(List.cons.inj m1).1
        rw [g1] at m1
        cases m1
        obtain ⟨us',m5,m6,m7⟩:=m4 k hk
        rw [(Go.Dm.R.plain sC).1 m5] at m7
        obtain ⟨_,m8⟩:=m7 j u hu
        rw [cell_of_row w'' b _ arr T _ g4] at m8
        rw [<- m8]; congr 1; omega
     ·simp only [bC hi,cond_false]; trivial
    ·by_cases hi':i=cv
     ·by_cases hj':j=cv
      ·rw [hi',hj']
      ·have hj:=hj.lv; simp only [bC hj',cond_false] at hj; exact hj.elim
     ·have hi:=hi.lv; simp only [bC hi',cond_false] at hi; exact hi.elim
    ·rcases hob with ⟨g0,_⟩ | ⟨b,cap,arr,g0,g1,g2,g3,g4,g5,g6,g7⟩
     ·rw [g0] at e; cases e
     ·rw [g0] at e; cases e
      have:=h.bd b' o q
      omega
   have kL:=h.back hG (D:=fun i=>Nat.beq i cv) hS2 (fun b hb=>hb.elim) (fun id hn=>by
     cases hb:Nat.beq id cv with
     | true=>rfl
     | false=>simp only [hb,cond_false] at hn; exact absurd rfl hn)
    (fun id hid=>by rw [Nat.eq_of_beq_eq_true hid,hno]; trivial) (fun id b hid hb=>by have:=hG.fu id b hb; have:=Nat.eq_of_beq_eq_true hid; omega)
   have hr0:(results fn a'.tmps).run P w'' = .ok (a'.tmps.getD t undef) w'':=by
    simp [results,hres]
   refine ⟨_,hr0,.ok ⟨some (.v (.row cv 0)),[(cv,.row 0 T e sl)],[cv],false,none⟩,rfl,_,_,_,_,rfl,kL.of_eq rfl ?_ rfl rfl,?_⟩
   ·funext i
    show dm s.heap [(cv,.row 0 T e sl)] i=dD (fun i=>Nat.beq i cv) (fun i=>bif Nat.beq i cv then .row 0 T e sl else .none) s.heap i
    by_cases hi:i=cv
    ·subst hi; simp [dm,ay,dD]
    ·simp [dm,ay,dD,bC hi]
   ·show RC P G.Y (fun b' o=>S' b' o/\ob≠some b') w'' (dm s.heap [(cv,.row 0 T e sl)]) (dr (fun i=>Nat.beq i cv) (fun i=>bif Nat.beq i cv then ob else none) ρ) (.row cv 0) (a'.tmps.getD t undef)
    have hh:dm s.heap [(cv,.row 0 T e sl)] cv = .row 0 T e sl:=by simp [dm,ay]
    refine ⟨by rw [hh]; simp,?_,fun cu1 T1 e1 s1 hd=>?_⟩
    ·rcases hob with ⟨_,_,ad,g2⟩ | ⟨b,cap,arr,g0,g1,_⟩
     ·exact ⟨_,_,_,g2⟩
     ·exact ⟨_,_,_,g1⟩
    ·rw [hh] at hd
     cases hd
     refine ⟨Nat.le_refl _,fun _=>?_⟩
     rcases hob with ⟨g0,g1,ad,g2⟩ | ⟨b,cap,arr,g0,g1,g2,g3,g4,g5,g6,g7⟩
     ·exact .inl ⟨g1,ad,g2⟩
     ·exact .inr ⟨b,cap,by simp [dr,g0],g1,g2,g3,(Array.getElem?_eq_some_iff.1 g4).1,fun It T1 f1 ha=>by rw [g4] at ha; cases ha; exact g5⟩
  | false =>
   have hS2:SR P fn.ntmps (Gh.inner (fun _=>False) S w G.l 0 fun _=>none) ⟨fun _=>.top,fun i=>bif Nat.beq i cv then .chain 0 T e.cells sl.n else .none,.none,0,[]⟩ { a' with defers:=[] } w''
     (fun i=>bif Nat.beq i cv then ob else none) S' (fun _=>False):=by
    refine ⟨q1.size,trivial,fun _=>trivial,fun i=>?_,fun i j b' hi hj=>?_,q1.ext,q1.new,
     q1.same.mono fun b' q=>⟨q.1,q.2.1,q.2.2⟩,dH _ _ _,fun _ q=>q.elim,fun _ _ q=>q,fun _ q=>q,fun _ _ _ _=>trivial,fun _ _ q=>by cases q⟩
    ·by_cases hi:i=cv
     ·subst hi
      simp only [Nat.beq_refl,cond_true]
      rcases hob with ⟨g0,g1,_⟩ | ⟨b,cap,arr,g0,g1,g2,g3,g4,g5,g6,g7⟩
      ·exact .inl ⟨by simp [g0],g1⟩
      ·exact .inr ⟨b,by simp [g0],⟨.inl g6,fun q=>q⟩,(Array.getElem?_eq_some_iff.1 g4).1,⟨_,_,_,g4⟩,g7⟩
     ·simp only [bC hi,cond_false]; trivial
    ·by_cases hi':i=cv
     ·by_cases hj':j=cv
      ·rw [hi',hj']
      ·have hj:=hj.lv; simp only [bC hj',cond_false] at hj; exact hj.elim
     ·have hi:=hi.lv; simp only [bC hi',cond_false] at hi; exact hi.elim
   have kL:=h.back hG (D:=fun i=>Nat.beq i cv) hS2 (fun b hb=>hb.elim) (fun id hn=>by
     cases hb:Nat.beq id cv with
     | true=>rfl
     | false=>simp only [hb,cond_false] at hn; exact absurd rfl hn)
    (fun id hid=>by rw [Nat.eq_of_beq_eq_true hid,hno]; trivial) (fun id b hid hb=>by have:=hG.fu id b hb; have:=Nat.eq_of_beq_eq_true hid; omega)
   have hr0:(results fn a'.tmps).run P w'' = .ok (a'.tmps.getD t undef) w'':=by
    simp [results,hres]
   refine ⟨_,hr0,.ok ⟨some (.v (.own cv 0 e sl)),[(cv,.chain 0 T e.cells sl.n)],[cv],false,none⟩,rfl,_,_,_,_,rfl,kL.of_eq rfl ?_ rfl rfl,?_⟩
   ·funext i
    show dm s.heap [(cv,.chain 0 T e.cells sl.n)] i=dD (fun i=>Nat.beq i cv) (fun i=>bif Nat.beq i cv then .chain 0 T e.cells sl.n else .none) s.heap i
    by_cases hi:i=cv
    ·subst hi; simp [dm,ay,dD]
    ·simp [dm,ay,dD,bC hi]
   ·show RC P G.Y S' w'' (dm s.heap [(cv,.chain 0 T e.cells sl.n)]) (dr (fun i=>Nat.beq i cv) (fun i=>bif Nat.beq i cv then ob else none) ρ) (.own cv 0 e sl) (a'.tmps.getD t undef)
    have hh:dm s.heap [(cv,.chain 0 T e.cells sl.n)] cv = .chain 0 T e.cells sl.n:=by simp [dm,ay]
    refine ⟨hv,hfl,0,T,e.cells,sl.n,hh,Nat.le_refl _,fun _=>⟨rfl,rfl,?_⟩⟩
    rcases hob with ⟨g0,g1,ad,g2⟩ | ⟨b,cap,arr,g0,g1,g2,g3,g4,g5,g6,g7⟩
    ·exact .inl ⟨by simp [dr,g0],g1,ad,g2⟩
    ·exact .inr ⟨b,cap,arr,by simp [dr,g0],g1,g2,g3,g4,g5⟩
 cases o with
 | norm s=>cases en <;> first | exact ho.elim | exact fin s ho hT
 | ret s=>cases en <;> first | exact ho.elim | exact fin s ho hT
 | exit id s=>obtain ⟨_,q,_⟩:=hT; cases q
 | cw d s=>obtain ⟨_,q,_⟩:=hT; cases q
 | bad=>obtain ⟨_,q,_⟩:=hT; cases q
end Go.Dm
namespace Go.Dm
open Go.RowKit
def cl {α β:Type} (d:α) (m:Option α) (f:α->β) (g:β):β:=bif m.isSome then f (m.getD d) else g
theorem dh {γ:Type} {α:Type} (d:α) (m:Option α) (f:α->Tree (Option γ)) (g:Tree (Option γ)):Tree.sure (cl d m f g)=cl d m (fun y=>Tree.sure (f y)) (Tree.sure g):=by unfold cl; cases m.isSome <;> rfl
theorem qh {γ:Type} (bad:γ) {α:Type} (d:α) (m:Option α) (f:α->Tree γ) (g:Tree γ):Tree.iZ bad (cl d m f g)=cl d m (fun y=>Tree.iZ bad (f y)) (Tree.iZ bad g):=by unfold cl; cases m.isSome <;> rfl
theorem dK {SS:List aL} {Jv:aO} {α:Type} (d:α) (m:Option α) (f:α->Tree (RQ SS Jv)) (g:Tree (RQ SS Jv)):bu (cl d m f g)=cl d m (fun y=>bu (f y)) (bu g):=by unfold cl; cases m.isSome <;> rfl
theorem dL {C:Type} {ZU SS:List aL} {NF Jv:aO} {join:C->(aa ZU).den->(aa SS).den} {je:(id:Nat)->C->(aa (dB NF id)).den->(aa (dB Jv id)).den} {jr:C->(aa NF.ret).den->(aa Jv.ret).den} {jp:C->(aa NF.cw).den->(aa Jv.cw).den} {c:C} {α:Type} (d:α) (m:Option α) (f:α->RQ ZU NF) (g:RQ ZU NF):RQ.lift join je jr jp c (cl d m f g)=cl d m (fun y=>RQ.lift join je jr jp c (f y)) (RQ.lift join je jr jp c g):=by unfold cl; cases m.isSome <;> rfl
def aF {wy:aO} {β:Type} (q:LQ wy) (id:Nat) (f:(aa (dB wy id)).den->β) (g:β):β:=bif (q.eH id) then f (q.dY id) else g
theorem aX {γ:Type} {wy:aO} (q:LQ wy) (id:Nat) (f:(aa (dB wy id)).den->Tree (Option γ)) (g:Tree (Option γ)):Tree.sure (aF q id f g)=aF q id (fun y=>Tree.sure (f y)) (Tree.sure g):=by unfold aF; cases (q.eH id) <;> rfl
theorem gA {γ:Type} (bad:γ) {wy:aO} (q:LQ wy) (id:Nat) (f:(aa (dB wy id)).den->Tree γ) (g:Tree γ):Tree.iZ bad (aF q id f g)=aF q id (fun y=>Tree.iZ bad (f y)) (Tree.iZ bad g):=by unfold aF; cases (q.eH id) <;> rfl
theorem bH {SS:List aL} {Jv:aO} {wy:aO} (q:LQ wy) (id:Nat) (f:(aa (dB wy id)).den->Tree (RQ SS Jv)) (g:Tree (RQ SS Jv)):bu (aF q id f g)=aF q id (fun y=>bu (f y)) (bu g):=by unfold aF; cases (q.eH id) <;> rfl
theorem bI {C:Type} {ZU SS:List aL} {NF Jv:aO} {join:C->(aa ZU).den->(aa SS).den} {je:(id:Nat)->C->(aa (dB NF id)).den->(aa (dB Jv id)).den} {jr:C->(aa NF.ret).den->(aa Jv.ret).den} {jp:C->(aa NF.cw).den->(aa Jv.cw).den} {c:C} {wy:aO} (q:LQ wy) (id:Nat) (f:(aa (dB wy id)).den->RQ ZU NF) (g:RQ ZU NF):RQ.lift join je jr jp c (aF q id f g)=aF q id (fun y=>RQ.lift join je jr jp c (f y)) (RQ.lift join je jr jp c g):=by unfold aF; cases (q.eH id) <;> rfl
def bS {wy:aO} {β:Type} (q:LQ wy) (f:(aa wy.ret).den->β) (g:β):β:=bif q.uF then f q.ZN else g
theorem bz {γ:Type} {wy:aO} (q:LQ wy) (f:(aa wy.ret).den->Tree (Option γ)) (g:Tree (Option γ)):Tree.sure (bS q f g)=bS q (fun y=>Tree.sure (f y)) (Tree.sure g):=by unfold bS; cases q.uF <;> rfl
theorem bT {SS:List aL} {Jv:aO} {wy:aO} (q:LQ wy) (f:(aa wy.ret).den->Tree (RQ SS Jv)) (g:Tree (RQ SS Jv)):bu (bS q f g)=bS q (fun y=>bu (f y)) (bu g):=by unfold bS; cases q.uF <;> rfl
theorem bU {C:Type} {ZU SS:List aL} {NF Jv:aO} {join:C->(aa ZU).den->(aa SS).den} {je:(id:Nat)->C->(aa (dB NF id)).den->(aa (dB Jv id)).den} {jr:C->(aa NF.ret).den->(aa Jv.ret).den} {jp:C->(aa NF.cw).den->(aa Jv.cw).den} {c:C} {wy:aO} (q:LQ wy) (f:(aa wy.ret).den->RQ ZU NF) (g:RQ ZU NF):RQ.lift join je jr jp c (bS q f g)=bS q (fun y=>RQ.lift join je jr jp c (f y)) (RQ.lift join je jr jp c g):=by unfold bS; cases q.uF <;> rfl
def qE {wy:aO} {β:Type} (q:LQ wy) (T:TypeId) (τ:Ty) (f:τ.den×(aa wy.cw).den->β) (g:β):β:=bif (q.mL T τ) then f (q.pR τ,q.KZ) else g
theorem aY {γ:Type} {wy:aO} (q:LQ wy) (T:TypeId) (τ:Ty) (f:τ.den×(aa wy.cw).den->Tree (Option γ)) (g:Tree (Option γ)):Tree.sure (qE q T τ f g)=qE q T τ (fun y=>Tree.sure (f y)) (Tree.sure g):=by unfold qE; cases (q.mL T τ) <;> rfl
theorem gB {γ:Type} (bad:γ) {wy:aO} (q:LQ wy) (T:TypeId) (τ:Ty) (f:τ.den×(aa wy.cw).den->Tree γ) (g:Tree γ):Tree.iZ bad (qE q T τ f g)=qE q T τ (fun y=>Tree.iZ bad (f y)) (Tree.iZ bad g):=by unfold qE; cases (q.mL T τ) <;> rfl
def oQ {mps:List aL} {β:Type} (o:RO mps) (f:(aa mps).den->β) (g:β):β:=bif o.La then f o.NB else g
theorem aZ {γ:Type} {mps:List aL} (o:RO mps) (f:(aa mps).den->Tree (Option γ)) (g:Tree (Option γ)):Tree.sure (oQ o f g)=oQ o (fun y=>Tree.sure (f y)) (Tree.sure g):=by unfold oQ; cases o.La <;> rfl
def RJ {mps:List aL} {β:Type} (o:RO mps) (id:Nat) (f:(aa mps).den->β) (g:β):β:=bif (o.SQ id) then f o.NB else g
theorem bA {γ:Type} {mps:List aL} (o:RO mps) (id:Nat) (f:(aa mps).den->Tree (Option γ)) (g:Tree (Option γ)):Tree.sure (RJ o id f g)=RJ o id (fun y=>Tree.sure (f y)) (Tree.sure g):=by unfold RJ; cases (o.SQ id) <;> rfl
def oR {mps:List aL} {β:Type} (o:RO mps) (f:(aa mps).den->β) (g:β):β:=bif o.uF then f o.NB else g
theorem bf {γ:Type} {mps:List aL} (o:RO mps) (f:(aa mps).den->Tree (Option γ)) (g:Tree (Option γ)):Tree.sure (oR o f g)=oR o (fun y=>Tree.sure (f y)) (Tree.sure g):=by unfold oR; cases o.uF <;> rfl
def Xr {τr:Ty} {qs:List aL} {β:Type} (o:GO τr qs) (f:τr.den×(aa qs).den->β) (g:β):β:=bif o.isOk then f (o.aqW,o.ZQ) else g
theorem bN {γ:Type} {τr:Ty} {qs:List aL} (o:GO τr qs) (f:τr.den×(aa qs).den->Tree (Option γ)) (g:Tree (Option γ)):Tree.sure (Xr o f g)=Xr o (fun y=>Tree.sure (f y)) (Tree.sure g):=by unfold Xr; cases o.isOk <;> rfl
def Dt {τr:Ty} {qs:List aL} {β:Type} (o:GO τr qs) (T:TypeId) (τ:Ty) (f:τ.den×(aa qs).den->β) (g:β):β:=bif (o.mL T τ) then f (o.pR τ,o.ZQ) else g
theorem bg {γ:Type} {τr:Ty} {qs:List aL} (o:GO τr qs) (T:TypeId) (τ:Ty) (f:τ.den×(aa qs).den->Tree (Option γ)) (g:Tree (Option γ)):Tree.sure (Dt o T τ f g)=Dt o T τ (fun y=>Tree.sure (f y)) (Tree.sure g):=by unfold Dt; cases (o.mL T τ) <;> rfl
@[simp] theorem lK {α β:Type} (d r:α) (f:α->β) (g:β):cl d (some r) f g=f r:=rfl
@[simp] theorem Ko {wy:aO} {β:Type} (id:Nat) (y:(aa (dB wy id)).den) (f:(aa (dB wy id)).den->β) (g:β):aF (LQ.exit id y) id f g=f y:=by
 unfold aF
 rw [LQ.rT,LQ.NA,Nat.beq_refl]
 rfl
end Go.Dm
namespace Go.Dm
open Go.RowKit
variable {P:Program} {N N':Nat} {G:Gh} {S S' S2:CS} {w w' w2:World} {s s2:St} {a a2:Act} {ρ ρ' ρ2:fV} {F F' F2:Nat->Prop} {heap heap' H' H2:Nat->aN} {Y:Value} {E:cO} {Γ:Ctx} {Fw:Fence} {r:Nat} {ops:Array Oper} {lo base:Nat} {aS:List gx} {vr Ma:Nat->Nat}
def Gh.inY (G:Gh) (F:Nat->Prop) (M:Nat->Prop) (S:CS) (w:World) (lo:Nat) (fu:Nat->Option Nat):Gh:=⟨M,F,S,w,G.e,G.C,G.items,G.l,G.SI,lo,fu⟩
theorem ajH (hG:G.Ok P) {M:Nat->Prop} {fu:Nat->Option Nat} (hp:∀ id b,fu id=some b->id < lo):(Gh.inY G F M S w lo fu).Ok P:=⟨hG.c,hG.y,hp⟩
theorem SR.ajI (h:SR P N G s a w ρ S F) {lo:Nat}:SR P N (Gh.inY G F (seen w s.heap ρ) S w lo (bP s.heap ρ)) { s with aS:=[] } { a with defers:=[] } w ρ S F:=by
 have Zx:∀ id b,Own w ρ id (s.heap id) b->ve (Gh.inY G F (seen w s.heap ρ) S w lo (bP s.heap ρ)) F b:=fun id b h1=>⟨.inr ⟨id,h1⟩,(h.gD h1).2.1.2⟩
 have vT:∀ id b,live (s.heap id)->ρ id=some b->ve (Gh.inY G F (seen w s.heap ρ) S w lo (bP s.heap ρ)) F b:=fun id b h1 h2=>Zx id b (.of h1 h2)
 refine ⟨h.size,trivial,h.env,fun id=>?_,h.inj,.refl h.bd,fun _ _ q=>.inl q,.refl _ _,h.tr,h.fb,fun _ _ q=>q,fun _ q=>q,h.fs,fun id b hb=>?_⟩
 ·have:=h.obj id
  cases ho:s.heap id with
  | none=>simp only [ho]; trivial
  | gone=>simp only [ho]; trivial
  | box ds =>
   rw [ho] at this
   obtain ⟨b,arr,T,q1,q2,q3⟩:=this
   simp only [ho]
   exact ⟨b,arr,T,q1,vT id b (by rw [ho]; trivial) q1,q3⟩
  | chain cur T k n =>
   rw [ho] at this
   simp only [ho]
   rcases this with ⟨q1,q2⟩ | ⟨b,q1,q2,q3⟩
   ·exact .inl ⟨q1,q2⟩
   ·exact .inr ⟨b,q1,vT id b (by rw [ho]; trivial) q1,q3⟩
  | row cur T e x =>
   rw [ho] at this
   simp only [ho]
   obtain ⟨q0,⟨q1,q2⟩ | ⟨b,arr,q1,q2,q3⟩⟩:=this
   ·exact ⟨q0,.inl ⟨q1,q2⟩⟩
   ·exact ⟨q0,.inr ⟨b,arr,q1,vT id b (by rw [ho]; trivial) q1,q3⟩⟩
  | mp k v m =>
   rw [ho] at this
   obtain ⟨b,es,c,q1,q2,q3⟩:=this
   simp only [ho]
   exact ⟨b,es,c,q1,vT id b (by rw [ho]; trivial) q1,q3⟩
  | rows cur T e d =>
   rw [ho] at this
   simp only [ho]
   obtain ⟨q0,b,arr,T',q1,q2,q3,q4,q5,q6,q7⟩:=this
   refine ⟨q0,b,arr,T',q1,vT id b (by rw [ho]; trivial) q1,q3,q4,q5,q6,fun i hi=>?_⟩
   obtain ⟨ad,cap,z1,z2⟩:=q7 i hi
   refine ⟨ad,cap,z1,z2.imp (fun x=>x) fun ⟨z0,b',gC,Vc,z3,z4,z5,z6⟩=>⟨z0,b',gC,Vc,z3,z4,Zx id b' ?_,z6⟩⟩
   rw [ho]
   exact .inr ⟨i,(d.g i).n - 1,cap,b,arr,T',q1,q3,by rw [<- z3,Nat.sub_add_cancel (by omega)]; exact z1⟩
 ·have hb:bP s.heap ρ id=some b:=hb
  unfold bP at hb
  show ρ id=some b/\dS (s.heap id)=false
  split at hb
  ·rename_i ho; rw [ho]; exact ⟨hb,rfl⟩
  ·rename_i ho; rw [ho]; exact ⟨hb,rfl⟩
  ·rename_i ho; rw [ho]; exact ⟨hb,rfl⟩
  ·rename_i ho; rw [ho]; exact ⟨hb,rfl⟩
  ·cases hb
theorem SR.agt (hG:G.Ok P) (h:SR P N G s a w ρ S F) {D:Nat->Bool} {M:Nat->Prop} {lo:Nat} {fu:Nat->Option Nat} (h2:SR P N' (Gh.inY G F M S w lo fu) s2 a2 w2 ρ2 S2 F2)
  (hM:∀ b,M b->∃ id,D id=true/\Own w ρ id (s.heap id) b) (hD:∀ id,s2.heap id ≠ .none->D id=true)
  (hK:∀ id,D id=true->Kept w w2 ρ ρ2 id (s.heap id) (s2.heap id)) (ajj:∀ id b,D id=true->G.fu id=some b->ρ2 id=some b/\dS (s2.heap id)=false) :
  SR P N G { s with heap:=dD D s2.heap s.heap,tr:=s2.tr } a w2 (dr D ρ2 ρ) S2 F2:=by
 have hMF:∀ b,M b->¬ F b:=fun b hb hF=>by
  obtain ⟨id,_,hl⟩:=hM b hb
  exact (h.gD hl).2.1.2 hF
 have hMA:∀ b,M b->G.w0.heap.size<=b\/G.M b:=fun b hb=>by
  obtain ⟨id,_,hl⟩:=hM b hb
  exact (h.gD hl).2.1.1
 have hf2:∀ b,b < w.heap.size->F2 b->F b:=fun b hb q=>h2.f0 b hb q
 have hsub:∀ b,F b->F2 b:=fun b q=>h2.sub b q
 have hsame:∀ b,b < w.heap.size->¬ M b->¬ F b->w2.heap[b]? = w.heap[b]? := fun b hb hn hf=>h2.same.block b ⟨hb,hn,hf⟩
 have mY:∀ id b,D id=false->Own w ρ id (s.heap id) b->¬ M b:=fun id b hd hl hm=>by
  obtain ⟨id',hd',hl'⟩:=hM b hm
  have:=h.inj id' id b hl' hl
  rw [this,hd] at hd'; cases hd'
 have Fb:∀ id b,D id=false->live (s.heap id)->ρ id=some b->¬ M b:=fun id b hd hl hr=>mY id b hd (.of hl hr)
 have hk:∀ id,Kept w w2 ρ (dr D ρ2 ρ) id (s.heap id) (dD D s2.heap s.heap id):=fun id=>by
  cases hd:D id with
  | true =>
   have:=hK id hd
   have e1:dD D s2.heap s.heap id=s2.heap id:=by simp [dD,hd]
   have e2:dr D ρ2 ρ id=ρ2 id:=by simp [dr,hd]
   rw [e1]
   cases ho:s.heap id with
   | none=>trivial
   | gone=>rw [ho] at this; exact this
   | box ds=>rw [ho] at this; exact this.imp (fun q=>q) fun q=>⟨q.1,e2.trans q.2⟩
   | chain cur T k n =>
    rw [ho] at this
    obtain ⟨cur',n',q1,q2,q3⟩:=this
    exact ⟨cur',n',q1,q2,fun q=>⟨(q3 q).1,e2.trans (q3 q).2.1,(q3 q).2.2⟩⟩
   | row cur T e x=>rw [ho] at this; exact this.imp (fun q=>q) fun ⟨c',x',q1,q2,q3⟩=>⟨c',x',q1,q2,fun q=>⟨(q3 q).1,(q3 q).2.imp (fun z=>e2.trans z) (fun z=>z)⟩⟩
   | mp k v m=>rw [ho] at this; exact this.imp (fun q=>q) fun q=>⟨q.1,e2.trans q.2⟩
   | rows cur T e d=>rw [ho] at this; exact this.imp (fun q=>q) fun ⟨c',d',q1,q2,q3,q4,q5⟩=>⟨c',d',q1,q2,q3,e2.trans q4,q5⟩
  | false =>
   have e1:dD D s2.heap s.heap id=s.heap id:=by simp [dD,hd]
   rw [e1]
   exact .refl (by simp [dr,hd]) fun b hb hl=>hsame b (h.eE hl hb).1 (Fb id b hd hl hb) (h.eE hl hb).2.1.2
 have hm:∀ id,s2.heap id ≠ .none->dD D s2.heap s.heap id=s2.heap id/\dr D ρ2 ρ id=ρ2 id:=fun id hn=>by simp [dD,dr,hD id hn]
 have ex:Ext0 S w S2 w2:=h2.ext
 have Jm:∀ b o,S2 b o->S b o\/w.heap.size<=b\/M b:=h2.new
 have hsz:w.heap.size<=w2.heap.size:=ex.size
 have vT:∀ b,ve (Gh.inY G F M S w lo fu) F2 b->ve G F2 b:=fun b ⟨q,q'⟩=>by
  rcases q with q | q
  ·have q:w.heap.size<=b:=q
   exact ⟨.inl (Nat.le_trans h.ext.size q),q'⟩
  ·exact ⟨hMA b q,q'⟩
 refine ⟨h.size,h.aS.tr hk fun Db hF hDb=>⟨(hsame Db (Array.getElem?_eq_some_iff.1 hDb).1 (fun hm=>?_) hF).trans hDb,fun q=>hF (hf2 Db (Array.getElem?_eq_some_iff.1 hDb).1 q)⟩,fun t=>(h.env t).tr ex hk,fun id=>?_,fun i j b hi hj=>?_,
  h.ext.trans ex,fun b o q=>?_,h.same.trans ⟨h2.same.os,h2.same.tape,h2.same.output,hsz,fun b hb=>?_⟩,h2.tr,
  h2.fb,fun b hb x=>h.f0 b hb (hf2 b (Nat.lt_of_lt_of_le hb h.ext.size) x),fun b x=>hsub b (h.sub b x),h2.fs,fun id b hb=>?_⟩
 ·obtain ⟨id,_,hl⟩:=hM Db hm
  exact (h.gD hl).2.2 hDb
 ·cases hd:D id with
  | false =>
   have e1:dD D s2.heap s.heap id=s.heap id:=by simp [dD,hd]
   show OI P G S2 w2 (dD D s2.heap s.heap) (dr D ρ2 ρ) F2 id (dD D s2.heap s.heap id)
   rw [e1]
   refine (h.obj id).tr ex hk (by simp [dr,hd]) fun b hb=>⟨hsame b (h.gD hb).1 (mY id b hd hb) (h.gD hb).2.1.2,fun i q=>?_,hf2 b (h.gD hb).1⟩
   rcases Jm b i q with q | q | q
   ·exact q
   ·have:=(h.gD hb).1; omega
   ·exact absurd q (mY id b hd hb)
  | true =>
   have e1:dD D s2.heap s.heap id=s2.heap id:=by simp [dD,hd]
   have e2:dr D ρ2 ρ id=ρ2 id:=by simp [dr,hd]
   show OI P G S2 w2 (dD D s2.heap s.heap) (dr D ρ2 ρ) F2 id (dD D s2.heap s.heap id)
   rw [e1]
   have:=h2.obj id
   cases ho:s2.heap id with
   | none=>trivial
   | gone=>trivial
   | box ds =>
    rw [ho] at this
    obtain ⟨b,arr,T,q1,q2,q3,q4,q5⟩:=this
    exact ⟨b,arr,T,e2.trans q1,vT b q2,q3,q4.imp fun d u hd=>hd.move hm,q5⟩
   | chain cur T k n =>
    rw [ho] at this
    rcases this with ⟨q1,q2⟩ | ⟨b,q1,q2,q3⟩
    ·exact .inl ⟨e2.trans q1,q2⟩
    ·exact .inr ⟨b,e2.trans q1,vT b q2,q3⟩
   | row cur T e x =>
    rw [ho] at this
    obtain ⟨q0,⟨q1,q2⟩ | ⟨b,arr,q1,q2,q3⟩⟩:=this
    ·exact ⟨q0,.inl ⟨e2.trans q1,q2⟩⟩
    ·exact ⟨q0,.inr ⟨b,arr,e2.trans q1,vT b q2,q3⟩⟩
   | mp k v m =>
    rw [ho] at this
    obtain ⟨b,es,c,q1,q2,q3⟩:=this
    exact ⟨b,es,c,e2.trans q1,vT b q2,q3⟩
   | rows cur T e x =>
    rw [ho] at this
    obtain ⟨q0,b,arr,T',q1,q2,q3,q4,q5,q6,q7⟩:=this
    refine ⟨q0,b,arr,T',e2.trans q1,vT b q2,q3,q4,q5,q6,fun i hi=>?_⟩
    obtain ⟨ad,cap,z1,z2⟩:=q7 i hi
    exact ⟨ad,cap,z1,z2.imp (fun x=>x) fun ⟨z0,b',gC,Vc,z3,z4,z5,z6⟩=>⟨z0,b',gC,Vc,z3,z4,vT b' z5,z6⟩⟩
 ·have hi:Own w2 (dr D ρ2 ρ) i (dD D s2.heap s.heap i) b:=hi
  have hj:Own w2 (dr D ρ2 ρ) j (dD D s2.heap s.heap j) b:=hj
  have inn:∀ i,D i=true->Own w2 (dr D ρ2 ρ) i (dD D s2.heap s.heap i) b->Own w2 ρ2 i (s2.heap i) b:=fun i di q=>by
   rw [show dD D s2.heap s.heap i=s2.heap i by simp [dD,di]] at q
   exact q.back (by simp [dr,di]) fun _ _ _=>rfl
  have out:∀ i,D i=false->Own w2 (dr D ρ2 ρ) i (dD D s2.heap s.heap i) b->Own w ρ i (s.heap i) b:=fun i di q=>by
   rw [show dD D s2.heap s.heap i=s.heap i by simp [dD,di]] at q
   exact q.back (by simp [dr,di]) fun b q1 q2=>hsame b (h.eE q2 q1).1 (Fb i b di q2 q1) (h.eE q2 q1).2.1.2
  have mixed:∀ i j,D j=false->Own w2 ρ2 i (s2.heap i) b->Own w ρ j (s.heap j) b->False:=fun i j dj li lj=>by
   have hb:=(h.gD lj).1
   rcases (h2.gD li).2.1.1 with q | q
   ·have q:w.heap.size<=b:=q
    omega
   ·exact mY j b dj lj q
  cases di:D i with
  | true =>
   cases dj:D j with
   | true=>exact h2.inj i j b (inn i di hi) (inn j dj hj)
   | false=>exact (mixed i j dj (inn i di hi) (out j dj hj)).elim
  | false =>
   cases dj:D j with
   | true=>exact (mixed j i di (inn j dj hj) (out i di hi)).elim
   | false=>exact h.inj i j b (out i di hi) (out j dj hj)
 ·rcases Jm b o q with q | q | q
  ·exact h.new b o q
  ·exact .inr (.inl (Nat.le_trans h.ext.size q))
  ·exact .inr (hMA b q)
 ·obtain ⟨q1,q2,q3⟩:=hb
  refine hsame b (Nat.lt_of_lt_of_le q1 h.ext.size) (fun q=>?_) fun q=>q3 (h.f0 b q1 q)
  rcases hMA b q with q | q
  ·omega
  ·exact q2 q
 ·show dr D ρ2 ρ id=some b/\dS (dD D s2.heap s.heap id)=false
  cases hd:D id with
  | true =>
   rw [dr,dD,hd,cond_true,cond_true]
   exact ajj id b hd hb
  | false =>
   rw [dr,dD,hd,cond_false,cond_false]
   exact h.pins id b hb
end Go.Dm

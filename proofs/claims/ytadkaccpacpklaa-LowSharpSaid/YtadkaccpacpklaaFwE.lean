/-
 The framework: an interpreter over typed data,and why what it says of a call is true.
-/
import Derived.Test.YtadkaccpacpklaaFwD
import Derived.Shelf.SlSortCmp.Whole1
set_option linter.unusedVariables false
set_option linter.unusedSimpArgs false
namespace Go.Dm
open Go.RowKit
variable {P:Program} {N N':Nat} {G:Gh} {S S' S2:CS} {w w' w2:World} {s s2:St} {a a2:Act} {ρ ρ' ρ2:fV} {F F' F2:Nat->Prop} {heap heap' H' H2:Nat->aN} {Y:Value} {E:cO} {Γ:Ctx} {Fw:Fence} {r:Nat} {ops:Array Oper} {lo base:Nat} {aS:List gx} {vr Ma:Nat->Nat}
inductive GY (e τr:Ty) (qs:List aL) where
 | ok (r:τr.den) (z:Sl e.den) (y:(aa qs).den)
 | stop (r:τr.den) (z:Sl e.den)
 | bt (z:Sl e.den)
 | bad
inductive GY.le {e τr:Ty} {qs:List aL}:GY e τr qs->GY e τr qs->Prop
 | refl {o:GY e τr qs} (h:o ≠ .bad):GY.le o o
 | stop {r:τr.den} {x y:Sl e.den} (h:x.list <+: y.list):GY.le (.stop r x) (.stop r y)
 | bt {x y:Sl e.den} (h:x.list <+: y.list):GY.le (.bt x) (.bt y)
def FB {e τr:Ty} {qs:List aL} (t:Tree (GY e τr qs)) (o:GY e τr qs):Prop:=∃ o',t.Has o'/\GY.le o o'
def NG (P:Program) (fn:Func) (lo:Nat) (e τr:Ty) (ps:List aL) (x:(aa ps).den):Out->GY e τr (aj ps)
 | .ret s | .norm s=>match gH s.aS,jT P fn.results.toList τr (mK fn s),s.tr with
  | true,some r,⟨e',lv,z⟩=>match cZ (σ:=.sl e') (.sl e) z with
   | some z=>match lv with
    | true=>match rd lo (mK fn s) (aj ps) with
     | some y=>match dw ps x y with
      | true=>.ok r z y
      | false=>.bad
     | none=>.bad
    | false=>.stop r z
   | none=>.bad
  | _,_,_=>.bad
 | .cw .jc s=>match s.aS,s.tr with
  | [],⟨e',false,z⟩=>match cZ (σ:=.sl e') (.sl e) z with
   | some z=>.bt z
   | none=>.bad
  | _,_=>.bad
 | _=>.bad
def aiA (P:Program) (E:cO) (Γ:Ctx) (fn:Func) (ls:List Loop) (lo:Nat) (e τr:Ty) (ps:List aL) (x:(aa ps).den):Tree (GY e τr (aj ps)):=
 match fn.body with
 | some c=>gF P E Γ lo fn.ntmps .any c ls (wr lo .none [] ps x) (fun o=>.leaf (NG P fn lo e τr ps x o))
 | none=>.leaf .bad
def GY.or {e τr:Ty} {qs:List aL} (heap:Nat->aN):GY e τr qs->OR
 | .ok r z y=>.ok ⟨some (mR τr r),aT (bL heap) qs y,de qs,false,some ⟨e,true,z⟩⟩
 | .stop r z=>.ok ⟨some (mR τr r),(de qs).map fun i=>(i,aN.gone),de qs,false,some ⟨e,false,z⟩⟩
 | .bt z=>.cw .jc ⟨none,[],[],false,some ⟨e,false,z⟩⟩
 | .bad=>.bad
def th (n:Nat) (e τr:Ty) (ps:List aL) (run:(aa ps).den->Tree (GY e τr (aj ps))) (args:List Slot) (heap:Nat->aN) (tr:Tr) (cv:Nat):Tree OR:=
 match Nat.ble args.length n,rd cv ⟨fun t=>args.getD t .top,heap,tr,0,[]⟩ ps with
 | true,some x=>(run x).map (GY.or heap)
 | _,_=>.leaf .bad
def Lb:gm->Bool
 | .own _ _ _=>true
 | _=>false
def SU (ps:List aL):Bool:=ps.all fun
 | .slot _ c=>!Lb c
 | .box _ cs=>cs.all fun c=>!Lb c
 | _=>true
def wfY (lo:Nat) (ps:List aL):Bool:=jy ps && jy (aj ps) && uA (de (aj ps)) (de ps) && lowIds lo ps && lS ps && !lS (aj ps) && Zt ps && SU ps
theorem FC {c:gm} {x:c.ty.den} (hc:(!Lb c)=true):∀ p∈kF vr c x,dS p.2=false:=by
 intro p hp
 cases c with
 | own id T e=>cases hc
 | rw id T e=>simp only [kF,List.mem_singleton] at hp; subst hp; rfl
 | _=>simp [kF] at hp
theorem Bu:∀ {cs:List gm} {x:(cQ cs).den},(cs.all fun c=>!Lb c)=true->∀ p∈fW vr cs x,dS p.2=false
 | [],_,_,p,hp=>by simp [fW] at hp
 | c :: cs,x,hc,p,hp=>by
  simp only [List.all_cons,Bool.and_eq_true] at hc
  rcases List.mem_append.1 hp with hp | hp
  ·exact FC hc.1 p hp
  ·exact Bu hc.2 p hp
theorem iC:∀ {ps:List aL} {x:(aa ps).den},SU ps=true->∀ p∈aT vr ps x,dS p.2=false
 | [],_,_,p,hp=>by simp [aT] at hp
 | .slot t c :: ps,x,hc,p,hp=>by
  simp only [SU,List.all_cons,Bool.and_eq_true] at hc
  rcases List.mem_append.1 hp with hp | hp
  ·exact FC hc.1 p hp
  ·exact iC (ps:=ps) hc.2 p hp
 | .box id cs :: ps,x,hc,p,hp=>by
  simp only [SU,List.all_cons,Bool.and_eq_true] at hc
  simp only [aT,List.cons_append,List.mem_cons,List.mem_append] at hp
  rcases hp with rfl | hp | hp
  ·rfl
  ·exact Bu hc.1 p hp
  ·exact iC (ps:=ps) hc.2 p hp
 | .row id T e :: ps,x,hc,p,hp=>by
  rcases List.mem_cons.1 hp with rfl | hp
  ·rfl
  ·exact iC (ps:=ps) hc p hp
 | .mp id k v :: ps,x,hc,p,hp=>by
  rcases List.mem_cons.1 hp with rfl | hp
  ·rfl
  ·exact iC (ps:=ps) hc p hp
 | .rows id T e :: ps,x,hc,p,hp=>by
  rcases List.mem_cons.1 hp with rfl | hp
  ·rfl
  ·exact iC (ps:=ps) hc p hp
 | .agg t τ :: ps,x,hc,p,hp=>iC (ps:=ps) (x:=x.2) hc p hp
 | .tr e :: ps,x,hc,p,hp=>iC (ps:=ps) (x:=x.2) hc p hp
def Gh.ja (G:Gh) (F:Nat->Prop) (S:CS) (w:World) (heap:Nat->aN) (ρ:fV) (lo:Nat) (ps:List aL) (x:(aa ps).den):Gh:=
 Gh.inY G F (seen w (bG (aT (fun _=>0) ps x)) (fo G.fu heap ρ)) S w lo (bP (bG (aT (fun _=>0) ps x)) (fo G.fu heap ρ))
theorem FD (hG:G.Ok P) {ps:List aL} {x:(aa ps).den} (hw:lowIds lo ps=true):(G.ja F S w heap ρ lo ps x).Ok P:=by
 have w4:=hw
 simp only [lowIds,Bool.and_eq_true,List.all_eq_true,Nat.blt_eq] at w4
 refine ajH hG fun id b hb=>?_
 have key:∀ o,bG (aT (fun _=>0) ps x) id=o->o ≠ .none->(id,o)∈aT (fun _=>0) ps x:=fun o ho hn=>by subst ho; exact dA hn
 unfold bP at hb
 split at hb
 ·rename_i ho; exact w4.1.1 id (wY (key _ ho (by simp)))
 ·rename_i ho; exact w4.1.2 id (wZ (key _ ho (by simp)))
 ·rename_i ho; exact w4.2 id (Ak (key _ ho (by simp)))
 ·rename_i ho; exact w4.2 id (xb (key _ ho (by simp)))
 ·cases hb
theorem QW (hG:G.Ok P) (h:SR P N G s a w ρ S F) {ps:List aL} {x:(aa ps).den} (hw:wfY lo ps=true) {sv:St} {av:Act} (hv:SR P N' G sv av w ρ S F) (SJ:sv.heap=s.heap) (hx:rd G.lo sv ps=some x)
  {s':St} (q:SR P N' (G.ja F S w s.heap ρ lo ps x) s' a2 w' ρ' S' F') (hd:s'.aS=[]) {y:(aa (aj ps)).den} (hy:rd lo s' (aj ps)=some y) (hs:dw ps x y=true) :
  ∃ Fq,SR P N G { s with heap:=dm s.heap (aT (bL s.heap) (aj ps) y),tr:=s'.tr } a w' Fq S' F':=by
 have wT:=hw
 simp only [wfY,Bool.and_eq_true,Bool.not_eq_true'] at hw
 obtain ⟨⟨⟨⟨⟨⟨⟨w1,w2⟩,w3⟩,w4⟩,w5⟩,w6⟩,w7⟩,w8⟩:=hw
 have w3:=fZ w3
 have Cy:(G.ja F S w s.heap ρ lo ps x).Ok P:=FD hG w4
 obtain ⟨n1,n2⟩:nW (de ps)=true/\nW (de (aj ps))=true:=by
  simp only [jy,Bool.and_eq_true] at w1 w2
  exact ⟨w1.1,w2.1⟩
 have xU:((aT (fun _=>0) ps x).map (·.1)).Nodup:=by rw [dO]; exact eS n1
 have hn2:((aT (bL s.heap) (aj ps) y).map (·.1)).Nodup:=by rw [dO]; exact eS n2
 have h3:=qz Cy q (vr:=bL s.heap) (t:=s'.tr) w2 (by rw [hd]; rfl) (.inr q.tr) (show rd (G.ja F S w s.heap ρ lo ps x).lo s' (aj ps)=some y from hy)
 have xd:=hv.Ai hG
 rw [SJ] at xd
 let D:Nat->Bool:=fun id=>((aT (bL s.heap) (aj ps) y).map (·.1)).any (Nat.beq id)
 have Jt:∀ id,D id=true->∃ o,(id,o)∈aT (bL s.heap) (aj ps) y/\bG (aT (bL s.heap) (aj ps) y) id=o:=fun id hid=>by
  obtain ⟨p,hp,rfl⟩:=List.mem_map.1 (any_beq.1 hid)
  exact ⟨p.2,hp,ff hn2 p hp⟩
 have qC:=kZ hv hx (vr:=fun _=>0)
 rw [SJ] at qC
 have dn:∀ id,D id=true->∃ o0 o,(id,o0)∈aT (fun _=>0) ps x/\bG (aT (fun _=>0) ps x) id=o0/\bG (aT (bL s.heap) (aj ps) y) id=o/\IE (bL s.heap id) o0 o/\QC G.lo s.heap id o0:=fun id hid=>by
  obtain ⟨o,ho,hf⟩:=Jt id hid
  obtain ⟨o0,h1,h2⟩:=js (Ma:=fun _=>0) w7 hs _ ho
  exact ⟨o0,o,h1,ff xU _ h1,hf,h2,qC _ h1⟩
 have hblk:∀ id,live (s.heap id)->dS (s.heap id)=false->Ql (s.heap id)=false->∃ b,ρ id=some b:=fun id hl hc Zv=>by
  have:=h.obj id
  cases ho:s.heap id with
  | none=>rw [ho] at hl; exact hl.elim
  | gone=>rw [ho] at hl; exact hl.elim
  | box ds=>rw [ho] at this; obtain ⟨b,_,_,hb,_⟩:=this; exact ⟨b,hb⟩
  | chain _ _ _ _=>rw [ho] at hc; cases hc
  | row cur T e x=>rw [ho] at Zv; cases Zv
  | mp k v m=>rw [ho] at this; obtain ⟨b,_,_,hb,_⟩:=this; exact ⟨b,hb⟩
  | rows _ T e d=>rw [ho] at this; obtain ⟨_,b,_,_,hb,_⟩:=this; exact ⟨b,hb⟩
 have kM:=h3.pins
 have yE:∀ id b,bP (bG (aT (fun _=>0) ps x)) (fo G.fu s.heap ρ) id=some b->fo (G.ja F S w s.heap ρ lo ps x).fu s'.heap ρ' id=some b:=fun id b hb=>(kM id b hb).1
 have hK:∀ id,D id=true->Kept w w' ρ (fo (G.ja F S w s.heap ρ lo ps x).fu s'.heap ρ') id (s.heap id) (bG (aT (bL s.heap) (aj ps) y) id):=fun id hid=>by
  obtain ⟨o0,o,h1,ID,hf,An,hlk⟩:=dn id hid
  rw [hf]
  cases An with
  | box ds ds' =>
   obtain ⟨Zk,e⟩:=hlk
   obtain ⟨b,hb⟩:=hblk id (by rw [e]; trivial) (by rw [e]; rfl) (by rw [e]; rfl)
   have:=yE id b (by unfold bP; rw [ID]; exact (xd.r1 id (by rw [e]; simp)).trans hb)
   rw [e]
   exact .inr ⟨⟨_,rfl⟩,this.trans hb.symm⟩
  | row u T e a b hn =>
   rcases hlk with ⟨v0,e1⟩ | ⟨e1,e2,e3⟩
   case inr=>rw [e1]; trivial
   have hv:bL s.heap id=v0:=by unfold bL; rw [e1]
   have QJ:fo (G.ja F S w s.heap ρ lo ps x).fu s'.heap ρ' id=ρ id\/a.n=0/\ρ id=none:=by
    have Bq:=h.obj id
    rw [e1] at Bq
    cases hb:ρ id with
    | some bb=>exact .inl (yE id bb (by unfold bP; rw [ID]; exact (xd.r1 id (by rw [e1]; simp)).trans hb))
    | none =>
     obtain ⟨_,⟨_,q⟩ | ⟨b1,_,q,_⟩⟩:=Bq
     ·exact .inr ⟨q,rfl⟩
     ·rw [hb] at q; cases q
   rw [e1]
   exact .inr ⟨_,_,rfl,by omega,fun _=>⟨hn,QJ⟩⟩
  | mp k e m m' =>
   have e1:s.heap id = .mp k e m:=hlk
   obtain ⟨bb,hb⟩:=hblk id (by rw [e1]; trivial) (by rw [e1]; rfl) (by rw [e1]; rfl)
   have:=yE id bb (by unfold bP; rw [ID]; exact (xd.r1 id (by rw [e1]; simp)).trans hb)
   rw [e1]
   exact .inr ⟨⟨_,rfl⟩,this.trans hb.symm⟩
  | rows u T e a b hn =>
   obtain ⟨v0,e1⟩:=hlk
   obtain ⟨bb,hb⟩:=hblk id (by rw [e1]; trivial) (by rw [e1]; rfl) (by rw [e1]; rfl)
   have:=yE id bb (by unfold bP; rw [ID]; exact (xd.r1 id (by rw [e1]; simp)).trans hb)
   have hv:bL s.heap id=v0:=by unfold bL; rw [e1]
   rw [e1]
   exact .inr ⟨_,_,rfl,by omega,hn,this.trans hb.symm,fun q=>by omega⟩
  | chain u T k n n' =>
   rcases hlk with ⟨v,e⟩ | ⟨e1,e2,e3⟩
   ·rw [e]
    have hv:bL s.heap id=v + 1:=by unfold bL; rw [e]
    exact ⟨bL s.heap id,n',rfl,by omega,fun q=>by omega⟩
   ·rw [e1]; trivial
 have kL:=h.agt hG (D:=D) (s2:=wrV (bL s.heap) lo s'.tr [] (aj ps) y) (M:=seen w (bG (aT (fun _=>0) ps x)) (fo G.fu s.heap ρ)) (lo:=lo) (fu:=bP (bG (aT (fun _=>0) ps x)) (fo G.fu s.heap ρ))
  (h3.of_eq rfl rfl rfl hd.symm) (fun b hb=>?_) (fun id hn=>?_) hK (fun id b hid hb=>?_)
 ·have hheap:dm s.heap (aT (bL s.heap) (aj ps) y)=dD D (wrV (bL s.heap) lo s'.tr [] (aj ps) y).heap s.heap:=by
   funext i
   rw [vn hn2]
   rfl
  exact ⟨_,kL.of_eq rfl hheap (gG w6).symm rfl⟩
 ·obtain ⟨id,hl⟩:=hb
  have l1:=Fp hG hv hx (vr:=fun _=>0) id b (by rw [SJ]; exact hl)
  rw [SJ] at l1
  refine ⟨id,?_,l1⟩
  have hne:bG (aT (fun _=>0) ps x) id ≠ .none:=fun e=>by rw [e] at hl; exact hl
  have hmem:id∈de ps:=by rw [<- dO (bB:=fun _=>0) (x:=x)]; exact List.mem_map.2 ⟨_,dA hne,rfl⟩
  show ((aT (bL s.heap) (aj ps) y).map (·.1)).any (Nat.beq id)=true
  rw [dO]
  exact any_beq.2 (w3 ▸ hmem)
 ·have hn:bG (aT (bL s.heap) (aj ps) y) id ≠ .none:=hn
  exact any_beq.2 (List.mem_map.2 ⟨_,dA hn,rfl⟩)
 ·obtain ⟨p1,p2⟩:=h.pins id b hb
  obtain ⟨o0,o,h1,ID,hf,An,hlk⟩:=dn id hid
  have tY:∀ o,s.heap id=o->o ≠ .none->fo G.fu s.heap ρ id=some b:=fun o ho hn=>(xd.r1 id (by rw [ho]; exact hn)).trans p1
  cases An with
  | box ds ds' =>
   obtain ⟨Zk,e⟩:=hlk
   exact kM id b (by show bP _ _ id=some b; unfold bP; rw [ID]; exact tY _ e (by simp))
  | row u T e a b hn =>
   rcases hlk with ⟨v0,e1⟩ | ⟨e1,e2,e3⟩
   ·exact kM id _ (by show bP _ _ id=some _; unfold bP; rw [ID]; exact tY _ e1 (by simp))
   ·have:=hG.fu id _ hb; omega
  | rows u T e a b' hn=>obtain ⟨v0,e1⟩:=hlk; exact kM id _ (by show bP _ _ id=some _; unfold bP; rw [ID]; exact tY _ e1 (by simp))
  | mp k e m m'=>exact kM id _ (by show bP _ _ id=some _; unfold bP; rw [ID]; exact tY _ hlk (by simp))
  | chain u T k n n' =>
   rcases hlk with ⟨v,e⟩ | ⟨e1,e2,e3⟩
   ·rw [e] at p2; cases p2
   ·have:=hG.fu id b hb; omega
theorem VG (s:St) (t:Nat):(rB s t).tr=s.tr:=by
 unfold rB; split
 ·split
  ·split <;> rfl
  ·rfl
 ·split <;> rfl
 ·rfl
theorem FE:∀ (ts:List Nat) (s:St),(er s ts).tr=s.tr
 | [],_=>rfl
 | t :: ts,s=>(FE ts _).trans (VG s t)
theorem adl {Gc:Gh} (h:SR P N Gc s a w ρ S F) (hd:s.aS=[]) (D:Nat->Bool):SR P N Gc ⟨fun _=>.top,fun id=>bif D id then .gone else .none,s.tr,0,[]⟩ a w ρ S F:=by
 have hg:∀ id,(bif D id then aN.gone else .none) = .gone\/(bif D id then aN.gone else .none) = .none:=fun id=>by cases D id <;> simp
 have qV:=h.aS
 rw [hd] at qV
 refine ⟨h.size,?_,fun _=>trivial,fun id=>?_,fun i j b hi hj=>?_,h.ext,h.new,h.same,h.tr,h.fb,h.f0,h.sub,h.fs,fun id b hb=>⟨(h.pins id b hb).1,?_⟩⟩
 ·cases hq:a.defers with
  | nil=>trivial
  | cons d ds=>rw [hq] at qV; exact qV.elim
 ·show OI P Gc S w _ ρ F id (bif D id then aN.gone else .none)
  rcases hg id with e | e <;> rw [e] <;> trivial
 ·have hi:Own w ρ i (bif D i then aN.gone else .none) b:=hi
  rcases hg i with e | e <;> (rw [e] at hi; exact hi.elim)
 ·show dS (bif D id then aN.gone else .none)=false
  rcases hg id with e | e <;> rw [e] <;> rfl
theorem Jw:∀ {l:List Nat} {h:Nat->aN} (i:Nat),dm h (l.map fun i=>(i,aN.gone)) i=bif l.any (Nat.beq i) then .gone else h i
 | [],_,_=>rfl
 | j :: l,h,i=>by
  show dm (ay h j .gone) (l.map fun i=>(i,aN.gone)) i=_
  rw [Jw (l:=l) i]
  simp only [List.any_cons,ay]
  cases l.any (Nat.beq i) <;> cases Nat.beq i j <;> rfl
theorem QX (hG:G.Ok P) (h:SR P N G s a w ρ S F) {ps:List aL} {x:(aa ps).den} (hw:wfY lo ps=true) {sv:St} {av:Act} (hv:SR P N' G sv av w ρ S F) (SJ:sv.heap=s.heap) (hx:rd G.lo sv ps=some x)
  {s':St} (q:SR P N' (G.ja F S w s.heap ρ lo ps x) s' a2 w' ρ' S' F') (hd:s'.aS=[]) :
  ∃ Fq,SR P N G { s with heap:=dm s.heap ((de (aj ps)).map fun i=>(i,aN.gone)),tr:=s'.tr } a w' Fq S' F':=by
 simp only [wfY,Bool.and_eq_true,Bool.not_eq_true'] at hw
 obtain ⟨⟨⟨⟨⟨⟨⟨w1,w2⟩,w3⟩,w4⟩,w5⟩,w6⟩,w7⟩,w8⟩:=hw
 have w3:=fZ w3
 have n1:nW (de ps)=true:=by
  simp only [jy,Bool.and_eq_true] at w1
  exact w1.1
 have xU:((aT (fun _=>0) ps x).map (·.1)).Nodup:=by rw [dO]; exact eS n1
 have xd:=hv.Ai hG
 rw [SJ] at xd
 have qC:=kZ hv hx (vr:=fun _=>0)
 rw [SJ] at qC
 let D:Nat->Bool:=fun id=>(de ps).any (Nat.beq id)
 have Jt:∀ id,D id=true->∃ o,(id,o)∈aT (fun _=>0) ps x/\bG (aT (fun _=>0) ps x) id=o/\dS o=false/\QC G.lo s.heap id o:=fun id hid=>by
  have hm:=any_beq.1 hid
  rw [<- dO (bB:=fun _=>0) (x:=x)] at hm
  obtain ⟨p,hp,rfl⟩:=List.mem_map.1 hm
  exact ⟨p.2,hp,ff xU p hp,iC w8 p hp,qC p hp⟩
 have hnc:∀ id,D id=true->dS (s.heap id)=false:=fun id hid=>by
  obtain ⟨o,h1,h2,h3,h4⟩:=Jt id hid
  cases o with
  | none=>exact h4.elim
  | gone=>exact h4.elim
  | box ds=>obtain ⟨_,e⟩:=h4; rw [e]; rfl
  | row v T e y =>
   rcases h4 with ⟨v,e⟩ | ⟨e,_⟩ <;> (rw [e]; rfl)
  | mp k v m=>rw [show s.heap id=_ from h4]; rfl
  | rows v T e d=>obtain ⟨_,e⟩:=h4; rw [e]; rfl
  | chain _ _ _ _=>cases h3
 have hf:=adl q hd D
 have kL:=h.agt hG (D:=D) (s2:=⟨fun _=>.top,fun id=>bif D id then .gone else .none,s'.tr,0,[]⟩) (M:=seen w (bG (aT (fun _=>0) ps x)) (fo G.fu s.heap ρ)) (lo:=lo) (fu:=bP (bG (aT (fun _=>0) ps x)) (fo G.fu s.heap ρ))
  hf (fun b hb=>?_) (fun id hn=>?_) (fun id hid=>?_) (fun id b hid hb=>?_)
 ·refine ⟨_,kL.of_eq rfl ?_ rfl rfl⟩
  funext i
  show dm s.heap ((de (aj ps)).map fun i=>(i,aN.gone)) i=dD D (fun id=>bif D id then .gone else .none) s.heap i
  rw [Jw,w3]
  show (bif D i then aN.gone else s.heap i)=bif D i then (bif D i then aN.gone else .none) else s.heap i
  cases D i <;> rfl
 ·obtain ⟨id,hl⟩:=hb
  have l1:=Fp hG hv hx (vr:=fun _=>0) id b (by rw [SJ]; exact hl)
  rw [SJ] at l1
  refine ⟨id,?_,l1⟩
  have hne:bG (aT (fun _=>0) ps x) id ≠ .none:=fun e=>by rw [e] at hl; exact hl
  have hmem:id∈de ps:=by rw [<- dO (bB:=fun _=>0) (x:=x)]; exact List.mem_map.2 ⟨_,dA hne,rfl⟩
  exact any_beq.2 hmem
 ·cases hb:D id with
  | true=>rfl
  | false=>exact absurd (show (bif D id then aN.gone else .none) = .none by rw [hb]; rfl) hn
 ·show Kept w w' ρ ρ' id (s.heap id) (bif D id then aN.gone else .none)
  rw [hid,cond_true]
  have hc:=hnc id hid
  cases ho:s.heap id with
  | none=>trivial
  | gone=>rfl
  | chain _ _ _ _=>rw [ho] at hc; cases hc
  | box _=>exact .inl rfl
  | row _ _ _ _=>exact .inl rfl
  | mp _ _ _=>exact .inl rfl
  | rows _ _ _ _=>exact .inl rfl
 ·obtain ⟨o,h1,h2,h3,h4⟩:=Jt id hid
  have tY:fo G.fu s.heap ρ id=some b:=by unfold fo; rw [hb]
  refine hf.pins id b ?_
  show bP (bG (aT (fun _=>0) ps x)) (fo G.fu s.heap ρ) id=some b
  unfold bP
  rw [h2]
  cases o with
  | box ds=>exact tY
  | row v T e y=>exact tY
  | mp k v m=>exact tY
  | rows v T e d=>exact tY
  | chain _ _ _ _=>cases h3
  | none=>exact h4.elim
  | gone=>exact h4.elim
theorem Kp (hm:P.follows .mixedOrders=true) (hΓ:Sound P Γ) (hE:fI P E.eq) (hK:ez P E.key) {f:FuncId} {fn:Func} {c:Code} (hf:P.funcs[f]? = some fn) (hb:fn.body=some c) {ls:List Loop}
    {e τr:Ty} {ps:List aL} (hw:wfY lo ps=true) (hl:∀ G':Gh,G'.lo=lo->Env P E Γ G' Fence.wide->iW P fn.ntmps G' f Fence.wide 0 c ls)
    {run:(aa ps).den->Tree (GY e τr (aj ps))} (hrun:∀ x,(∀ go,(run x).Has go->go ≠ .bad)->(aiA P E Γ fn ls lo e τr ps x).kE (FB (run x))) :
    fH P f (th fn.ntmps e τr ps run):=by
  intro N G s a w ρ S F hG h args us cv hlen hargs hlo hall ajJ
  unfold th at hall ajJ ⊢
  split at hall
  case h_2=>exact (hall .bad rfl rfl).elim
  rename_i x hn hx
  simp only [hn,hx] at ajJ ⊢
  have hx:=KU hlo hx
  have wT:=hw
  simp only [wfY,Bool.and_eq_true,Bool.not_eq_true'] at hw
  obtain ⟨⟨⟨⟨⟨⟨⟨w1,w2⟩,w3⟩,w4⟩,w5⟩,w6⟩,w7⟩,w8⟩:=hw
  have cC:∀ go,(run x).Has go->go ≠ .bad:=fun go Pu e=>by
    subst e
    exact hall _ (Tree.dz (f:=GY.or s.heap) Pu) rfl
  have wM:us.length<=fn.ntmps:=by rw [<- hlen]; exact Nat.le_of_ble_eq_true hn
  have hv:SR P fn.ntmps G ⟨fun t=>args.getD t .top,s.heap,s.tr,0,[]⟩ (lV fn.ntmps us) w ρ S F:=by
    refine ⟨ld wM,trivial,fun t=>?_,h.obj,h.inj,h.ext,h.new,h.same,h.tr,h.fb,h.f0,h.sub,h.fs,h.pins⟩
    rw [nH]
    by_cases ht:t < args.length
    · have e1:args.getD t .top=args[t]:=by simp [List.getD_eq_getElem?_getD,ht]
      have e2:us.getD t undef=us[t]'(by omega):=by simp [List.getD_eq_getElem?_getD,show t < us.length by omega]
      show RS P G.Y S w s.heap ρ (args.getD t .top) _
      rw [e1,e2]
      exact hargs t _ _ (List.getElem?_eq_getElem ht) (List.getElem?_eq_getElem _)
    · have e1:args.getD t .top = .top:=by simp [List.getD_eq_getElem?_getD,show args.length<=t by omega]
      show RS P G.Y S w s.heap ρ (args.getD t .top) _
      rw [e1]; trivial
  have h1:=qz hG hv (vr:=fun _=>0) (t:=s.tr) w1 rfl (.inr h.tr) hx
  have h2:SR P fn.ntmps (G.ja F S w s.heap ρ lo ps x) (wr lo .none [] ps x) (lV fn.ntmps us) w (fo G.fu s.heap ρ) S F:=
    (h1.ajI (lo:=lo)).of_eq rfl rfl ((nc hx w5).trans (nc hx w5).symm) rfl
  have Cy:(G.ja F S w s.heap ρ lo ps x).Ok P:=FD hG w4
  have sY:Env P E Γ (G.ja F S w s.heap ρ lo ps x) Fence.wide:=⟨hm,hΓ,hE,hK,Cy,.wide,fun _=>rfl⟩
  have hR:=hrun x cC
  unfold aiA at hR
  rw [hb] at hR
  simp only at hR
  have hyg:∀ z,(run x).Has (.bt z)->∀ z':Sl G.e.den,(⟨e,false,z⟩:Tr)=⟨G.e,false,z'⟩->z'.list <+: G.items:=fun z hz=>ajJ _ (Tree.dz (f:=GY.or s.heap) hz)
  refine (callsIn_wide (n:=0)).1 (fN hf hb trivial ?_)
  refine dG (dy (G:=G.ja F S w s.heap ρ lo ps x) (K:=fun o=>Tree.leaf (NG P fn lo e τr ps x o)) (ch:=Tree.any) (T:=fun t:Tree (GY e τr (aj ps))=>t.kE (FB (run x))) sY
    (fun a b q=>q) ⟨fun q=>?_,fun s' q zz hzz=>?_⟩ hR (hl _ rfl sY) ⟨_,_,_,h2⟩) ?_
  · obtain ⟨o',_,hle⟩:=q
    cases hle with
    | refl hh=>exact hh rfl
  · have q:FB (run x) (NG P fn lo e τr ps x (.cw .jc s')):=q
    simp only [NG] at q
    split at q
    case h_2=>obtain ⟨o',_,hle⟩:=q; cases hle with | refl hh=>exact (hh rfl).elim
    rename_i e' z hd htr
    split at q
    case h_2=>obtain ⟨o',_,hle⟩:=q; cases hle with | refl hh=>exact (hh rfl).elim
    rename_i z1 hc
    obtain ⟨he,Qq⟩:=bK hc
    cases he
    have Qq:z1=z:=Qq
    subst Qq
    obtain ⟨o',ho',hle⟩:=q
    have hzz:s'.tr=⟨G.e,false,zz⟩:=hzz
    cases hle with
    | refl hh=>exact QG (List.prefix_refl _) (htr.symm.trans hzz) (hyg _ ho')
    | bt hh=>exact QG hh (htr.symm.trans hzz) (hyg _ ho')
  rintro en a' w' ⟨o,ho,hT⟩
  have fin:∀ s',SX P fn.ntmps (G.ja F S w s.heap ρ lo ps x) s' a' w'->FB (run x) (NG P fn lo e τr ps x (.ret s')) ->
      LeavesInM Fence.wide 0 P fn a'.tmps (fun en w'=>∃ r,((run x).map (GY.or s.heap)).Has r/\yf P N G s a r en w') a'.defers .returning w':=by
    intro s' hs' hT
    have dF:¬ FB (run x) (.bad:GY e τr (aj ps)):=fun ⟨o',_,hle⟩=>by cases hle with | refl hh=>exact hh rfl
    simp only [NG] at hT
    split at hT
    case h_2=>exact (dF hT).elim
    rename_i r e' lv z hmk Nu htr
    split at hT
    case h_2=>exact (dF hT).elim
    rename_i z1 hc
    obtain ⟨he,Qq⟩:=bK hc
    cases he
    have Qq:z1=z:=Qq
    subst Qq
    obtain ⟨ρ',S',F',hs⟩:=hs'.er Cy (rP fn.results.toList)
    have aqX:(mK fn s').tr=s'.tr:=FE _ _
    refine gr Cy (by simp) _ rfl (by rw [iB]; exact hmk) hs fun w'' q1 _=>?_
    obtain ⟨us',r1,r2⟩:=jH (s:={ mK fn s' with aS:=[] }) (fn:=fn) (τ:=τr) (y:=r) q1 ((qA ..).trans Nu)
    cases lv with
    | true =>
      simp only at hT
      split at hT
      case h_2=>exact (dF hT).elim
      rename_i y hrd
      split at hT
      case h_2=>exact (dF hT).elim
      rename_i hsm
      obtain ⟨o',ho',hle⟩:=hT
      cases hle with
      | refl hh =>
      obtain ⟨Fq,hb⟩:=QW hG h wT hv rfl hx (s':={ mK fn s' with aS:=[] }) q1 rfl ((KV _ _).trans hrd) hsm
      exact ⟨_,r1,_,Tree.dz (f:=GY.or s.heap) ho',pack us',Fq,S',F',rfl,hb.of_eq rfl rfl (aqX.trans htr).symm rfl,nS r2⟩
    | false =>
      simp only at hT
      obtain ⟨Fq,hb⟩:=QX hG h wT hv rfl hx (s':={ mK fn s' with aS:=[] }) q1 rfl
      have key:∀ z2:Sl e.den,z1.list <+: z2.list->SR P N G { s with heap:=dm s.heap ((de (aj ps)).map fun i=>(i,aN.gone)),tr:=⟨e,false,z2⟩ } a w'' Fq S' F':=fun z2 hp=>by
        refine ⟨hb.size,hb.aS,hb.env,hb.obj,hb.inj,hb.ext,hb.new,hb.same,?_,hb.fb,hb.f0,hb.sub,hb.fs,hb.pins⟩
        obtain ⟨lv,z3,hz3,hJ⟩:=hb.tr
        have hz3:(mK fn s').tr=⟨G.e,lv,z3⟩:=hz3
        rw [aqX,htr] at hz3
        cases hz3
        obtain ⟨l',g1,g2⟩:=hJ
        exact ⟨false,z2,rfl,l',g1.trans hp,g2⟩
      obtain ⟨o',ho',hle⟩:=hT
      cases hle with
      | refl hh=>exact ⟨_,r1,_,Tree.dz (f:=GY.or s.heap) ho',pack us',Fq,S',F',rfl,key _ (List.prefix_refl _),nS r2⟩
      | stop hh=>exact ⟨_,r1,_,Tree.dz (f:=GY.or s.heap) ho',pack us',Fq,S',F',rfl,key _ hh,nS r2⟩
  have dF:¬ FB (run x) (.bad:GY e τr (aj ps)):=fun ⟨o',_,hle⟩=>by cases hle with | refl hh=>exact hh rfl
  cases o with
  | norm s'=>cases en <;> first | exact ho.elim | exact fin s' ho hT
  | ret s'=>cases en <;> first | exact ho.elim | exact fin s' ho hT
  | exit id s'=>exact (dF hT).elim
  | bad=>exact (dF hT).elim
  | cw d s' =>
    cases en <;> try exact ho.elim
    rename_i ch
    cases d with
    | jc =>
      have hT:FB (run x) (NG P fn lo e τr ps x (.cw .jc s')):=hT
      simp only [NG] at hT
      split at hT
      case h_2=>exact (dF hT).elim
      rename_i e' z hd htr
      split at hT
      case h_2=>exact (dF hT).elim
      rename_i z1 hc
      obtain ⟨he,Qq⟩:=bK hc
      cases he
      have Qq:z1=z:=Qq
      subst Qq
      obtain ⟨F',S',z3,l',hz3,g1,g2,hfw,qV⟩:=ho
      have hz3:s'.tr=⟨G.e,false,z3⟩:=hz3
      rw [htr] at hz3
      cases hz3
      have qV:=qV hd
      have aqY:FW G F' w':=by
        refine ⟨h.ext.kps.trans (hfw.kps.mono h.ext.sub),h.same.trans (hfw.same.mono fun b hb=>⟨Nat.lt_of_lt_of_le hb.1 h.ext.size,fun hs=>?_,fun q=>hb.2.2 (h.f0 b hb.1 q)⟩),hfw.fb,fun b hb q=>h.f0 b hb (hfw.f0 b (Nat.lt_of_lt_of_le hb h.ext.size) q),fun b q=>hfw.sub b (h.sub b q)⟩
        obtain ⟨id,hl⟩:=hs
        have l1:=Fp hG hv hx (vr:=fun _=>0) id b hl
        have:=(hv.gD l1).2.1.1
        rcases this with q | q
        · have:=hb.1; omega
        · exact hb.2.1 q
      have hdf:s.aS=[]->a.defers=[]:=fun e=>by
        have:=h.aS
        rw [e] at this
        cases hq:a.defers with
        | nil=>rfl
        | cons d ds=>rw [hq] at this; exact this.elim
      show LeavesInM _ _ _ _ _ _ a'.defers (.panicking ch) w'
      rw [qV]
      obtain ⟨o',ho',hle⟩:=hT
      cases hle with
      | refl hh=>exact ⟨_,Tree.dz (f:=GY.or s.heap) ho',ch,rfl,F',S',_,l',rfl,g1,g2,aqY,hdf⟩
      | bt hh=>exact ⟨_,Tree.dz (f:=GY.or s.heap) ho',ch,rfl,F',S',_,l',rfl,g1.trans hh,g2,aqY,hdf⟩
    | _=>exact (dF hT).elim
end Go.Dm
namespace Go.Dm
open Go.RowKit
variable {P:Program} {N:Nat} {G:Gh} {w w':World} {s:St} {a:Act} {E:cO} {Γ:Ctx} {Fw:Fence} {r:Nat} {lo:Nat} {aS:List gx} {fid:FuncId}
theorem Tree.kE.imp {α:Type} {p q:α->Prop}:∀ {t:Tree α},t.kE p->(∀ a,p a->q a)->t.kE q
 | .leaf _,h,hi=>hi _ h
 | .br b l r,h,hi=>by
  cases b with
  | true=>have:=Tree.kE.imp (t:=l) (by simpa [Tree.kE] using h) hi; simpa [Tree.kE] using this
  | false=>have:=Tree.kE.imp (t:=r) (by simpa [Tree.kE] using h) hi; simpa [Tree.kE] using this
 | .any _ _,h,hi=>⟨Tree.kE.imp h.1 hi,Tree.kE.imp h.2 hi⟩
def ylT {e:Ty} (id:Nat) (qs:List aL) (y:(aa qs).den) (rq:List aL) (sy:(aa rq).den) (z:Sl e.den):Tree LO:=.any (.leaf (.exit id qs y)) (.any (.leaf (.jF e z rq sy)) (.leaf (.bt e z)))
section
variable {ps:List aL} {wy:aO} {step:(aa ps).den->RQ ps wy}
def uG (step:(aa ps).den->RQ ps wy):Nat->(aa ps).den->Nat
 | 0,_=>0
 | n + 1,x=>match step x with
  | .next x'=>uG step n x' + 1
  | _=>0
theorem FF:∀ (n:Nat) (x:(aa ps).den),aH step n x ≠ .bad->aH step (n + 1) x=aH step n x/\uG step (n + 1) x=uG step n x
 | 0,x,h=>absurd rfl h
 | n + 1,x,h=>by
  cases hs:step x with
  | next x' =>
   have e1:∀ m,aH step (m + 1) x=aH step m x':=fun m=>by simp only [aH,hs]
   have e2:∀ m,uG step (m + 1) x=uG step m x' + 1:=fun m=>by simp only [uG,hs]
   rw [e1] at h
   obtain ⟨h1,h2⟩:=FF n x' h
   rw [e1,e1,e2,e2,h1,h2]
   exact ⟨rfl,rfl⟩
  | out q=>exact ⟨by simp only [aH,hs],by simp only [uG,hs]⟩
  | bad=>simp only [aH,hs] at h; exact absurd rfl h
def YOk {e:Ty} (ex:Nat) (sS:(aa ps).den->Sl e.den) (oN:(aa (dB wy ex)).den->Sl e.den) (rq:List aL) (sy:(aa rq).den) (q:RQ ps wy) (r:SG ps):Prop:=match q with
 | .next x'=>r = .next x'\/∃ o,r = .out o/\(LO.le o (.jF e (sS x') rq sy)\/LO.le o (.bt e (sS x')))
 | .out q=>q.eH ex=true/\∃ o,r = .out o/\(o = .exit ex (dB wy ex) (q.dY ex)\/LO.le o (.jF e (oN (q.dY ex)) rq sy)\/LO.le o (.bt e (oN (q.dY ex))))
 | .bad=>False
def agu {e:Ty} (ex:Nat) (sS:(aa ps).den->Sl e.den) (oN:(aa (dB wy ex)).den->Sl e.den) (x:(aa ps).den) (q:RQ ps wy):Prop:=match q with
 | .next x'=>(sS x).list <+: (sS x').list
 | .out q=>q.eH ex=true->(sS x).list <+: (oN (q.dY ex)).list
 | .bad=>True
theorem vC {e:Ty} {ex:Nat} {sS:(aa ps).den->Sl e.den} {oN:(aa (dB wy ex)).den->Sl e.den} (hg:∀ x,agu ex sS oN x (step x)):∀ (n:Nat) (x:(aa ps).den),(aH step n x).eH ex=true->(sS x).list <+: (oN ((aH step n x).dY ex)).list
 | 0,x,h=>by cases h
 | n + 1,x,h=>by
  have hgx:=hg x
  cases hs:step x with
  | next x' =>
   have e1:aH step (n + 1) x=aH step n x':=by simp only [aH,hs]
   rw [hs] at hgx
   rw [e1] at h ⊢
   exact List.IsPrefix.trans hgx (vC hg n x' h)
  | out q =>
   have e1:aH step (n + 1) x=q:=by simp only [aH,hs]
   rw [hs] at hgx
   rw [e1] at h ⊢
   exact hgx h
  | bad =>
   have e1:aH step (n + 1) x = .bad:=by simp only [aH,hs]
   rw [e1] at h; cases h
def yF {e:Ty} (ex:Nat) (oN:(aa (dB wy ex)).den->Sl e.den) (rq:List aL) (sy:(aa rq).den) (q:LQ wy):Tree LO:=.br (q.eH ex) (ylT ex (dB wy ex) (q.dY ex) rq sy (oN (q.dY ex))) (.leaf .bad)
theorem We (hE:Env P E Γ G Fw) (hlo:G.lo=lo) {body:Code} {ls:List Loop} (hls:iW P N G fid Fw r body ls) (hps:WU aS true ps=true) (hwy:wy.wf aS true=true) {e:Ty} {ex:Nat} {sS:(aa ps).den->Sl e.den} {oN:(aa (dB wy ex)).den->Sl e.den} {rq:List aL} (hrq:lS rq=false) {sy:(aa rq).den}
  (QH:∀ x,step x ≠ .bad->(Px true P E Γ lo N aS ps wy body ls x).kE (YOk ex sS oN rq sy (step x))) (hg:∀ x,agu ex sS oN x (step x)) (n:Nat) :
  gX P N G fid Fw r (.loop body) (Dd lo aS ps fun x=>yF ex oN rq sy (aH step n x)):=by
 subst hlo
 refine adb hE (tr:=true) (.inl rfl) hls hps hwy (fun x=>yF ex oN rq sy (aH step n x)) (uG step n) fun x hf=>?_
 have hq:(aH step n x).eH ex=true:=by
  cases h:(aH step n x).eH ex with
  | true=>rfl
  | false=>exact absurd rfl (hf .bad (by unfold yF; rw [h]; rfl))
 have ajE:∀ {y:(aa ps).den},(aH step n y).eH ex=true->∀ o,(yF ex oN rq sy (aH step n y)).Has o↔(ylT ex (dB wy ex) ((aH step n y).dY ex) rq sy (oN ((aH step n y).dY ex))).Has o:=fun {y} h o=>by
  unfold yF; rw [h]; exact Iff.rfl
 have cov:∀ o,(∃ o',(ylT ex (dB wy ex) ((aH step n x).dY ex) rq sy (oN ((aH step n x).dY ex))).Has o'/\LO.le o o')->KQ (yF ex oN rq sy (aH step n x)) o:=fun o ⟨o',h1,h2⟩=>⟨o',(ajE hq o').2 h1,h2⟩
 cases n with
 | zero=>cases hq
 | succ m =>
  have hne:step x ≠ .bad:=fun e=>by simp only [aH,e] at hq; cases hq
  refine Tree.kE.imp (QH x hne) fun r hr=>?_
  cases hs:step x with
  | next x' =>
   rw [hs] at hr
   have e1:aH step (m + 1) x=aH step m x':=by simp only [aH,hs]
   have at2:aH step m x' ≠ .bad:=fun e=>by rw [e1,e] at hq; cases hq
   obtain ⟨e2,e3⟩:=FF m x' at2
   have hx':aH step (m + 1) x'=aH step (m + 1) x:=e2.trans e1.symm
   have hp:(sS x').list <+: (oN ((aH step (m + 1) x).dY ex)).list:=by
    rw [<- hx']; exact vC hg (m + 1) x' (by rw [hx']; exact hq)
   rcases hr with rfl | ⟨o,rfl,hr | hr⟩
   ·refine ⟨?_,fun o ho=>?_⟩
    ·rw [e3]; show uG step m x' < uG step (m + 1) x
     simp only [uG,hs]; omega
    ·have ho:(yF ex oN rq sy (aH step (m + 1) x')).Has o:=ho
     rw [hx'] at ho
     exact ⟨o,ho,.refl (hf o ho)⟩
   ·exact cov o ⟨_,.inr (.inl rfl),LO.le_trans hr (.jF hrq hp)⟩
   ·exact cov o ⟨_,.inr (.inr rfl),LO.le_trans hr (.bt hp)⟩
  | out q =>
   rw [hs] at hr
   have e1:aH step (m + 1) x=q:=by simp only [aH,hs]
   obtain ⟨_,o,rfl,hr⟩:=hr
   rw [e1] at cov
   have cov:=cov o
   rcases hr with rfl | hr | hr
   ·show KQ (yF ex oN rq sy (aH step (m + 1) x)) _
    rw [e1]; exact cov ⟨_,.inl rfl,.refl (by simp)⟩
   ·show KQ (yF ex oN rq sy (aH step (m + 1) x)) _
    rw [e1]; exact cov ⟨_,.inr (.inl rfl),hr⟩
   ·show KQ (yF ex oN rq sy (aH step (m + 1) x)) _
    rw [e1]; exact cov ⟨_,.inr (.inr rfl),hr⟩
  | bad=>exact absurd hs hne
end
inductive YR (ps qs rq:List aL) (e:Ty) where
 | next (x:(aa ps).den)
 | exit (y:(aa qs).den)
 | stop (z:Sl e.den) (y:(aa rq).den)
 | bt (z:Sl e.den)
 | bad
def YR.res {ps qs rq:List aL} {e:Ty} (id:Nat):YR ps qs rq e->SG ps
 | .next x=>.next x
 | .exit y=>.out (.exit id qs y)
 | .stop z y=>.out (.jF e z rq y)
 | .bt z=>.out (.bt e z)
 | .bad=>.out .bad
def YR.rq {ps rq:List aL} {wy:aO} {e:Ty} (id:Nat):YR ps (dB wy id) rq e->RQ ps wy
 | .next x=>.next x
 | .exit y=>.out (.exit id y)
 | _=>.bad
def GY.opt {e τr:Ty} {qs:List aL}:GY e τr qs->Option (Ty.den (.cons (.sl e) (aa qs)))
 | .ok _ z y=>some (z,y)
 | _=>none
def yT {e:Ty} {qs:List aL} (o:Option (Ty.den (.cons (.sl e) (aa qs)))):Tree (GY e (.cons .bool .nil) qs):=
  .br o.isSome (.any (.leaf (.ok (true,()) (o.getD (Ty.dflt (.cons (.sl e) (aa qs)))).1 (o.getD (Ty.dflt (.cons (.sl e) (aa qs)))).2))
    (.any (.leaf (.stop (false,()) (o.getD (Ty.dflt (.cons (.sl e) (aa qs)))).1)) (.leaf (.bt (o.getD (Ty.dflt (.cons (.sl e) (aa qs)))).1)))) (.leaf .bad)
theorem abg {e:Ty} {qs:List aL} {o:Option (Ty.den (.cons (.sl e) (aa qs)))} (h:∀ go,(yT o).Has go->go ≠ .bad):∃ z y,o=some (z,y):=by
 cases o with
 | none=>exact absurd rfl (h .bad rfl)
 | some p=>exact ⟨p.1,p.2,rfl⟩
theorem RK {f:FuncId} {n:Nat} {e:Ty} {ps:List aL}:fH P f (th n e (.cons .bool .nil) ps fun _=>yT none):=by
 intro N G s a w ρ S F hG h args us cv hlen hargs hlo hall _
 exfalso
 unfold th at hall
 split at hall
 case h_2=>exact hall .bad rfl rfl
 exact hall .bad rfl rfl
theorem uH {α:Type} (a:Sl α):a.list <+: a.list:=List.prefix_refl _
theorem abh {α:Type} (a:Sl α) (x:α):a.list <+: (cK a ⟨1,fun _=>x⟩).list:=by rw [jC]; exact List.prefix_append _ _
section
variable {ps:List aL} {wy:aO} {e:Ty} {ex:Nat} {sS:(aa ps).den->Sl e.den} {oN:(aa (dB wy ex)).den->Sl e.den} {rq:List aL} {sy:(aa rq).den} {b:Sl e.den}
def YGb (ex:Nat) (sS:(aa ps).den->Sl e.den) (oN:(aa (dB wy ex)).den->Sl e.den) (b:Sl e.den) (q:RQ ps wy):Prop:=match q with
 | .next x'=>b.list <+: (sS x').list
 | .out q=>q.eH ex=true->b.list <+: (oN (q.dY ex)).list
 | .bad=>True
def KR (sS:(aa ps).den->Sl e.den) (oN:(aa (dB wy ex)).den->Sl e.den) (rq:List aL) (sy:(aa rq).den) (b:Sl e.den) (a:RQ ps wy) (t:Tree (SG ps)):Prop:=
 (a ≠ .bad->t.kE (YOk ex sS oN rq sy a))/\YGb ex sS oN b a
theorem KR.bif {c:Bool} {a a':RQ ps wy} {t t':Tree (SG ps)} (h1:KR sS oN rq sy b a t) (h2:KR sS oN rq sy b a' t'):KR sS oN rq sy b (bif c then a else a') (bif c then t else t'):=by cases c <;> assumption
theorem KR.cl {α:Type} {d:α} {m:Option α} {f:α->RQ ps wy} {g:RQ ps wy} {f':α->Tree (SG ps)} {g':Tree (SG ps)} (h1:∀ u,m=some u->KR sS oN rq sy b (f u) (f' u)) (h2:KR sS oN rq sy b g g'):KR sS oN rq sy b (Go.Dm.cl d m f g) (Go.Dm.cl d m f' g'):=by
 unfold Go.Dm.cl
 cases m with
 | none=>exact h2
 | some u=>exact h1 u rfl
theorem KR.bad {t:Tree (SG ps)}:KR sS oN rq sy b .bad t:=⟨fun h=>absurd rfl h,trivial⟩
theorem KR.next {x:(aa ps).den} (h:b.list <+: (sS x).list):KR sS oN rq sy b (.next x) (.leaf (.next x)):=⟨fun _=>.inl rfl,h⟩
theorem KR.exit {y:(aa (dB wy ex)).den} (h:b.list <+: (oN y).list):KR sS oN rq sy b (.out (.exit ex y)) (.leaf (.out (.exit ex (dB wy ex) y))):=
 ⟨fun _=>⟨Nat.beq_refl ex,_,rfl,.inl (by rw [LQ.rT])⟩,fun _=>by rw [LQ.rT]; exact h⟩
theorem KR.any {a:RQ ps wy} {t:Tree (SG ps)} {z:Sl e.den} (hrq:lS rq=false) (hz:b.list <+: z.list) (h:KR sS oN rq sy z a t):KR sS oN rq sy b a (.any t (.any (.leaf (.out (.jF e z rq sy))) (.leaf (.out (.bt e z))))):=by
 obtain ⟨h1,h2⟩:=h
 refine ⟨fun hne=>⟨h1 hne,?_,?_⟩,?_⟩
 ·show YOk ex sS oN rq sy a (.out (.jF e z rq sy))
  have:=h1 hne
  cases a with
  | next x'=>exact .inr ⟨_,rfl,.inl (.jF hrq h2)⟩
  | out q =>
   have hq:q.eH ex=true:=by
    have:∀ {t:Tree (SG ps)},t.kE (YOk ex sS oN rq sy (.out q))->q.eH ex=true:=by
     intro t
     induction t with
     | leaf r=>exact fun h=>h.1
     | br b l r i1 i2=>intro h; cases b with
      | true=>exact i1 (by simpa [Tree.kE] using h)
      | false=>exact i2 (by simpa [Tree.kE] using h)
     | any l r i1 i2=>exact fun h=>i1 h.1
    exact this (h1 hne)
   exact ⟨hq,_,rfl,.inr (.inl (.jF hrq (h2 hq)))⟩
  | bad=>exact absurd rfl hne
 ·show YOk ex sS oN rq sy a (.out (.bt e z))
  cases a with
  | next x'=>exact .inr ⟨_,rfl,.inr (.bt h2)⟩
  | out q =>
   have hq:q.eH ex=true:=by
    have:∀ {t:Tree (SG ps)},t.kE (YOk ex sS oN rq sy (.out q))->q.eH ex=true:=by
     intro t
     induction t with
     | leaf r=>exact fun h=>h.1
     | br b l r i1 i2=>intro h; cases b with
      | true=>exact i1 (by simpa [Tree.kE] using h)
      | false=>exact i2 (by simpa [Tree.kE] using h)
     | any l r i1 i2=>exact fun h=>i1 h.1
    exact this (h1 hne)
   exact ⟨hq,_,rfl,.inr (.inr (.bt (h2 hq)))⟩
  | bad=>exact absurd rfl hne
 ·cases a with
  | next x'=>exact hz.trans h2
  | out q=>exact fun hq=>hz.trans (h2 hq)
  | bad=>trivial
end
section
variable {e:Ty} {qs:List aL} {b:Sl e.den}
def KG (b:Sl e.den) (a:Option (Ty.den (.cons (.sl e) (aa qs)))) (t:Tree (GY e (.cons .bool .nil) qs)):Prop:=∀ z y,a=some (z,y)->b.list <+: (show Sl e.den from z).list/\t.kE (FB (yT a))
theorem KG.bif {c:Bool} {a a':Option (Ty.den (.cons (.sl e) (aa qs)))} {t t':Tree (GY e (.cons .bool .nil) qs)} (h1:KG b a t) (h2:KG b a' t'):KG b (bif c then a else a') (bif c then t else t'):=by cases c <;> assumption
theorem KG.cl {α:Type} {d:α} {m:Option α} {f:α->Option (Ty.den (.cons (.sl e) (aa qs)))} {g:Option (Ty.den (.cons (.sl e) (aa qs)))} {f':α->Tree (GY e (.cons .bool .nil) qs)} {g':Tree (GY e (.cons .bool .nil) qs)} (h1:∀ u,m=some u->KG b (f u) (f' u)) (h2:KG b g g'):KG b (Go.Dm.cl d m f g) (Go.Dm.cl d m f' g'):=by
 unfold Go.Dm.cl
 cases m with
 | none=>exact h2
 | some u=>exact h1 u rfl
theorem KG.aF {wy:aO} {q:LQ wy} {id:Nat} {f:(aa (dB wy id)).den->Option (Ty.den (.cons (.sl e) (aa qs)))} {g:Option (Ty.den (.cons (.sl e) (aa qs)))} {f':(aa (dB wy id)).den->Tree (GY e (.cons .bool .nil) qs)} {g':Tree (GY e (.cons .bool .nil) qs)}
  (h1:q.eH id=true->KG b (f (q.dY id)) (f' (q.dY id))) (h2:KG b g g'):KG b (Go.Dm.aF q id f g) (Go.Dm.aF q id f' g'):=by
 unfold Go.Dm.aF
 cases h:q.eH id with
 | false=>exact h2
 | true=>exact h1 h
theorem KG.bad {t:Tree (GY e (.cons .bool .nil) qs)}:KG b none t:=fun _ _ h=>by cases h
theorem adn {z:Sl e.den} {y:(aa qs).den}:FB (yT (some (z,y))) (.ok (true,()) z y):=⟨.ok (true,()) z y,.inl rfl,.refl (by simp)⟩
theorem VH {z z':Sl e.den} {y:(aa qs).den} (h:z'.list <+: z.list):FB (qs:=qs) (yT (some (z,y))) (.stop (false,()) z'):=⟨.stop (false,()) z,.inr (.inl rfl),.stop h⟩
theorem Lc {z z':Sl e.den} {y:(aa qs).den} (h:z'.list <+: z.list):FB (qs:=qs) (yT (some (z,y))) (.bt z'):=⟨.bt z,.inr (.inr rfl),.bt h⟩
theorem KG.ok {c:Bool} {z:Sl e.den} {y:(aa qs).den} (h:b.list <+: z.list):KG b (GY.opt (bif c then .ok (true,()) z y else (.bad:GY e (.cons .bool .nil) qs))) (.leaf (bif c then .ok (true,()) z y else .bad)):=by
 cases c with
 | false=>exact KG.bad
 | true =>
  intro z' y' hh
  have hh:some (z,y)=some (z',y'):=hh
  cases hh
  exact ⟨h,adn⟩
theorem KG.any {a:Option (Ty.den (.cons (.sl e) (aa qs)))} {t:Tree (GY e (.cons .bool .nil) qs)} {z:Sl e.den} (hz:b.list <+: z.list) (h:KG z a t):KG b a (.any t (.any (.leaf (.stop (false,()) z)) (.leaf (.bt z)))):=by
 intro z' y' hh
 obtain ⟨h1,h2⟩:=h z' y' hh
 refine ⟨hz.trans h1,h2,?_,?_⟩
 ·rw [hh]; exact VH h1
 ·rw [hh]; exact Lc h1
end
section
variable {e:Ty}
def Fs.opt (e:Ty):Fs->Option (Sl e.den)
 | .full ⟨e',true,z⟩=>cZ (σ:=.sl e') (.sl e) z
 | _=>none
def KI (a:Option (Sl e.den)) (t:Tree Fs):Prop:=∀ z,a=some z->t.kE (Fs.Ok e z)
theorem KI.bif {c:Bool} {a a':Option (Sl e.den)} {t t':Tree Fs} (h1:KI a t) (h2:KI a' t'):KI (bif c then a else a') (bif c then t else t'):=by cases c <;> assumption
theorem KI.cl {α:Type} {d:α} {m:Option α} {f:α->Option (Sl e.den)} {g:Option (Sl e.den)} {f':α->Tree Fs} {g':Tree Fs} (h1:∀ u,m=some u->KI (f u) (f' u)) (h2:KI g g'):KI (Go.Dm.cl d m f g) (Go.Dm.cl d m f' g'):=by
 unfold Go.Dm.cl
 cases m with
 | none=>exact h2
 | some u=>exact h1 u rfl
theorem KI.aF {wy:aO} {q:LQ wy} {id:Nat} {f:(aa (dB wy id)).den->Option (Sl e.den)} {g:Option (Sl e.den)} {f':(aa (dB wy id)).den->Tree Fs} {g':Tree Fs} (h1:KI (f (q.dY id)) (f' (q.dY id))) (h2:KI g g'):KI (Go.Dm.aF q id f g) (Go.Dm.aF q id f' g'):=by
 unfold Go.Dm.aF
 cases q.eH id with
 | false=>exact h2
 | true=>exact h1
theorem KI.bad {t:Tree Fs}:KI (none:Option (Sl e.den)) t:=fun _ h=>by cases h
theorem KI.any {z:Sl e.den}:KI (Fs.opt e (.full ⟨e,true,z⟩)) (.any (.leaf (.full ⟨e,true,z⟩)) (.any (.leaf (.stop ⟨e,false,z⟩)) (.leaf (.bt ⟨e,false,z⟩)))):=by
 intro z' h
 have h:cZ (σ:=.sl e) (.sl e) z=some z':=h
 rw [pE] at h
 cases h
 exact ⟨⟨z,rfl,rfl⟩,⟨z,rfl,List.prefix_refl _⟩,⟨z,rfl,List.prefix_refl _⟩⟩
end
end Go.Dm
namespace Go.Dm
open Go.RowKit
variable {P:Program} {N N':Nat} {G:Gh} {S S':CS} {w w':World} {s s':St} {a a2:Act} {ρ ρ':fV} {F F':Nat->Prop} {E:cO} {Γ:Ctx} {Fw:Fence} {r:Nat} {lo:Nat} {aS:List gx} {fid:FuncId}
def agw:Ty->Bool
 | .cons (.int _) _=>true
 | .cons .bool _=>true
 | _=>false
def led:Ty->Bool
 | .int _=>true
 | .bool=>true
 | .sl e=>agw e && led e
 | .nil=>true
 | .cons h t=>led h && led t
 | _=>false
def isSlice:Value->Prop
 | .slice _ _ _=>True
 | _=>False
theorem VI {e:Ty} {x:e.den} {us:List Value} (h:agw e=true) (hr:R P e S w x us):∃ u,us[0]? = some u/\¬ isSlice u:=by
 cases e with
 | cons t r =>
  obtain ⟨u,ws,rfl,h1,_⟩:=hr
  cases t with
  | int k=>have h1:[u]=[.int k _]:=h1; cases h1; exact ⟨_,rfl,fun q=>q⟩
  | bool=>have h1:[u]=[.bool _]:=h1; cases h1; exact ⟨_,rfl,fun q=>q⟩
  | _=>cases h
 | _=>cases h
theorem SV {b:Nat} (hb:∀ o v,S b o->w.cell? ⟨b,o,none⟩=some v->isSlice v):∀ {τ:Ty} {x:τ.den} {vs:List Value},led τ=true->R P τ S w x vs->R P τ (fun b' o=>S b' o/\b'≠b) w x vs
 | .int _,_,_,_,h=>h
 | .bool,_,_,_,h=>h
 | .nil,_,_,_,h=>h
 | .cons h t,x,vs,hl,⟨u,ws,h1,h2,h3⟩=>by
  simp only [led,Bool.and_eq_true] at hl
  exact ⟨u,ws,h1,SV hb hl.1 h2,SV hb hl.2 h3⟩
 | .sl e,x,vs,hl,h=>by
  simp only [led,Bool.and_eq_true] at hl
  rcases h with h | ⟨b',o,cap,h1,h2,h3,h4⟩
  ·exact .inl h
  ·refine .inr ⟨b',o,cap,h1,h2,h3,fun i hi=>?_⟩
   obtain ⟨us,u1,u2,u3⟩:=h4 i hi
   obtain ⟨u,hu,hns⟩:=VI hl.1 u1
   have hne:b'≠b:=fun e=>by
    subst e
    obtain ⟨q1,q2⟩:=u3 0 u hu
    exact hns (hb _ _ q1 q2)
   exact ⟨us,SV hb hl.2 u1,u2,fun j v hj=>⟨⟨(u3 j v hj).1,hne⟩,(u3 j v hj).2⟩⟩
structure ajK (G:Gh):Prop where
 m:∀ b,¬ G.M b
 bd:∀ b o,G.S0 b o->b < G.w0.heap.size
 fu:∀ id,G.fu id=none
 free:G.lU
def ZW (t:Nat) (s:St):St:=match s.env t,gH s.aS with
 | .v (.ptr id 0),true=>match s.heap id with
  | .box [.own CA bB (.cons (.sl e) .nil) x]=>match s.heap CA with
   | .chain v T _ _=>match Nat.beq bB v && led (.sl e) with
    | true=>⟨setEnv (fun _=>.top) t (.v (.ptr id 0)),ay (ay (fun _=>.none) CA (.row 0 T (.cons (.sl e) .nil) x)) id (.box [.row CA 0]),.none,s.base,s.aS⟩
    | false=>s
   | _=>s
  | _=>s
 | _,_=>s
theorem eV.marks {n0:Nat} {heap heap':Nat->aN}:∀ {ds:List gx} {dd:List Deferred},gH ds=true->eV n0 w heap ρ F ds dd->eV n0 w heap' ρ F ds dd
 | [],[],_,_=>trivial
 | .mark :: r,d :: ds,hm,⟨h1,h2⟩=>⟨h1,eV.marks (ds:=r) hm h2⟩
 | .nE _ _ :: _,_,hm,_=>by cases hm
 | [],_ :: _,_,h=>h.elim
 | .mark :: _,[],_,h=>h.elim
theorem ado (hT:ajK G) (h:SX P N G s a w) (t:Nat):SX P N G (ZW t s) a w:=by
 unfold ZW
 split
 case h_2=>exact h
 rename_i id Nj hmk
 split
 case h_2=>exact h
 rename_i CA bB e x NH
 split
 case h_2=>exact h
 rename_i v T k n hch
 split
 case h_2=>exact h
 rename_i hc
 rw [Bool.and_eq_true] at hc
 obtain ⟨hv,aBP⟩:=hc
 cases Nat.eq_of_beq_eq_true hv
 obtain ⟨ρ,S,F,h⟩:=h
 have hne:id≠CA:=fun q=>by rw [q,hch] at NH; cases NH
 have hob:=h.obj id
 rw [NH] at hob
 obtain ⟨b,arr,T',o1,o2,o3,o4,o5⟩:=hob
 have hoc:=h.obj CA
 rw [hch] at hoc
 -- the cell of the box
 obtain ⟨u,hu⟩:∃ u,arr.toList=[u]:=List.length_eq_one_iff.1 (by rw [<- o4.1]; rfl)
 rw [hu] at o4
 obtain ⟨hrc,_⟩:=o4.of_cons
 obtain ⟨r1,rf,cur,T0,k0,n0,r2,_,r4⟩:=hrc
 rw [hch] at r2
 cases r2
 obtain ⟨rn,rk,rs⟩:=r4 rfl
 subst rn rk
 have hS0:∀ br,ρ CA=some br->∀ o,¬ G.S0 br o:=fun br hbr o q=>by
  rcases hoc with ⟨q1,_⟩ | ⟨b2,q1,q2,_⟩
  ·rw [q1] at hbr; cases hbr
  ·rw [q1] at hbr; cases hbr
   rcases q2.1 with q2 | q2
   ·have:=hT.bd _ _ q; omega
   ·exact hT.m _ q2
 let S2:CS:=fun b' o=>S b' o/\ρ CA≠some b'
 have hsub:∀ b' o,S2 b' o->S b' o:=fun _ _ q=>q.1
 have Pv:∀ i,ay (ay (fun _=>.none) CA (.row 0 T (.cons (.sl e) .nil) x)) id (.box [.row CA 0]) i=if i=id then .box [.row CA 0] else if i=CA then .row 0 T (.cons (.sl e) .nil) x else .none:=fun i=>by
  simp only [ay]
  by_cases h1:i=id
  ·subst h1; simp
  ·rw [bC h1,cond_false,if_neg h1]
   by_cases h2:i=CA
   ·subst h2; simp
   ·rw [bC h2,cond_false,if_neg h2]
 have hg1:=Pv id
 have hg2:=Pv CA
 rw [if_pos rfl] at hg1
 rw [if_neg (Ne.symm hne),if_pos rfl] at hg2
 have hval:(ρ CA=none/\x.n=0/\∃ ad,u = .slice ad 0 0)\/∃ br cap cr,ρ CA=some br/\u = .slice (some ⟨br,0,none⟩) x.n cap/\x.n<=cap/\cap<=maxLen/\w.heap[br]? = some (.cells cr T (0,0))/\cr.size=cap * (Ty.cons (.sl e) .nil).cells:=rs
 have hc1:(Ty.cons (.sl e) .nil).cells=1:=rfl
 refine ⟨ρ,S2,F,⟨h.size,eV.marks hmk h.aS,fun t'=>?_,fun i=>?_,fun i j b' hi hj=>?_,⟨h.ext.size,fun b' o q=>⟨h.ext.sub b' o q,fun e=>hS0 b' e o q⟩,h.ext.same,h.ext.maps,fun b' o q=>h.ext.bd b' o q.1,h.ext.pl⟩,fun b' o q=>h.new b' o q.1,h.same,hT.free _ _ _,h.fb,h.f0,h.sub,fun b' o q=>h.fs b' o q.1,fun i b' q=>by rw [hT.fu i] at q; cases q⟩⟩
 ·show RS P G.Y S2 w _ ρ (setEnv (fun _=>.top) t (.v (.ptr id 0)) t') _
  by_cases ht:t'=t
  ·subst ht
   simp only [setEnv,Nat.beq_refl,cond_true]
   have hp:=h.env t'
   rw [Nj] at hp
   obtain ⟨p1,p2,p3⟩:=hp
   refine ⟨by show ay _ _ _ id≠_; rw [hg1]; simp,p2,fun ds hd=>p3 _ NH⟩
  ·simp only [setEnv,bC ht,cond_false]
   trivial
 ·show OI P G S2 w _ ρ F i (ay _ _ _ i)
  rw [Pv i]
  by_cases h1:i=id
  ·subst h1
   rw [if_pos rfl]
   refine ⟨b,arr,T',o1,o2,o3,?_,fun o q=>o5 o q.1⟩
   rw [hu]
   refine .cons ⟨by show ay _ _ _ CA≠_; rw [hg2]; simp,?_,fun cu T1 e1 s1 hd=>?_⟩ .nil
   ·rcases hval with ⟨_,_,ad,q⟩ | ⟨br,cap,cr,_,q,_⟩
    ·exact ⟨_,_,_,q⟩
    ·exact ⟨_,_,_,q⟩
   ·have hd:=hg2.symm.trans hd
    cases hd
    refine ⟨Nat.le_refl _,fun _=>?_⟩
    rcases hval with ⟨_,q1,ad,q⟩ | ⟨br,cap,cr,q1,q2,q3,q4,q5,q6⟩
    ·exact .inl ⟨q1,ad,q⟩
    ·exact .inr ⟨br,cap,q1,q2,q3,q4,(Array.getElem?_eq_some_iff.1 q5).1,fun It T1 f1 ha=>by rw [q5] at ha; cases ha; exact q6⟩
  ·rw [if_neg h1]
   by_cases h2:i=CA
   ·subst h2
    rw [if_pos rfl]
    refine ⟨⟨rf,by rw [hc1]; exact Nat.one_pos⟩,?_⟩
    rcases hval with ⟨q0,q1,_⟩ | ⟨br,cap,cr,q1,q2,q3,q4,q5,q6⟩
    ·exact .inl ⟨q0,q1⟩
    ·rcases hoc with ⟨z1,_⟩ | ⟨b2,z1,z2,z3,z4,z5⟩
     ·rw [z1] at q1; cases q1
     rw [q1] at z1; cases z1
     refine .inr ⟨br,cr,q1,z2,q5,by rw [q6]; exact Nat.mul_le_mul_right _ q3,fun i hi=>?_,fun o q=>q.2 q1⟩
     rcases r1 with ⟨g0,_⟩ | ⟨b3,o3',aqo,g1,g2,g3,g4⟩
     ·omega
     have g1:=(List.cons.inj g1).1
     rw [q2] at g1
     cases g1
     -- all that is stable of the block are slices
     have WR:∀ o v,S br o->w.cell? ⟨br,o,none⟩=some v->isSlice v:=fun o v hS Qr=>by
      have ho:=z5 o hS
      rw [hc1,Nat.mul_one] at ho
      obtain ⟨us,u1,u2,u3⟩:=g4 o ho
      obtain ⟨y,ws,rfl,y1,y2⟩:=u1
      obtain ⟨_,y3⟩:=u3 0 y rfl
      rw [hc1,Nat.mul_one,Nat.zero_add,Nat.add_zero] at y3
      rw [y3] at Qr
      cases Qr
      rcases y1 with ⟨_,ad,cp,y1⟩ | ⟨_,_,_,y1,_⟩ <;> (cases y1; trivial)
     obtain ⟨us,u1,u2,u3⟩:=g4 i hi
     refine ⟨us,?_,u2,fun j v hj=>?_⟩
     ·have hl2:led (.cons (.sl e) .nil)=true:=by simp only [led,Bool.and_true]; simpa only [led] using aBP
      have:=SV WR hl2 u1
      refine R.mono this ⟨Nat.le_refl _,fun b' o q=>⟨q.1,fun z=>?_⟩,fun _ _ _=>rfl,fun _ _ _ _ _ q=>q,fun b' o q=>h.ext.bd b' o q.1,.refl w⟩
      rw [q1] at z; cases z; exact q.2 rfl
     ·obtain ⟨_,y⟩:=u3 j v hj
      rw [cell_of_row w br _ cr T _ q5] at y
      rw [Nat.zero_add] at y
      exact y
   ·rw [if_neg h2]; trivial
 ·have hi:Own w ρ i (ay (ay (fun _=>.none) CA (.row 0 T (.cons (.sl e) .nil) x)) id (.box [.row CA 0]) i) b':=hi
  have hj:Own w ρ j (ay (ay (fun _=>.none) CA (.row 0 T (.cons (.sl e) .nil) x)) id (.box [.row CA 0]) j) b':=hj
  rw [Pv] at hi hj
  have key:∀ q,Own w ρ q (if q=id then aN.box [.row CA 0] else if q=CA then .row 0 T (.cons (.sl e) .nil) x else .none) b'->Own w ρ q (s.heap q) b':=fun q hq=>by
   by_cases h1:q=id
   ·rw [if_pos h1] at hq
    rw [h1,NH]; rw [h1] at hq; exact hq
   ·rw [if_neg h1] at hq
    by_cases h2:q=CA
    ·rw [if_pos h2] at hq
     rw [h2,hch]; rw [h2] at hq; exact hq
    ·rw [if_neg h2] at hq; exact hq.elim
  exact h.inj i j b' (key i hi) (key j hj)
def RM (t:Nat):Out->Out
 | .norm s=>.norm (ZW t s)
 | o=>o
theorem RN {c:Code} {f:St->Tree Out} (hT:ajK G) (hf:gX P N G fid Fw r c f) (t:Nat):gX P N G fid Fw r c (fun s=>(f s).map (RM t)):=by
 intro s a w hs cC
 refine dG (hf s a w hs fun o ho=>?_) ?_
 ·have:=cC _ (Tree.dz (f:=RM t) ho)
  cases o with
  | norm s=>trivial
  | _=>exact this
 ·rintro e a' w' ⟨o,ho,hok⟩
  refine ⟨_,Tree.dz (f:=RM t) ho,?_⟩
  cases o with
  | norm s=>cases e <;> first | exact hok.elim | exact ado hT hok t
  | _=>exact hok
theorem Kq (hm:P.follows .mixedOrders=true) (hΓ:Sound P Γ) (hE:fI P E.eq) (hK:ez P E.key) {f:FuncId} {fn:Func} {c:Code} (hf:P.funcs[f]? = some fn) (hb:fn.body=some c) {ls:List Loop}
  {τa τr:Ty} {M:τa.den->Option τr.den} (hn:Nat.ble τa.cells fn.ntmps=true) (hM:∀ x,(aI P E Γ fn ls τa τr x).sure=M x)
  (hl:∀ G':Gh,G'.lo=0->G'.lU->Env P E Γ G' Fence.wide->ajK G'->iW P fn.ntmps G' f Fence.wide 0 c ls):Holds P f (gU M):=by
 intro S w hbd
 refine vX hm hΓ hE hK hf hb (hl (Gh.start S w) rfl dH ⟨hm,hΓ,hE,hK,jS,.wide,fun _=>rfl⟩ ⟨fun _ q=>q,hbd,fun _=>rfl,dH⟩) (gU M) (Nat.le_of_ble_eq_true hn) (fun x hp=>Tree.qB (by
  show (aI P E Γ fn ls τa τr x).sure=some ((M x).getD τr.dflt)
  rw [hM x]
  have hp:(M x).isSome=true:=hp
  cases h:M x with
  | none=>rw [h] at hp; cases hp
  | some y=>rfl)) hbd
end Go.Dm
namespace Go.Dm
open Go.ChangeShapes Go.WideShapes Go.ChangeAt Go.RowKit
def Ty.wf:(τ:Ty)->τ.den->Bool
 | .int k,n=>(Lit.int k n).wf
 | .bool,_=>true
 | .sl e,s=>decide (s.n<=maxLen) && (List.range s.n).all fun i=>e.wf (s.g i)
 | .ptr e,x=>e.wf x
 | .agg e,x=>e.wf x
 | .nil,_=>true
 | .cons h t,x=>h.wf (show h.den×t.den from x).1 && t.wf (show h.den×t.den from x).2
 | .fn _ _,_=>true
 | .seq _,_=>true
 | .map _ _,_=>true
 | .xV,_=>true
def od (P:Program) (rec:TypeId->Option (List Ty)):Nat->List Field->Option (List Ty)
 | _,[]=>some []
 | off,f :: fs=>match rec f.type with
  | some l=>if f.offset=off/\P.cellsOf f.type=l.length then (od P rec (off + l.length) fs).map (l ++ ·) else none
  | none=>none
def xg (P:Program):Nat->TypeId->Option (List Ty)
 | 0,_=>none
 | n + 1,t=>match P.underlying t with
  | some (.int k)=>some [.int k]
  | some .bool=>some [.bool]
  | some (.slice e)=>match xg P n e with
   | some (l :: ls)=>some [.sl (cR (l :: ls))]
   | _=>none
  | some (.struct fs)=>match od P (xg P n) 0 fs.toList with
   | some l=>if P.cellsOf t=l.length then some l else none
   | none=>none
  | some (.array m e)=>match xg P n e with
   | some l=>if P.cellsOf e=l.length/\P.cellsOf t=m * l.length then some (List.replicate m l).flatten else none
   | none=>none
  | _=>none
def ZX (P:Program) (n:Nat) (t:TypeId):Option Ty:=
 match xg P n t with
 | some l=>match P.underlying t with
  | some (.struct _) | some (.array _ _)=>some (.agg (cR l))
  | _=>match l with
   | [τ]=>some τ
   | _=>none
 | none=>none
def Ld (P:Program) (n:Nat):List TypeId->Option Ty
 | []=>some .nil
 | t :: ts=>match ZX P n t,Ld P n ts with
  | some h,some l=>some (.cons h l)
  | _,_=>none
variable {H:Type} {enc:TypeId×Value->H} {P:Program} {w:World}
abbrev old (w:World):CS:=fun b _=>b < w.heap.size
theorem ajL:Bd (old w) w:=fun _ _ h=>h
theorem rV:∀ l:List Ty,(cR l).cells=l.length
 | []=>rfl
 | _ :: l=>by simp [cR,Ty.cells,rV l]
def Reads (P:Program) (w:World) (l:List Ty) (cs:List Value):Prop:=∃ y:(cR l).den,R P (cR l) (old w) w y cs/\(cR l).wf y=true
theorem Reads.nil:Reads P w [] []:=⟨(),rfl,rfl⟩
theorem Reads.append:∀ {l l':List Ty} {cs cs':List Value},Reads P w l cs->Reads P w l' cs'->Reads P w (l ++ l') (cs ++ cs')
 | [],_,cs,_,h,h'=>by
  obtain ⟨y,h,_⟩:=h
  rw [show cs=[] from h]; exact h'
 | τ :: l,l',cs,cs',h,h'=>by
  obtain ⟨y,⟨u,ws,h1,h2,h3⟩,hw⟩:=h
  have hw:(Ty.wf τ y.1 && Ty.wf (cR l) y.2)=true:=hw
  rw [Bool.and_eq_true] at hw
  obtain ⟨z,h4,h5⟩:=Reads.append (l:=l) (cs:=ws) ⟨y.2,h3,hw.2⟩ h'
  exact ⟨(y.1,z),⟨u,ws ++ cs',by rw [h1]; rfl,h2,h4⟩,by show (Ty.wf τ y.1 && Ty.wf (cR (l ++ l')) z)=true; rw [hw.1,h5]; rfl⟩
theorem Reads.one {τ:Ty} {x:τ.den} {v:Value} (h:R P τ (old w) w x [v]) (hw:τ.wf x=true):Reads P w [τ] [v]:=
 ⟨(x,()),⟨v,[],rfl,h,rfl⟩,by show (Ty.wf τ x && true)=true; rw [hw]; rfl⟩
theorem Reads.len {l:List Ty} {cs:List Value} (h:Reads P w l cs):cs.length=l.length:=by
 obtain ⟨y,h,_⟩:=h
 rw [R.len h,rV]
theorem xh {base n:Nat} {a:Addr} {cs:List Value} (h:w.cells? base a n=some cs):cs.length=n/\∀ (i:Nat) (v:Value),cs[i]? = some v->w.cell? (a.add i)=some v:=by
 unfold World.cells? at h
 split at h
 ·refine ⟨by simpa using mapM_some_length h,fun i v hv=>?_⟩
  have hl:i < n:=by
   have h1:=mapM_some_length h
   have h2:=(List.getElem?_eq_some_iff.1 hv).1
   simp at h1; omega
  have:=mapM_some_get h i i (by simp [hl])
  rw [this,hv]
 ·cases h
theorem adp {a:Addr} {v:Value} (h:w.cell? a=some v):a.block < w.heap.size:=by
 unfold World.cell? at h
 cases hb:w.heap[a.block]? with
 | none=>simp [hb] at h
 | some o=>exact (Array.getElem?_eq_some_iff.1 hb).1
theorem Bv {base:Nat} {sp:Nat->Bool} {hd:Bool} {n:Nat} {rec:TypeId->Option (List Ty)} {cs:List Value} :
  ∀ (fs:List Field) (off:Nat) (l:List Ty),od P rec off fs=some l->off<=cs.length->(off + l.length=cs.length) ->
   (∀ f∈fs,∃ x,DataW.trod enc P w base sp hd n f.type ((cs.drop f.offset).take (P.cellsOf f.type))=some x) ->
   (∀ t l cs x,rec t=some l->DataW.trod enc P w base sp hd n t cs=some x->Reads P w l cs)->Reads P w l (cs.drop off)
 | [],off,l,h,hof,hlen,_,_=>by
  simp only [od,Option.some.injEq] at h
  subst h
  rw [List.drop_eq_nil_of_le (by simp at hlen; omega)]
  exact .nil
 | f :: fs,off,l,h,hof,hlen,hx,ih=>by
  unfold od at h
  split at h
  ·rename_i l0 hl0
   split at h
   ·rename_i hc
    obtain ⟨ho,hn⟩:=hc
    rw [Option.map_eq_some_iff] at h
    obtain ⟨l1,h1,rfl⟩:=h
    obtain ⟨x,hx0⟩:=hx f (by simp)
    rw [ho,hn] at hx0
    have a:=ih _ _ _ _ hl0 hx0
    rw [List.length_append] at hlen
    have b:=Bv fs (off + l0.length) l1 h1 (by omega) (by omega) (fun f hf=>hx f (by simp [hf])) ih
    have:=a.append b
    rw [<- List.drop_drop,List.take_append_drop] at this
    exact this
   ·cases h
  ·cases h
theorem FH {base:Nat} {sp:Nat->Bool} {hd:Bool} {n:Nat} {e:TypeId} {l:List Ty} (hc:P.cellsOf e=l.length)
  (ih:∀ cs x,DataW.trod enc P w base sp hd n e cs=some x->Reads P w l cs) :
  ∀ (m:Nat) (cs:List Value),cs.length=m * l.length->(∀ i,i < m->∃ x,DataW.trod enc P w base sp hd n e ((cs.drop (i * P.cellsOf e)).take (P.cellsOf e))=some x) ->
   Reads P w (List.replicate m l).flatten cs
 | 0,cs,h,_=>by
  have:cs=[]:=List.eq_nil_of_length_eq_zero (by simpa using h)
  subst this; exact .nil
 | m + 1,cs,h,hx=>by
  obtain ⟨x,hx0⟩:=hx 0 (by omega)
  simp only [Nat.zero_mul,List.drop_zero] at hx0
  have a:=ih _ _ hx0
  have b:=FH hc ih m (cs.drop (P.cellsOf e)) (by rw [List.length_drop,h,hc,Nat.add_mul]; omega) (fun i hi=>by
   obtain ⟨x,hx1⟩:=hx (i + 1) (by omega)
   refine ⟨x,?_⟩
   rw [List.drop_drop,<- hx1,Nat.add_mul,Nat.one_mul,Nat.add_comm])
  have:=a.append b
  rw [List.take_append_drop] at this
  rw [List.replicate_succ,List.flatten_cons]
  exact this
theorem rW {base:Nat} {sp:Nat->Bool} {hd:Bool}:∀ (m n:Nat) (t:TypeId) (l:List Ty) (cs:List Value) (x:DataW H×List MemPlace),xg P m t=some l ->
  DataW.trod enc P w base sp hd n t cs=some x->Reads P w l cs
 | 0,_,_,_,_,_,h,_=>by cases h
 | m + 1,n,t,l,cs,x,h,hx=>by
  unfold xg at h
  split at h
  ·rename_i k hu
   cases h
   obtain ⟨i,rfl,_,hw⟩:=DataW.trod_int hu hx
   exact Reads.one (τ:=.int k) (x:=i) rfl hw
  ·rename_i hu
   cases h
   obtain ⟨b,rfl,_⟩:=DataW.trod_bool hu hx
   exact Reads.one (τ:=.bool) (x:=b) rfl rfl
  ·rename_i e hu
   split at h
   ·rename_i l0 ls hl
    cases h
    rcases DataW.trod_slice hu hx with ⟨rfl,_⟩ | ⟨a,len,cap,elems,rest,n',_,rfl,_,_,hlc,Qp,hel,hrd,_⟩
    ·exact Reads.one (τ:=.sl (cR (l0 :: ls))) (x:=⟨0,fun _=>Ty.dflt _⟩) (.inl ⟨rfl,_,_,rfl⟩) rfl
    ·have each:∀ i,i < len->∃ us,w.cells? base (a.add (i * P.cellsOf e)) (P.cellsOf e)=some us/\Reads P w (l0 :: ls) us:=fun i hi=>by
      have:=hrd i hi
      rw [List.getElem?_eq_getElem (by omega)] at this
      rw [Option.bind_eq_some_iff] at this
      obtain ⟨us,h1,h2⟩:=this
      exact ⟨us,h1,rW m n' e _ us _ hl h2⟩
     have:∀ i,∃ y:(cR (l0 :: ls)).den,i < len->∃ us,w.cells? base (a.add (i * P.cellsOf e)) (P.cellsOf e)=some us/\R P (cR (l0 :: ls)) (old w) w y us/\(cR (l0 :: ls)).wf y=true:=fun i=>by
      by_cases hi:i < len
      ·obtain ⟨us,h1,y,h2,h3⟩:=each i hi
       exact ⟨y,fun _=>⟨us,h1,h2,h3⟩⟩
      ·exact ⟨Ty.dflt _,fun h=>absurd h hi⟩
     let g:=fun i=>Classical.choose (this i)
     have hg:=fun i=>Classical.choose_spec (this i)
     refine Reads.one (τ:=.sl (cR (l0 :: ls))) (x:=⟨len,g⟩) ?_ ?_
     ·by_cases h0:len=0
      ·subst h0; exact .inl ⟨rfl,_,_,rfl⟩
      ·have Cr:P.cellsOf e=(cR (l0 :: ls)).cells:=by
        obtain ⟨us,h1,h2,_⟩:=hg 0 (by omega)
        rw [<- (xh h1).1,R.len h2]
       have hs:a.spot=none:=by
        obtain ⟨us,h1,h2,_⟩:=hg 0 (by omega)
        have hl':=R.len h2
        rw [rV] at hl'
        cases us with
        | nil=>simp at hl'
        | cons u us =>
         have:=(xh h1).2 0 u rfl
         simp only [Nat.zero_mul,Addr.add,if_true] at this
         exact World.cell?_spot this
       obtain ⟨b,o,spot⟩:=a
       simp only at hs
       subst hs
       refine .inr ⟨b,o,cap,rfl,hlc,Qp,fun i hi=>?_⟩
       obtain ⟨us,h1,h2,_⟩:=hg i hi
       refine ⟨us,h2,R.len h2,fun j v hv=>?_⟩
       have:=(xh h1).2 j v hv
       rw [Addr.add_lit,Addr.add_lit,Cr] at this
       exact ⟨adp this,this⟩
     ·show (decide (len<=maxLen) && (List.range len).all fun i=>(cR (l0 :: ls)).wf (g i))=true
      rw [Bool.and_eq_true]
      refine ⟨decide_eq_true (by omega),?_⟩
      rw [List.all_eq_true]
      intro i hi
      exact (hg i (by simpa using hi)).choose_spec.2.2
   ·cases h
  ·rename_i fs hu
   split at h
   ·rename_i l0 hl
    split at h
    ·rename_i hc
     cases h
     obtain ⟨xs,n',_,_,hcs,hlen,hrd⟩:=DataW.trod_struct hu hx
     have:=Bv (enc:=enc) (P:=P) (w:=w) (base:=base) (sp:=sp) (hd:=hd) (n:=n') (cs:=cs) fs.toList 0 l hl (by omega) (by omega) (fun f hf=>by
      obtain ⟨i,hi,rfl⟩:=List.getElem_of_mem hf
      have hi':i < fs.size:=by simpa using hi
      have:=hrd i fs[i] (by simp [hi'])
      refine ⟨xs[i]'(by omega),?_⟩
      rw [List.getElem?_eq_getElem (by omega)] at this
      simpa using this) (fun t l cs x h1 h2=>rW m n' t l cs x h1 h2)
     simpa using this
    ·cases h
   ·cases h
  ·rename_i k e hu
   split at h
   ·rename_i l0 hl
    split at h
    ·rename_i hc
     cases h
     obtain ⟨xs,n',_,_,hcs,hlen,hrd⟩:=DataW.trod_array hu hx
     refine FH (enc:=enc) (base:=base) (sp:=sp) (hd:=hd) (n:=n') hc.1 (fun cs x h2=>rW m n' e l0 cs x hl h2) k cs (by rw [hcs,hc.2]) (fun i hi=>?_)
     have:=hrd i hi
     rw [List.getElem?_eq_getElem (by omega)] at this
     exact ⟨_,this⟩
    ·cases h
   ·cases h
  ·cases h
theorem ZY {base base' m:Nat} {sp:Nat->Bool} {hd:Bool} {t:TypeId} {τ:Ty} {v:Value} {d:DataW H} {p:List MemPlace} (h:ZX P m t=some τ)
  (hv:Value.okWide P w .any base t v) (hx:DataW.Trod enc P w base' sp hd t v d p):∃ x:τ.den,R P τ (old w) w x [v]/\τ.wf x=true:=by
 obtain ⟨fuel,hx⟩:=hx
 unfold ZX at h
 split at h
 ·rename_i l hl
  have rd:=rW m fuel t l _ _ hl hx
  have one:∀ τ',l=[τ']->v.cells.toList=[v]->some τ'=some τ->∃ x:τ.den,R P τ (old w) w x [v]/\τ.wf x=true:=fun τ' e1 e2 e3=>by
   cases e3; subst e1
   rw [e2] at rd
   obtain ⟨y,⟨u,ws,h1,h2,h3⟩,hw⟩:=rd
   cases h1
   have hw:(Ty.wf τ y.1 && true)=true:=hw
   rw [Bool.and_true] at hw
   exact ⟨y.1,h2,hw⟩
  have agg:(∃ cs,v = .agg cs)->some (Ty.agg (cR l))=some τ->∃ x:τ.den,R P τ (old w) w x [v]/\τ.wf x=true:=fun ⟨cs,e1⟩ e2=>by
   cases e2; subst e1
   obtain ⟨y,h1,h2⟩:=rd
   exact ⟨y,⟨cs.toList,by simp,h1,R.len h1⟩,h2⟩
  split at h
  ·rename_i fs hu
   simp only [Value.okWide,hu] at hv
   obtain ⟨cs,e,_⟩:=hv
   exact agg ⟨cs,e⟩ h
  ·rename_i fs n hu
   simp only [Value.okWide,hu] at hv
   obtain ⟨cs,e,_⟩:=hv
   exact agg ⟨cs,e⟩ h
  ·split at h
   ·rename_i τ'
    refine one τ' rfl ?_ h
    cases m with
    | zero=>cases hl
    | succ m =>
     unfold xg at hl
     split at hl
     ·rename_i k hu
      obtain ⟨i,e,_⟩:=DataW.trod_int hu hx
      simp only [Value.okWide,hu,Cell.okWide,Cell.ok] at hv
      cases v <;> first | rfl | (simp at hv)
     ·rename_i hu
      simp only [Value.okWide,hu,Cell.okWide,Cell.ok] at hv
      cases v <;> first | rfl | (simp at hv)
     ·rename_i e hu
      simp only [Value.okWide,hu,Cell.okWide,Cell.ok] at hv
      cases v <;> first | rfl | (simp at hv)
     ·rename_i n1 n2 _ _ fs hu
      first | exact absurd hu (n1 fs) | exact absurd hu (n2 fs)
     ·rename_i n1 n2 _ _ k e hu
      first | exact absurd hu (n1 k e) | exact absurd hu (n2 k e)
     ·cases hl
   ·cases h
 ·cases h
theorem Jx {base base' m:Nat} {sp:Nat->Bool} {hd:Bool}:∀ (ts:List TypeId) (vs:List Value) (ds:List (DataW H)) (ps:List MemPlace) (τ:Ty),Ld P m ts=some τ ->
  (∀ (j:Nat) t v,ts[j]? = some t->vs[j]? = some v->Value.okWide P w .any base t v)->DataW.TrodAll enc P w base' sp hd ts vs ds ps->∃ x:τ.den,R P τ (old w) w x vs/\τ.wf x=true
 | [],[],ds,ps,τ,h,_,_=>by cases h; exact ⟨(),rfl,rfl⟩
 | [],_ :: _,_,_,_,_,_,hx=>by simp [DataW.TrodAll] at hx
 | t :: ts,[],_,_,_,_,_,hx=>by simp [DataW.TrodAll] at hx
 | t :: ts,v :: vs,[],_,_,_,_,hx=>by simp [DataW.TrodAll] at hx
 | t :: ts,v :: vs,d :: ds,ps,τ,h,hv,hx=>by
  obtain ⟨p,q,h1,h2,_⟩:=hx
  unfold Ld at h
  split at h
  ·rename_i a b ha hb
   cases h
   obtain ⟨x,x1,x2⟩:=ZY ha (hv 0 t v rfl rfl) h1
   obtain ⟨y,y1,y2⟩:=Jx ts vs ds q b hb (fun j t v ht hv'=>hv (j + 1) t v (by simpa using ht) (by simpa using hv')) h2
   exact ⟨(x,y),⟨v,vs,rfl,x1,y1⟩,by show (Ty.wf a x && Ty.wf b y)=true; rw [x2,y2]; rfl⟩
  ·cases h
theorem Jy (hl:laidOutB P=true) {W W':World} (hb:Below W.heap.size W W') {sp':Nat->Bool}:∀ (ts:List TypeId) (vs:List Value) (ds:List (DataW H)) (ps:List MemPlace),
  ts.all (fun t=>P.readableRec t && decide (t < P.types.size))=true->DataW.TrodAll enc P W 0 (fun _=>true) true ts vs ds ps->(∀ x∈ps,x.block < W.heap.size)->(∀ x∈ps,sp' x.block=true) ->
  DataW.TrodAll enc P W' 0 sp' true ts vs ds ps
 | [],[],[],ps,_,h,_,_=>h
 | [],[],_ :: _,_,_,hx,_,_=>by simp [DataW.TrodAll] at hx
 | [],_ :: _,_,_,_,hx,_,_=>by simp [DataW.TrodAll] at hx
 | t :: ts,[],_,_,_,hx,_,_=>by simp [DataW.TrodAll] at hx
 | t :: ts,v :: vs,[],_,_,hx,_,_=>by simp [DataW.TrodAll] at hx
 | t :: ts,v :: vs,d :: ds,ps,hr,hx,hlt,hsp=>by
  obtain ⟨p,q,h1,h2,rfl⟩:=hx
  rw [List.all_cons,Bool.and_eq_true,Bool.and_eq_true] at hr
  refine ⟨p,q,?_,Jy hl hb ts vs ds q hr.2 h2 (fun x hx=>hlt x (by simp [hx])) (fun x hx=>hsp x (by simp [hx])),rfl⟩
  exact WideElems.Trod_stays hl hr.1.1 (of_decide_eq_true hr.1.2) h1 (fun x hx=>hb.same (hlt x (by simp [hx]))) (fun x hx=>hsp x (by simp [hx]))
theorem Bw {base:Nat} {sp:Nat->Bool} {hd:Bool}:∀ {ts:List TypeId} {vs:List Value} {ds:List (DataW H)} {ps:List MemPlace},DataW.TrodAll enc P w base sp hd ts vs ds ps->ds.length=ts.length
 | [],[],[],_,_=>rfl
 | [],[],_ :: _,_,hx=>by simp [DataW.TrodAll] at hx
 | [],_ :: _,_,_,hx=>by simp [DataW.TrodAll] at hx
 | t :: ts,[],_,_,hx=>by simp [DataW.TrodAll] at hx
 | t :: ts,v :: vs,[],_,hx=>by simp [DataW.TrodAll] at hx
 | t :: ts,v :: vs,d :: ds,ps,hx=>by
  obtain ⟨p,q,h1,h2,rfl⟩:=hx
  simp [Bw h2]
theorem IK {f:Func} {s:ChangeSpec} {apart fresh handsOn again:Bool} {W W':World} {args:Array Value} {v:Value} {ds gs:List (DataW H)} {before pa pv:List MemPlace}
  (hW:DataW.Whole enc P f.params.toList s.vars apart W args.toList ds gs before)
  (hres:∀ (b:Nat) (sp:Nat->Bool) (hd:Bool),DataW.TrodAll enc P W' b sp hd f.resultTypes.toList (v.resultList f.resultTypes.size) (s.fn H (ds ++ gs)).results [])
  (hargs:∀ sp:Nat->Bool,(∀ p∈before,sp p.block=true)->DataW.TrodAll enc P W' 0 sp true f.params.toList args.toList (s.fn H (ds ++ gs)).args pa)
  (hvars:∀ sp:Nat->Bool,(∀ p∈before,sp p.block=true)->DataW.TrodVars enc P W' sp s.vars (s.fn H (ds ++ gs)).vars pv)
  (hps:before=pa ++ pv) (hb:Below W.heap.size W W')
  (hok:∀ (j:Nat) (t:TypeId) (r:Value),f.resultTypes[j]? = some t->(v.resultList f.resultTypes.size)[j]? = some r->Value.okWide P W' .any 0 t r) :
  s.post enc P f apart fresh handsOn again W args v W':=by
 have hlt:∀ p∈before,p.block < W.heap.size:=fun p hp=>hW.lt p hp
 have hold:∀ p∈before,(fun b=>decide (b < W.heap.size)) p.block=true:=fun p hp=>by simpa using hlt p hp
 refine ⟨ds,gs,before,[],pa,pv,hW,hres _ _ _,hargs _ hold,hvars _ hold,World.keptBut_mono (fun p hp=>⟨hp,?_⟩) (hb.frame (· ∈ before)),fun _=>?_⟩
 ·rw [hps,List.mem_append] at hp
  exact Or.inr hp
 ·obtain ⟨_,_,_,_,_,hz,hn⟩:=hW
  refine ⟨hok,_,_,([] ++ pa) ++ pv,⟨[] ++ pa,pv,trodAll_append (hargs _ (fun _ _=>rfl)) (hres _ _ _),hvars _ (fun _ _=>rfl),rfl,?_,?_⟩,?_⟩
  ·intro b off hp
   have hin:MemPlace.cell b off∈before:=by rw [hps]; simpa using hp
   rw [hb.frozen (hlt _ hin)]
   exact hz b off hin
  ·intro ha
   have:=hn ha
   rw [hps] at this
   simpa using this
  ·intro p hp _
   rw [hps]
   simpa using hp
theorem VJ {f:FuncId} {τa τr:Ty} {p:τa.den->Bool} {v:τa.den->τr.den} {M:τa.den->Option τr.den} {y:τr.den} (h:Holds P f ⟨τa,τr,p,v⟩) (hM:∀ x,τa.wf x=true->M x=some y) (hp:∀ x,p x=(M x).isSome:=by intro _; rfl) (hv:∀ x,v x=(M x).getD τr.dflt:=by intro _; rfl):Holds P f ⟨τa,τr,τa.wf,fun _=>y⟩:=by
 intro S w hb x vs hx hr
 have hm:=hM x hx
 have h1:p x=true:=by rw [hp,hm]; rfl
 have h2:v x=y:=by rw [hv,hm]; rfl
 have:=h S w hb x vs h1 hr
 simp only at this
 rw [h2] at this
 exact this
theorem VK {f:FuncId} {fn:Func} {s:ChangeSpec} {m:Nat} {τ:Ty} {tb:TypeId} (hl:laidOutB P=true)
  (aq0:fn.params.toList.all (fun t=>P.readableRec t && decide (t < P.types.size))=true) (hargs:Ld P m fn.params.toList=some τ)
  (hh:Holds P f ⟨τ,.cons .bool .nil,τ.wf,fun _=>(true,())⟩) (hrt:fn.resultTypes = #[tb]) (hub:P.underlying tb=some .bool)
  (hvars:s.vars=[]) (hs:∀ (H:Type) (ds:List (DataW H)),ds.length=fn.params.toList.length->s.fn H ds={ results:=[.lit (.bool true)],args:=ds })
  {fresh handsOn again:Bool} (W:World) (base:Nat) (args:Array Value) (ds gs:List (DataW H)) (before:List MemPlace)
  (hval:∀ (j:Nat) t v,fn.params[j]? = some t->args[j]? = some v->Value.okWide P W .any base t v)
  (hW:DataW.Whole enc P fn.params.toList s.vars false W args.toList ds gs before) :
  Calls P f args W fun e W'=>∃ v,e = .returned v/\s.post enc P fn false fresh handsOn again W args v W':=by
 have hW':=hW
 obtain ⟨p,q,hA,hV,rfl,hfz,Jg⟩:=hW
 rw [hvars] at hV
 obtain ⟨rfl,rfl⟩:=trodVars_none hV
 obtain ⟨x,hx,hwf⟩:=Jx (w:=W) (base:=base) _ _ _ _ τ hargs (fun j t v ht hv=>hval j t v (by simpa using ht) (by simpa using hv)) hA
 have hlen:=Bw hA
 have hsd:=hs H ds hlen
 refine (hh (old W) W ajL x args.toList hwf hx).mono fun e W' ⟨S',rs,he,hr,_,hb⟩=>?_
 obtain ⟨u,ws,rfl,h1,h2⟩:=hr
 cases h1
 rw [show ws=[] from h2] at he
 have he:e = .returned (.bool true):=he
 subst he
 refine ⟨_,rfl,?_⟩
 simp only [List.append_nil] at hW'
 have hlt:=hW'.lt
 refine IK (pa:=p) (pv:=[]) hW' (fun b sp hd=>?_) (fun sp hsp=>?_) (fun sp _=>?_) (by simp) hb (ok_one hrt rfl (okWide_bool_mk hub true))
 ·rw [List.append_nil,hsd,hrt]
  exact trodAll_mk1 (shut_bool hub true)
 ·rw [List.append_nil,hsd]
  exact Jy hl hb _ _ _ _ aq0 hA hlt hsp
 ·rw [List.append_nil,hsd,hvars]
  rfl
end Go.Dm
namespace Go.Dm
open Go.RowKit
variable {P:Program} {N N':Nat} {G:Gh} {S S' S2:CS} {w w' w2:World} {s s' s2:St} {a a2:Act} {ρ ρ' ρ2:fV} {F F' F2:Nat->Prop} {heap heap' H' H2:Nat->aN} {Y:Value} {E:cO} {Γ:Ctx}
def SY:(τ:Ty)->τ.den->τ.den->Prop
 | .sl e,a,b=>(show Sl e.den from a).n=(show Sl e.den from b).n/\∀ i,i < (show Sl e.den from a).n->SY e ((show Sl e.den from a).g i) ((show Sl e.den from b).g i)
 | .agg e,a,b=>SY e a b
 | .nil,_,_=>True
 | .cons h t,a,b=>SY h (show h.den×t.den from a).1 (show h.den×t.den from b).1/\SY t (show h.den×t.den from a).2 (show h.den×t.den from b).2
 | _,a,b=>a=b
theorem SY.refl:∀ (τ:Ty) (x:τ.den),SY τ x x
 | .sl e,_=>⟨rfl,fun _ _=>SY.refl e _⟩
 | .agg e,x=>SY.refl e x
 | .nil,_=>trivial
 | .cons h t,_=>⟨SY.refl h _,SY.refl t _⟩
 | .int _,_=>rfl
 | .bool,_=>rfl
 | .ptr _,_=>rfl
 | .fn _ _,_=>rfl
 | .seq _,_=>rfl
 | .map _ _,_=>rfl
 | .xV,_=>rfl
def Le:(τ:Ty)->τ.den->τ.den->Bool
 | .int _,a,b=>decide ((show Int from a)=(show Int from b))
 | .bool,a,b=>(show Bool from a) == (show Bool from b)
 | .sl e,a,b=>Nat.beq (show Sl e.den from a).n (show Sl e.den from b).n && (List.range (show Sl e.den from a).n).all fun i=>Le e ((show Sl e.den from a).g i) ((show Sl e.den from b).g i)
 | .agg e,a,b=>Le e a b
 | .nil,_,_=>true
 | .cons h t,a,b=>Le h (show h.den×t.den from a).1 (show h.den×t.den from b).1 && Le t (show h.den×t.den from a).2 (show h.den×t.den from b).2
 | _,_,_=>false
theorem uI:∀ (τ:Ty) (x y:τ.den),Le τ x y=true->SY τ x y
 | .int _,x,y,h=>by have h:decide ((show Int from x)=(show Int from y))=true:=h; exact (of_decide_eq_true h:(show Int from x)=(show Int from y))
 | .bool,x,y,h=>by have h:((show Bool from x) == (show Bool from y))=true:=h; exact eq_of_beq h
 | .sl e,x,y,h=>by
  simp only [Le,Bool.and_eq_true,List.all_eq_true,List.mem_range] at h
  exact ⟨Nat.eq_of_beq_eq_true h.1,fun i hi=>uI e _ _ (h.2 i hi)⟩
 | .agg e,x,y,h=>uI e x y h
 | .nil,_,_,_=>trivial
 | .cons hh t,x,y,h=>by
  simp only [Le,Bool.and_eq_true] at h
  exact ⟨uI hh _ _ h.1,uI t _ _ h.2⟩
 | .ptr _,_,_,h=>by cases h
 | .fn _ _,_,_,h=>by cases h
 | .seq _,_,_,h=>by cases h
 | .map _ _,_,_,h=>by cases h
 | .xV,_,_,h=>by cases h
theorem R.eqv {P:Program}:∀ {τ:Ty} {S:CS} {w:World} {x y:τ.den} {vs:List Value},SY τ x y->R P τ S w x vs->R P τ S w y vs
 | .sl e,S,w,x,y,vs,⟨h1,h2⟩,h=>by
  rcases h with ⟨q1,q2⟩ | ⟨b,o,cap,q1,q2,q3,q4⟩
  ·exact .inl ⟨h1.symm.trans q1,q2⟩
  ·refine .inr ⟨b,o,cap,by rw [<- h1]; exact q1,by rw [<- h1]; exact q2,q3,fun i hi=>?_⟩
   obtain ⟨us,u1,u2,u3⟩:=q4 i (by rw [h1]; exact hi)
   exact ⟨us,R.eqv (h2 i (by rw [h1]; exact hi)) u1,u2,u3⟩
 | .agg e,S,w,x,y,vs,h,⟨us,h1,h2,h3⟩=>⟨us,h1,R.eqv (τ:=e) h h2,h3⟩
 | .nil,_,_,_,_,_,_,h=>h
 | .cons h t,S,w,x,y,vs,⟨e1,e2⟩,⟨u,ws,h1,h2,h3⟩=>⟨u,ws,h1,R.eqv e1 h2,R.eqv e2 h3⟩
 | .int _,_,_,_,_,_,h,q=>by rw [<- show _=_ from h]; exact q
 | .bool,_,_,_,_,_,h,q=>by rw [<- show _=_ from h]; exact q
 | .ptr _,_,_,_,_,_,h,q=>by rw [<- show _=_ from h]; exact q
 | .fn _ _,_,_,_,_,_,h,q=>by rw [<- show _=_ from h]; exact q
 | .seq _,_,_,_,_,_,h,q=>by rw [<- show _=_ from h]; exact q
 | .map _ _,_,_,_,_,_,h,q=>by rw [<- show _=_ from h]; exact q
 | .xV,_,_,_,_,_,_,q=>q
@[reducible] def fO (e:Ty):Ty:=.cons e (.cons e .nil)
@[reducible] def nh:Ty:=.cons (.int .i64) .nil
@[reducible] def rX (e:Ty):Ty:=.cons e .nil
def vZ {e:Ty} (fn:(fO e).den->nh.den) (s:Sl (rX e).den) (i j:Nat):Bool:=decide ((show Int×Unit from fn ((s.g i).1,((s.g j).1,()))).1 < 0)
def rk1 (n:Nat) (lt:Nat->Nat->Bool) (i:Nat):Nat:=(List.range n).countP fun j=>lt j i
def cP (n:Nat) (lt:Nat->Nat->Bool):List Nat:=(List.range n).map (rk1 n lt)
def lg (l:List Nat) (i:Nat):Nat:=l.getD i 0
def QY {e:Ty} (fn:(fO e).den->nh.den) (s:Sl (rX e).den) (l:List Nat):Bool:=
 (List.range s.n).all fun i=>(List.range s.n).all fun j=>(vZ fn s i j == Nat.blt (lg l i) (lg l j)) && (Nat.beq i j || !Nat.beq (lg l i) (lg l j) || Le (rX e) (s.g i) (s.g j))
def aBU {e:Ty} (fn:(fO e).den->nh.den) (s:Sl (rX e).den):Prop:=
 (∀ i j,i < s.n->j < s.n->(vZ fn s i j=true↔lg (cP s.n (vZ fn s)) i < lg (cP s.n (vZ fn s)) j)) /\
  ∀ i j,i < s.n->j < s.n->lg (cP s.n (vZ fn s)) i=lg (cP s.n (vZ fn s)) j->SY (rX e) (s.g i) (s.g j)
def Jz {e:Ty} (pre:(fO e).den->Bool) (fn:(fO e).den->nh.den) (s:Sl (rX e).den):Bool:=
 Nat.blt 0 s.n && Nat.blt s.n 4611686018427387904 && (List.range s.n).all (fun i=>(List.range s.n).all fun j=>pre ((s.g i).1,((s.g j).1,()))) && QY fn s (cP s.n (vZ fn s))
def JA (l:List Nat) (k:Nat):Nat->Nat
 | 0=>0
 | n + 1=>bif Nat.beq (lg l n) k then n else JA l k n
def uJ (l:List Nat) (k:Nat):Nat->Nat
 | 0=>0
 | n + 1=>bif Nat.ble (lg l n) k && Nat.blt (uJ l k n) (lg l n) then lg l n else uJ l k n
def JB {e:Ty} (fn:(fO e).den->nh.den) (s:Sl (rX e).den):Sl (rX e).den:=⟨s.n,fun k=>s.g (JA (cP s.n (vZ fn s)) (uJ (cP s.n (vZ fn s)) k s.n) s.n)⟩
def IL (g:FuncId) (e:Ty) (pre:(fO e).den->Bool) (fn:(fO e).den->nh.den) (args:List Slot) (heap:Nat->aN) (_:Tr) (_:Nat):Tree OR:=
 match args with
 | [.v (.row id bB),.v (.nE g' [])]=>match heap id,Nat.beq g g' with
  | .row cur T e' s,true=>match cZ (σ:=.sl e') (.sl (rX e)) s,Nat.beq bB cur with
   | some s,true=>.br (Jz pre fn s) (.leaf (.ok ⟨some (.tup .nil ()),[(id,.row cur T (rX e) (JB fn s))],[id],false,none⟩)) (.leaf .bad)
   | _,_=>.leaf .bad
  | _,_=>.leaf .bad
 | _=>.leaf .bad
theorem QZ {e:Ty} {fn:(fO e).den->nh.den} {s:Sl (rX e).den}:QY fn s (cP s.n (vZ fn s))=true↔(∀ i j,i < s.n->j < s.n->(vZ fn s i j=true↔lg (cP s.n (vZ fn s)) i < lg (cP s.n (vZ fn s)) j)) /\
  ∀ i j,i < s.n->j < s.n->i≠j->lg (cP s.n (vZ fn s)) i=lg (cP s.n (vZ fn s)) j->Le (rX e) (s.g i) (s.g j)=true:=by
 unfold QY
 simp only [List.all_eq_true,List.mem_range,Bool.and_eq_true,Bool.or_eq_true,Bool.not_eq_true',beq_iff_eq]
 constructor
 ·intro h
  refine ⟨fun i j hi hj=>?_,fun i j hi hj hne e=>?_⟩
  ·rw [(h i hi j hj).1,Nat.blt_eq]
  ·rcases (h i hi j hj).2 with (h1 | h1) | h1
   ·exact absurd (Nat.eq_of_beq_eq_true h1) hne
   ·rw [e,Nat.beq_refl] at h1; cases h1
   ·exact h1
 ·rintro ⟨h1,h2⟩ i hi j hj
  refine ⟨?_,?_⟩
  ·have:=h1 i j hi hj
   cases hq:Nat.blt (lg (cP s.n (vZ fn s)) i) (lg (cP s.n (vZ fn s)) j) with
   | true=>exact this.2 (by rw [<- Nat.blt_eq]; exact hq)
   | false =>
    cases hl:vZ fn s i j with
    | false=>rfl
    | true=>have:=this.1 hl; rw [<- Nat.blt_eq,hq] at this; cases this
  ·by_cases e:i=j
   ·exact .inl (.inl (by rw [e,Nat.beq_refl]))
   ·by_cases e2:lg (cP s.n (vZ fn s)) i=lg (cP s.n (vZ fn s)) j
    ·exact .inr (h2 i j hi hj e e2)
    ·exact .inl (.inr (bC e2))
theorem ajM {n:Nat} {lt:Nat->Nat->Bool} {i:Nat} (hi:i < n):lg (cP n lt) i=rk1 n lt i:=by
 unfold lg cP
 rw [List.getD_eq_getElem?_getD,List.getElem?_map,List.getElem?_range hi]
 rfl
theorem SZ {l:List Nat} {k:Nat}:∀ n,uJ l k n<=k
 | 0=>Nat.zero_le _
 | n + 1=>by
  unfold uJ
  cases h:Nat.ble (lg l n) k && Nat.blt (uJ l k n) (lg l n) with
  | false=>exact SZ n
  | true =>
   rw [Bool.and_eq_true] at h
   exact Nat.le_of_ble_eq_true h.1
theorem Lf {l:List Nat} {k:Nat}:∀ {n i:Nat},i < n->lg l i<=k->lg l i<=uJ l k n
 | 0,_,h,_=>absurd h (Nat.not_lt_zero _)
 | n + 1,i,h,hk=>by
  unfold uJ
  cases hb:Nat.ble (lg l n) k && Nat.blt (uJ l k n) (lg l n) with
  | false =>
   rw [cond_false]
   by_cases e:i=n
   ·subst e
    rw [Nat.ble_eq_true_of_le hk,Bool.true_and] at hb
    have:¬ uJ l k i < lg l i:=fun q=>by rw [<- Nat.blt_eq] at q; rw [q] at hb; cases hb
    omega
   ·exact Lf (by omega) hk
  | true =>
   rw [cond_true]
   rw [Bool.and_eq_true,Nat.blt_eq] at hb
   by_cases e:i=n
   ·subst e; exact Nat.le_refl _
   ·have:=Lf (n:=n) (show i < n by omega) hk
    omega
theorem Ta {l:List Nat} {k:Nat}:∀ n,uJ l k n=0\/∃ i,i < n/\lg l i=uJ l k n
 | 0=>.inl rfl
 | n + 1=>by
  unfold uJ
  cases hb:Nat.ble (lg l n) k && Nat.blt (uJ l k n) (lg l n) with
  | false =>
   rw [cond_false]
   exact (Ta n).imp (fun x=>x) fun ⟨i,h1,h2⟩=>⟨i,by omega,h2⟩
  | true=>exact .inr ⟨n,by omega,rfl⟩
theorem FJ {l:List Nat} {k:Nat}:∀ {n:Nat},(∃ i,i < n/\lg l i=k)->JA l k n < n/\lg l (JA l k n)=k
 | 0,⟨_,h,_⟩=>absurd h (Nat.not_lt_zero _)
 | n + 1,⟨i,h,hk⟩=>by
  unfold JA
  by_cases e:lg l n=k
  ·rw [e,Nat.beq_refl,cond_true]; exact ⟨Nat.lt_succ_self _,e⟩
  ·rw [show Nat.beq (lg l n) k=false from bC e,cond_false]
   have:i < n:=by
    by_cases q:i=n
    ·exact absurd (q ▸ hk) e
    ·omega
   have ih:=FJ (n:=n) ⟨i,this,hk⟩
   exact ⟨by omega,ih.2⟩
open Go.Sort Go.Proofs Go.Shelf in
theorem NI {m:Nat} {lt:Fin (m + 1)->Fin (m + 1)->Bool} {Mc:Nat->Nat->Bool} (hl:∀ i j:Fin (m + 1),lt i j=Mc i.val j.val) (hs:∀ i j,i < m + 1->j < m + 1->(Mc i j=true↔lg (cP (m + 1) Mc) i < lg (cP (m + 1) Mc) j))
  {d':Array (Fin (m + 1))} (hp:PermIn 0 (m + 1) (Array.ofFn (fun i:Fin (m + 1)=>i)) d') (hso:SortedIn lt 0 (m + 1) d'):∀ k,k < m + 1->lg (cP (m + 1) Mc) (d'[k]!).val=uJ (cP (m + 1) Mc) k (m + 1):=by
 have hsz:d'.size=m + 1:=by rw [hp.1]; simp
 have Tb:d'.toList.Perm (Array.ofFn (fun i:Fin (m + 1)=>i)).toList:=by
  have:=hp.2.2
  have e1:d'.extract 0 d'.size=d':=by simp
  rw [hsz] at e1
  have e2:(Array.ofFn (fun i:Fin (m + 1)=>i)).extract 0 (Array.ofFn (fun i:Fin (m + 1)=>i)).size=Array.ofFn (fun i:Fin (m + 1)=>i):=by simp
  rw [show (Array.ofFn (fun i:Fin (m + 1)=>i)).size=m + 1 by simp] at e2
  rwa [e1,e2] at this
 -- a rank is how many there are that are less
 have ZZ:∀ i:Fin (m + 1),lg (cP (m + 1) Mc) i.val=d'.toList.countP fun j=>lt j i:=fun i=>by
  rw [ajM i.isLt,Tb.countP_eq]
  unfold rk1
  have aqK:(List.range (m + 1))=(Array.ofFn (fun i:Fin (m + 1)=>i)).toList.map (·.val):=by
   apply List.ext_getElem?
   intro k
   by_cases hk:k < m + 1
   ·rw [List.getElem?_range hk,List.getElem?_map,Array.getElem?_toList,Array.getElem?_ofFn,dif_pos hk]
    rfl
   ·rw [List.getElem?_eq_none (by simpa using hk),List.getElem?_eq_none (by simpa using hk)]
  rw [aqK,List.countP_map]
  congr 1
  funext j
  simp only [Function.comp,hl]
 have aq1:∀ k,(hk:k < m + 1)->d'.toList[k]? = some (d'[k]!):=fun k hk=>by
  rw [Array.getElem?_toList,Array.getElem?_eq_getElem (by omega),getElem!_pos d' k (by omega)]
 have ajN:∀ i j:Fin (m + 1),lt i j=true↔lg (cP (m + 1) Mc) i.val < lg (cP (m + 1) Mc) j.val:=fun i j=>by rw [hl]; exact hs _ _ i.isLt j.isLt
 have aBV:∀ i:Fin (m + 1),lt i i=false:=fun i=>by
  cases h:lt i i with
  | false=>rfl
  | true=>have:=(ajN i i).1 h; omega
 have hsplit:∀ (k:Nat) (p:Fin (m + 1)->Bool),d'.toList.countP p=(d'.toList.take k).countP p + (d'.toList.drop k).countP p:=fun k p=>by
  rw [<- List.countP_append,List.take_append_drop]
 intro k hk
 have hle:lg (cP (m + 1) Mc) (d'[k]!).val<=k:=by
  rw [ZZ,hsplit k]
  have h0:(d'.toList.drop k).countP (fun j=>lt j (d'[k]!))=0:=by
   rw [List.countP_eq_zero]
   intro x hx
   obtain ⟨j,hj,rfl⟩:=List.getElem_of_mem hx
   have hjl:k + j < m + 1:=by simp at hj; omega
   have e:(d'.toList.drop k)[j]=d'[k + j]! := by
    have:=aq1 (k + j) hjl
    rw [List.getElem_drop]
    rw [List.getElem?_eq_getElem (by simp; omega)] at this
    exact Option.some.inj this
   rw [e]
   by_cases hj0:j=0
   ·subst hj0; simp [aBV]
   ·have:=hso k (k + j) (Nat.zero_le _) (by omega) hjl
    simp [this]
  rw [h0]
  have:=List.countP_le_length (p:=fun j=>lt j (d'[k]!)) (l:=d'.toList.take k)
  simp at this
  simp only [Nat.add_zero]
  omega
 refine Nat.le_antisymm (Lf (d'[k]!).isLt hle) ?_
 rcases Ta (l:=cP (m + 1) Mc) (k:=k) (m + 1) with h0 | ⟨j,hj,hjk⟩
 ·rw [h0]; exact Nat.zero_le _
 rw [<- hjk]
 have aBg:lg (cP (m + 1) Mc) j<=k:=by rw [hjk]; exact SZ _
 refine Nat.le_of_not_lt fun hlt=>?_
 have hc:=ZZ ⟨j,hj⟩
 rw [hsplit (k + 1)] at hc
 have hall:(d'.toList.take (k + 1)).countP (fun x=>lt x ⟨j,hj⟩)=(d'.toList.take (k + 1)).length:=by
  rw [List.countP_eq_length]
  intro x hx
  obtain ⟨q,hq,rfl⟩:=List.getElem_of_mem hx
  have hqk:q < k + 1:=by simp at hq; omega
  have hql:q < m + 1:=by omega
  have e:(d'.toList.take (k + 1))[q]=d'[q]! := by
   have:=aq1 q hql
   rw [List.getElem_take]
   rw [List.getElem?_eq_getElem (by simp; omega)] at this
   exact Option.some.inj this
  rw [e]
  refine (ajN _ _).2 ?_
  show lg (cP (m + 1) Mc) (d'[q]!).val < lg (cP (m + 1) Mc) j
  by_cases hqe:q=k
  ·subst hqe; exact hlt
  ·have h1:=hso q k (Nat.zero_le _) (by omega) hk
   have h2:¬ lg (cP (m + 1) Mc) (d'[k]!).val < lg (cP (m + 1) Mc) (d'[q]!).val:=fun z=>by rw [(ajN _ _).2 z] at h1; cases h1
   omega
 rw [hall] at hc
 have hlen:(d'.toList.take (k + 1)).length=k + 1:=by simp; omega
 have hc:lg (cP (m + 1) Mc) j=(d'.toList.take (k + 1)).length + _:=hc
 omega
open Go.Sort Go.Proofs Go.Shelf in
theorem Hf {ρr:Ren} (L:SlLaysF.n6 P ρr) {g:FuncId} (hg:aE P g) {e:Ty} (he:e.one=true) {pre:(fO e).den->Bool} {fn:(fO e).den->nh.den} (hh:Go.Dm.Holds P g ⟨fO e,nh,pre,fn⟩):fH P (ρr.f 6) (IL g e pre fn):=by
 intro N G s a w ρ S F hG h args us cv hlen hargs hlo hall hyg; clear hyg
 unfold IL at hall ⊢
 split at hall
 case h_2=>exact (hall .bad rfl rfl).elim
 rename_i id bB g'
 split at hall
 case h_2=>exact (hall .bad rfl rfl).elim
 rename_i cur T e' s0 ho hgg
 split at hall
 case h_2=>exact (hall .bad rfl rfl).elim
 rename_i sl hcast vh
 obtain ⟨heq,WR⟩:=bK hcast
 have he':e'=rX e:=by injection heq
 subst he'
 obtain rfl:sl=s0:=WR
 cases Nat.eq_of_beq_eq_true vh
 cases Nat.eq_of_beq_eq_true hgg
 cases hb:Jz pre fn sl with
 | false=>rw [hb] at hall; exact absurd rfl (hall .bad rfl)
 | true =>
 simp only [Jz,Bool.and_eq_true,Nat.blt_eq,List.all_eq_true,List.mem_range] at hb
 obtain ⟨⟨⟨hn0,xU⟩,hpre⟩,aq2⟩:=hb
 obtain ⟨r2,r3⟩:aBU fn sl:=by
  obtain ⟨q1,q2⟩:=QZ.1 aq2
  refine ⟨q1,fun i j hi hj e=>?_⟩
  by_cases hij:i=j
  ·rw [hij]; exact SY.refl _ _
  ·exact uI _ _ _ (q2 i j hi hj hij e)
 obtain ⟨m,hm⟩:∃ m,sl.n=m + 1:=⟨sl.n - 1,by omega⟩
 match us,hlen with
 | [v1,v2],_ =>
 have vz:=hargs 0 _ v1 rfl rfl
 have hv2:=hargs 1 _ v2 rfl rfl
 obtain ⟨_,cs,hv2,hcs⟩:=hv2
 have hcs:cs=[]:=by cases cs with | nil=>rfl | cons _ _=>exact hcs.elim
 subst hcs
 obtain ⟨_,_,hrow⟩:=vz
 have dn:=h.obj id
 rw [ho] at dn
 obtain ⟨⟨hfl,hpos⟩,⟨_,q⟩ | ⟨b,arr,hρ,kV,hhb,hsz,hcells,hS⟩⟩:=dn
 ·omega
 rcases (hrow _ _ _ _ ho).2 rfl with ⟨q,_⟩ | ⟨b',cap,aHg,vz,hnc,Qp,_,hcap⟩
 ·omega
 rw [hρ] at aHg; cases aHg
 have hblk:b < w.heap.size:=(Array.getElem?_eq_some_iff.1 hhb).1
 have hc1:(rX e).cells=1:=rfl
 have aq3:∀ i,i < sl.n->∃ v,R P (rX e) S w (sl.g i) [v]/\arr[i]? = some v:=fun i hi=>by
  obtain ⟨us,u1,u2,u3⟩:=hcells i hi
  obtain ⟨v,rfl⟩:∃ v,us=[v]:=List.length_eq_one_iff.1 (by rw [u2]; rfl)
  exact ⟨v,u1,by have:=u3 0 v rfl; rw [hc1] at this; simpa using this⟩
 let enc:Fin (m + 1)->Value:=fun i=>Classical.choose (aq3 i.val (by omega))
 have VL:∀ i:Fin (m + 1),R P (rX e) S w (sl.g i.val) [enc i]/\arr[i.val]? = some (enc i):=fun i=>Classical.choose_spec (aq3 i.val (by omega))
 generalize enc=enc at VL
 let cf:Fin (m + 1)->Fin (m + 1)->Int:=fun i j=>(show Int×Unit from fn ((sl.g i.val).1,((sl.g j.val).1,()))).1
 have jK:∀ i j:Fin (m + 1),ltOf cf i j=vZ fn sl i.val j.val:=fun i j=>rfl
 have hlt:∀ i j:Fin (m + 1),ltOf cf i j=true↔lg (cP sl.n (vZ fn sl)) i.val < lg (cP sl.n (vZ fn sl)) j.val:=fun i j=>r2 i.val j.val (by omega) (by omega)
 have hO:SWO (ltOf cf):=by
  refine ⟨fun x=>?_,fun x y z h1 h2=>?_,fun x y z h1 h2=>?_⟩
  ·cases hq:ltOf cf x x with
   | false=>rfl
   | true=>have:=(hlt x x).1 hq; omega
  ·exact (hlt _ _).2 (Nat.lt_trans ((hlt _ _).1 h1) ((hlt _ _).1 h2))
  ·cases hq:ltOf cf x z with
   | false=>rfl
   | true =>
    have q1:¬ lg (cP sl.n (vZ fn sl)) x.val < lg (cP sl.n (vZ fn sl)) y.val:=fun q=>by rw [(hlt _ _).2 q] at h1; cases h1
    have q2:¬ lg (cP sl.n (vZ fn sl)) y.val < lg (cP sl.n (vZ fn sl)) z.val:=fun q=>by rw [(hlt _ _).2 q] at h2; cases h2
    have:=(hlt x z).1 hq
    omega
 have hd:(Array.ofFn (fun i:Fin (m + 1)=>i)).size=m + 1:=by simp
 have hdg:∀ i,(hi:i < m + 1)->(Array.ofFn (fun i:Fin (m + 1)=>i))[i]! = ⟨i,hi⟩:=fun i hi=>by
  rw [getElem!_pos _ i (by simpa using hi)]; simp
 have hH:Go.Sort.Holds enc w b 0 (Array.ofFn (fun i:Fin (m + 1)=>i)):=by
  intro j hj
  rw [hd] at hj
  refine ⟨?_,by simp [World.frozen?,hhb]⟩
  rw [cell_of_row w b _ arr T _ hhb,Nat.zero_add,hdg _ hj]
  exact (VL ⟨j,hj⟩).2
 have hcmp:CmpLays1 P g #[] enc cf b 0 (Array.ofFn (fun i:Fin (m + 1)=>i)).size w:=by
  intro q os dk hdk x y
  have hwx:Ext0 S w S (sortWorld enc w b 0 q dk os):=by
   have uK:∀ k,k < w.heap.size->k≠b->(sortWorld enc w b 0 q dk os).heap[k]? = w.heap[k]? := fun k hk1 hk2=>by
    unfold sortWorld grow putRow mapBlock
    simp only [Sort.ahead]
    rw [Array.getElem?_append_left (by simpa using hk1),Array.getElem?_modify,if_neg (Ne.symm hk2)]
   have uk:(sortWorld enc w b 0 q dk os).heap[b]? = some (.cells (putCells enc 0 dk arr) T (0,0)):=by
    unfold sortWorld grow putRow mapBlock
    simp only [Sort.ahead]
    rw [Array.getElem?_append_left (by simpa using hblk),Array.getElem?_modify,if_pos rfl,hhb]
    rfl
   have hsize:w.heap.size<=(sortWorld enc w b 0 q dk os).heap.size:=by
    unfold sortWorld grow putRow mapBlock
    simp [Sort.ahead]
   refine ⟨hsize,fun _ _ z=>z,fun b1 o1 z=>World.cell?_of_block (a:=⟨b1,o1,none⟩) (uK b1 (h.bd b1 o1 z) fun e1=>hS o1 (e1 ▸ z)),fun b1 o1 es c z mm=>(uK b1 (h.bd b1 o1 z) fun e1=>hS o1 (e1 ▸ z)).trans mm,fun b1 o1 z=>Nat.lt_of_lt_of_le (h.bd b1 o1 z) hsize,
    .one (b:=b) hsize (by unfold sortWorld grow putRow mapBlock; simp [Sort.ahead]) uK fun It T1 f1 _ hc=>?_⟩
   rw [uk] at hc
   cases hc
   exact ⟨arr,T,_,hhb,by simp [putCells]⟩
  have hone:∀ x:Fin (m + 1),R P e S w (sl.g x.val).1 [enc x]:=fun x=>by
   obtain ⟨u,ws,h1,h2,h3⟩:=(VL x).1
   cases h1; exact h2
  have hR:R P (fO e) S (sortWorld enc w b 0 q dk os) ((sl.g x.val).1,((sl.g y.val).1,())) [enc x,enc y]:=
   ⟨_,_,rfl,(hone x).mono hwx,⟨_,_,rfl,(hone y).mono hwx,rfl⟩⟩
  have hc:=hh S _ hwx.bd _ _ (hpre x.val (by omega) y.val (by omega)) hR
  simp only [Array.append_empty]
  refine hc.mono ?_
  rintro en w2 ⟨S2,rs,rfl,hr,hex,Ar⟩
  obtain ⟨u,ws,rfl,hu,hws⟩:=hr
  have hws:ws=[]:=hws
  subst hws
  have hu:[u]=[.int .i64 _]:=hu
  cases hu
  refine ⟨rfl,w2.drawn - (sortWorld enc w b 0 q dk os).drawn,w2.heap.extract (sortWorld enc w b 0 q dk os).heap.size w2.heap.size,?_⟩
  have LX:=hex.pl.drawn
  generalize sortWorld enc w b 0 q dk os=W at Ar LX
  obtain ⟨JC,aq4,Ra,os2,adq⟩:=w2
  have e1:os2=W.os:=Ar.os
  have e2:aq4=W.tape:=Ar.tape
  have e3:adq=W.output:=Ar.output
  have hs1:W.heap.size<=JC.size:=Ar.size
  have Sw:∀ k,k < W.heap.size->JC[k]? = W.heap[k]? := Ar.block
  subst e1 e2 e3
  have LX:W.drawn<=Ra:=LX
  have eh:JC=W.heap ++ JC.extract W.heap.size JC.size:=by
   apply Array.ext_getElem?
   intro k
   by_cases hk:k < W.heap.size
   ·rw [Array.getElem?_append_left hk]; exact Sw k hk
   ·rw [Array.getElem?_append_right (by omega),Array.getElem?_extract]
    by_cases hk2:k < JC.size
    ·rw [if_pos (by omega)]; congr 1; omega
    ·rw [if_neg (by omega),Array.getElem?_eq_none (by omega)]
  simp only [grow,World.drewN]
  congr 1
  show Ra=W.drawn + (Ra - W.drawn)
  omega
 have h1:OneCell enc:=fun x=>R.flat hfl (VL x).1 _ (List.mem_singleton.2 rfl)
 have ac0:(Array.ofFn (fun i:Fin (m + 1)=>i)).size < 4611686018427387904:=by rw [hd]; omega
 have SK:=Any.slices_SortFunc L enc h1 cf hO g #[] b 0 cap (Array.ofFn (fun i:Fin (m + 1)=>i)) w hg hcmp hH hblk ac0
 rw [hd] at SK
 rw [vz,hv2]
 rw [hm]
 refine SK.mono ?_
 rintro en w' ⟨rfl,d',nd,os,Tb,hsort,rfl⟩
 have ajP:=NI (m:=m) (Mc:=vZ fn sl) jK (fun i j hi hj=>by have:=r2 i j (by omega) (by omega); rwa [hm] at this) Tb hsort
 have hd':d'.size=m + 1:=by rw [Tb.1]; exact hd
 have uK:∀ k,k≠b->(putRow enc w b 0 d').heap[k]? = w.heap[k]? := fun k hk2=>by
  unfold putRow mapBlock
  rw [Array.getElem?_modify,if_neg (Ne.symm hk2)]
 have uk:(putRow enc w b 0 d').heap[b]? = some (.cells (putCells enc 0 d' arr) T (0,0)):=by
  unfold putRow mapBlock
  rw [Array.getElem?_modify,if_pos rfl,hhb]
  rfl
 have hsize:(putRow enc w b 0 d').heap.size=w.heap.size:=by simp
 have ex:Ext0 S w S (putRow enc w b 0 d'):=⟨by omega,fun _ _ z=>z,fun b1 o1 z=>World.cell?_of_block (a:=⟨b1,o1,none⟩) (uK b1 fun e1=>hS o1 (e1 ▸ z)),fun b1 o1 es c z mm=>(uK b1 fun e1=>hS o1 (e1 ▸ z)).trans mm,fun b1 o1 z=>by rw [hsize]; exact h.bd b1 o1 z,
  .one (b:=b) (by omega) (Nat.le_refl _) (fun k _ hk2=>uK k hk2) fun It T1 f1 _ hc=>by rw [uk] at hc; cases hc; exact ⟨arr,T,_,hhb,by simp [putCells]⟩⟩
 have ht:=h.MP hG (id:=id) (o:=.row bB T (rX e) (JB fn sl)) (by rw [ho]; trivial) hρ ex ⟨rfl,rfl,rfl,by omega,fun k hk=>uK k hk.2⟩ hsize (fun _ _ z=>.inl z) (by rw [ho]; exact .inr ⟨_,_,rfl,Nat.le_refl _,fun _=>⟨rfl,.inl rfl⟩⟩)
  ⟨⟨hfl,hpos⟩,.inr ⟨b,_,hρ,kV,uk,by simpa [putCells,JB] using hsz,fun k hk2=>by
   have hk2:k < sl.n:=hk2
   have hrk:=ajP k (by omega)
   have Ng:=FJ (l:=cP sl.n (vZ fn sl)) (k:=uJ (cP sl.n (vZ fn sl)) k sl.n) (n:=sl.n) ⟨(d'[k]!).val,by omega,by rw [hm]; exact hrk⟩
   refine ⟨[enc (d'[k]!)],?_,rfl,fun j v hj=>?_⟩
   ·show R P (rX e) S _ (sl.g (JA (cP sl.n (vZ fn sl)) (uJ (cP sl.n (vZ fn sl)) k sl.n) sl.n)) _
    refine R.eqv (r3 (d'[k]!).val _ (by omega) Ng.1 ?_) ((VL _).1.mono ex)
    rw [Ng.2,hm]; exact hrk
   ·obtain rfl:j=0:=by
     have:=(List.getElem?_eq_some_iff.1 hj).1
     simp at this; exact this
    have hj:enc (d'[k]!)=v:=by simpa using hj
    subst hj
    have hin:k < arr.size:=by have:=(Array.getElem?_eq_some_iff.1 (VL ⟨k,by omega⟩).2).1; exact this
    rw [show k * (rX e).cells + 0=k from by rw [hc1]; omega]
    unfold putCells
    rw [Array.getElem?_mapIdx,Array.getElem?_eq_getElem hin]
    simp only [Option.map_some,Nat.zero_add,Nat.sub_zero,Nat.zero_le,true_and,hd']
    rw [if_pos (by omega)],hS⟩⟩
 have Ar:Below (putRow enc w b 0 d').heap.size (putRow enc w b 0 d') (sortWorld enc w b 0 nd d' os):=by
  refine ⟨rfl,rfl,rfl,?_,fun k hk=>?_⟩
  ·unfold sortWorld grow
   simp [Sort.ahead]
  ·unfold sortWorld grow
   rw [Array.getElem?_append_left (by simpa using hk)]
   rfl
 have aBY:Ext S (putRow enc w b 0 d') S (sortWorld enc w b 0 nd d' os):=
  ⟨⟨Ar.size,fun _ _ z=>z,fun b1 o1 z=>World.cell?_of_block (a:=⟨b1,o1,none⟩) (Ar.block b1 (ex.bd b1 o1 z)),fun b1 o1 es c z mm=>(Ar.block b1 (ex.bd b1 o1 z)).trans mm,fun b1 o1 z=>Nat.lt_of_lt_of_le (ex.bd b1 o1 z) Ar.size,
   .below Ar (by unfold sortWorld grow; simp [Sort.ahead])⟩,fun _ _ z=>.inl z⟩
 have hg2:=ht.grow hG.c aBY Ar
 exact ⟨_,rfl,.tuple #[],ρ,S,F,rfl,hg2.of_eq rfl rfl rfl rfl,[],rfl,rfl⟩
end Go.Dm

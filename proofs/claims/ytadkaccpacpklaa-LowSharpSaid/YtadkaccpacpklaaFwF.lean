/-
 The framework: an interpreter over typed data,and why what it says of a call is true.
-/
import Derived.Test.YtadkaccpacpklaaFwE
import Derived.Shelf.RegionOpenPlain
import Derived.Deep.LoopGhost
import Derived.Deep.RegionHeldLaw
import Derived.Deep.RegionLaw
import Derived.Deep.AppendLies
import Derived.OwnWalk
import Derived.Deep.Draws
import Derived.Lib.Walk
import Derived.Sort.WalkB12
import Derived.Lib.SliceRun
set_option linter.unusedVariables false
set_option linter.unusedSimpArgs false
namespace Go.Dm
open Go.RowKit Go.Sort Go.Proofs Go.Shelf
section
variable {α:Type} [Inhabited α]
def kp (ef:α->α->Bool) (d:Array α) (j:Nat):Bool:=decide (j=0) || !ef d[j]! d[j - 1]!
def ci (ef:α->α->Bool) (d:Array α) (m:Nat):List Nat:=(List.range m).filter (kp ef d)
theorem aid (ef:α->α->Bool) (d:Array α) (m:Nat):ci ef d (m + 1)=ci ef d m ++ (if kp ef d m=true then [m] else []):=by
 unfold ci
 rw [List.range_succ,List.filter_append]
 congr 1
 rw [List.filter_cons,List.filter_nil]
theorem aqk {ef:α->α->Bool} {d:Array α} {m:Nat} (h:∀ j,j < m->kp ef d j=true):ci ef d m=List.range m:=by
 unfold ci
 rw [List.filter_eq_self.2 fun j hj=>h j (List.mem_range.1 hj)]
theorem avf {ef:α->α->Bool} {d:Array α}:∀ j,j < 1->kp ef d j=true:=fun j hj=>by
 have:j=0:=by omega
 subst this; rfl
theorem avr {ef:α->α->Bool} {d:Array α} {j:Nat} (h:ef d[j]! d[j - 1]! = false):kp ef d j=true:=by
 unfold kp; rw [h]; simp
theorem avC {ef:α->α->Bool} {d:Array α} {j:Nat} (h0:0 < j) (h:ef d[j]! d[j - 1]! = true):kp ef d j=false:=by
 unfold kp
 rw [h,decide_eq_false (by omega)]; rfl
theorem apn (d:Array α) (i:Nat) (v:α) (h:i < d.size):(d.setIfInBounds i v)[i]! = v:=by
 rw [getElem!_pos _ i (by simpa using h)]; simp
theorem ajg (d:Array α) (i j:Nat) (v:α) (h:j≠i):(d.setIfInBounds i v)[j]! = d[j]! := by
 simp only [getElem!_def,Array.getElem?_setIfInBounds]
 rw [if_neg (fun e=>h e.symm)]
structure abk (ef:α->α->Bool) (d:Array α) (m k:Nat) (dk:Array α):Prop where
 size:dk.size=d.size
 len:(ci ef d m).length=k
 lt:k < m
 low:∀ j,j < k->dk[j]! = d[(ci ef d m).getD j 0]!
 high:∀ j,k<=j->dk[j]! = d[j]!
variable {ef:α->α->Bool} {d dk:Array α}
theorem abk.start {k:Nat} (hall:∀ j,j < k->kp ef d j=true) (apG:kp ef d k=false):abk ef d (k + 1) k d where
 size:=rfl
 len:=by rw [aid,apG,aqk hall]; simp
 lt:=Nat.lt_succ_self _
 low:=fun j hj=>by
  rw [aid,apG,aqk hall,if_neg (by simp),List.append_nil,List.getD_eq_getElem?_getD,List.getElem?_range hj]; rfl
 high:=fun _ _=>rfl
theorem abk.keep {m k:Nat} (h:abk ef d m k dk) (hm:m < d.size) (hk:kp ef d m=true):abk ef d (m + 1) (k + 1) (dk.setIfInBounds k d[m]!) where
 size:=by simp [h.size]
 len:=by rw [aid,hk]; simp [h.len]
 lt:=by have:=h.lt; omega
 low:=fun j hj=>by
  rw [aid,hk,if_pos rfl,List.getD_eq_getElem?_getD]
  by_cases e:j=k
  ·subst e
   rw [List.getElem?_append_right (by rw [h.len]; exact Nat.le_refl _),h.len,Nat.sub_self,apn _ _ _ (by have:=h.lt; have:=h.size; omega)]
   rfl
  ·rw [List.getElem?_append_left (by rw [h.len]; omega),ajg _ _ _ _ e,h.low j (by omega),List.getD_eq_getElem?_getD]
 high:=fun j hj=>by rw [ajg _ _ _ _ (by omega),h.high j (by omega)]
theorem abk.skip {m k:Nat} (h:abk ef d m k dk) (hk:kp ef d m=false):abk ef d (m + 1) k dk where
 size:=h.size
 len:=by rw [aid,hk]; simpa using h.len
 lt:=by have:=h.lt; omega
 low:=fun j hj=>by rw [aid,hk]; simpa using h.low j hj
 high:=h.high
def apt (P:Program) (g:Nat) (enc:α->Value) (ef:α->α->Bool) (blk off size:Nat) (w:World):Prop:=
 ∀ (m:Nat) (os:Array Obj) (dk:Array α),dk.size=size->∀ x y:α,
  Calls P g #[enc x,enc y] (sortWorld enc w blk off m dk os) fun e w'=>e = .returned (.bool (ef x y))/\∃ q os',w'=grow ((sortWorld enc w blk off m dk os).drewN q) os'
theorem aIf {P:Program} {enc:α->Value} {w0 W:World} {blk off:Nat} {g:Nat} {size:Nat} (h:SW enc w0 blk off dk W) (hC:apt P g enc ef blk off size w0) (hs:dk.size=size) (x y:α) (n:Nat) (os:Array Obj) :
  Calls P g #[enc x,enc y] (grow (W.drewN n) os) fun e w'=>e = .returned (.bool (ef x y))/\∃ q os',w'=grow ((grow (W.drewN n) os).drewN q) os':=by
 obtain ⟨m,os0,hw⟩:=h.grown n os
 rw [hw]
 exact hC m os0 dk hs x y
theorem aIk {enc:α->Value} {w0 W:World} {blk off:Nat} (h:SW enc w0 blk off dk W) (hblk:blk < w0.heap.size) {i:Nat} (hi:i < dk.size) (v:α):SW enc w0 blk off (dk.setIfInBounds i v) (W.setCell ⟨blk,off + i,none⟩ (enc v)):=by
 obtain ⟨n,os,rfl⟩:=h
 refine ⟨n,os,?_⟩
 unfold sortWorld
 rw [<- putRow_grow enc (Sort.ahead w0 n) os blk off dk hblk,putRow_set enc _ blk off dk i v hi,putRow_grow enc (Sort.ahead w0 n) os blk off _ hblk]
end
def aoh (P:Program) (f:FuncId) (z:Value):Prop:=
 ∀ (α:Type) [Inhabited α] (enc:α->Value) (ef:α->α->Bool) (g:Nat) (blk off cap:Nat) (d:Array α) (w:World),
  (∀ args w,(callFunc g args).run P w = .ok (.enter g args) w)->apt P g enc ef blk off d.size w->Row1 enc w blk off d->d.size<=cap->d.size < 4611686018427387904 ->
  Calls P f #[.slice (some ⟨blk,off,none⟩) d.size cap,.func (.func g) #[] #[]] w fun e w' =>
   (e = .returned (.slice (some ⟨blk,off,none⟩) d.size cap)/\(∀ j,j < d.size->kp ef d j=true)/\SW enc w blk off d w') \/
    ∃ (k:Nat) (dk:Array α) (W:World),e = .returned (.slice (some ⟨blk,off,none⟩) k cap)/\abk ef d d.size k dk/\SW enc w blk off dk W/\w'=W.setCells blk (off + k) (List.replicate (d.size - k) z)
@[reducible] def amr:Ty:=.cons .bool .nil
def alike {e:Ty} (fn:(fO e).den->amr.den) (s:Sl (rX e).den) (i j:Nat):Bool:=(show Bool×Unit from fn ((s.g i).1,((s.g j).1,()))).1
def ac2 {e:Ty} (fn:(fO e).den->amr.den) (s:Sl (rX e).den):List Nat:=(List.range s.n).filter fun j=>decide (j=0) || !alike fn s j (j - 1)
def aoi {e:Ty} (pre:(fO e).den->Bool) (s:Sl (rX e).den):Bool:=
 Nat.blt 0 s.n && Nat.blt s.n 4611686018427387904 && (List.range s.n).all (fun i=>(List.range s.n).all fun j=>pre ((s.g i).1,((s.g j).1,())))
def amF {e:Ty} (fn:(fO e).den->amr.den) (s:Sl (rX e).den):Sl (rX e).den:=⟨(ac2 fn s).length,fun k=>s.g (lg (ac2 fn s) k)⟩
def ajD (g:FuncId) (e:Ty) (pre:(fO e).den->Bool) (fn:(fO e).den->amr.den) (args:List Slot) (heap:Nat->aN) (_:Tr) (_:Nat):Tree OR:=
 match args with
 | [.v (.row id bB),.v (.nE g' [])]=>match heap id,Nat.beq g g' with
  | .row cur T e' s,true=>match cZ (σ:=.sl e') (.sl (rX e)) s,Nat.beq bB cur with
   | some s,true=>.br (aoi pre s) (.leaf (.ok ⟨some (.v (.row id (cur + 1))),[(id,.row (cur + 1) T (rX e) (amF fn s))],[id],false,none⟩)) (.leaf .bad)
   | _,_=>.leaf .bad
  | _,_=>.leaf .bad
 | _=>.leaf .bad
theorem amK {b:Nat}:∀ (vs:List Value) (X:World) (o:Nat) {arr:Array Value} {T:TypeId} {fr:Nat×Nat},X.heap[b]? = some (.cells arr T fr) ->
  (X.setCells b o vs).heap.size=X.heap.size/\(∀ k,k≠b->(X.setCells b o vs).heap[k]? = X.heap[k]?)/\((X.setCells b o vs).os=X.os/\(X.setCells b o vs).tape=X.tape/\(X.setCells b o vs).output=X.output/\(X.setCells b o vs).drawn=X.drawn) /\
   ∃ gC,(X.setCells b o vs).heap[b]? = some (.cells gC T fr)/\gC.size=arr.size/\∀ j,j < o->gC[j]? = arr[j]?
 | [],X,o,arr,T,fr,h=>⟨rfl,fun _ _=>rfl,⟨rfl,rfl,rfl,rfl⟩,arr,h,rfl,fun _ _=>rfl⟩
 | v :: vs,X,o,arr,T,fr,h=>by
  have h1:(X.setCell ⟨b,o,none⟩ v).heap[b]? = some (.cells (arr.setIfInBounds o v) T fr):=by
   rw [setCell_eq]
   unfold mapBlock
   rw [Array.getElem?_modify,if_pos rfl,h]
   rfl
  obtain ⟨q1,q2,q3,gC,q4,q5,q6⟩:=amK vs (X.setCell ⟨b,o,none⟩ v) (o + 1) h1
  have hs:(X.setCell ⟨b,o,none⟩ v).heap.size=X.heap.size:=by rw [setCell_eq]; unfold mapBlock; simp
  refine ⟨q1.trans hs,fun k hk=>(q2 k hk).trans ?_,⟨q3.1.trans ?_,q3.2.1.trans ?_,q3.2.2.1.trans ?_,q3.2.2.2.trans ?_⟩,gC,q4,by rw [q5]; simp,fun j hj=>?_⟩
  ·rw [setCell_eq]
   unfold mapBlock
   rw [Array.getElem?_modify,if_neg (Ne.symm hk)]
  ·rw [setCell_eq]; rfl
  ·rw [setCell_eq]; rfl
  ·rw [setCell_eq]; rfl
  ·rw [setCell_eq]; rfl
  ·rw [q6 j (by omega),Array.getElem?_setIfInBounds,if_neg (by omega)]
theorem am9 {P:Program} {f:FuncId} {z:Value} (hC:aoh P f z) {g:FuncId} (hg:aE P g) {e:Ty} {pre:(fO e).den->Bool} {fn:(fO e).den->amr.den} (hh:Go.Dm.Holds P g ⟨fO e,amr,pre,fn⟩):fH P f (ajD g e pre fn):=by
  intro N G s a w ρ S F hG h args us cv hlen hargs hlo hall hyg; clear hyg
  unfold ajD at hall ⊢
  split at hall
  case h_2=>exact (hall .bad rfl rfl).elim
  rename_i id bB g'
  split at hall
  case h_2=>exact (hall .bad rfl rfl).elim
  rename_i cur T e' s0 ho hgg
  split at hall
  case h_2=>exact (hall .bad rfl rfl).elim
  rename_i sl hcast vh
  obtain ⟨heq,WR⟩:=bK hcast
  have he':e'=rX e:=by injection heq
  subst he'
  obtain rfl:sl=s0:=WR
  cases Nat.eq_of_beq_eq_true vh
  cases Nat.eq_of_beq_eq_true hgg
  cases hb:aoi pre sl with
  | false=>rw [hb] at hall; exact absurd rfl (hall .bad rfl)
  | true =>
  simp only [aoi,Bool.and_eq_true,Nat.blt_eq,List.all_eq_true,List.mem_range] at hb
  obtain ⟨⟨hn0,xU⟩,hpre⟩:=hb
  obtain ⟨m,hm⟩:∃ m,sl.n=m + 1:=⟨sl.n - 1,by omega⟩
  match us,hlen with
  | [v1,v2],_ =>
  have vz:=hargs 0 _ v1 rfl rfl
  have hv2:=hargs 1 _ v2 rfl rfl
  obtain ⟨_,cs,hv2,hcs⟩:=hv2
  have hcs:cs=[]:=by cases cs with | nil=>rfl | cons _ _=>exact hcs.elim
  subst hcs
  obtain ⟨_,_,hrow⟩:=vz
  have dn:=h.obj id
  rw [ho] at dn
  obtain ⟨⟨hfl,hpos⟩,⟨_,q⟩ | ⟨b,arr,hρ,kV,hhb,hsz,hcells,hS⟩⟩:=dn
  · omega
  rcases (hrow _ _ _ _ ho).2 rfl with ⟨q,_⟩ | ⟨b',cap,aHg,vz,hnc,Qp,_,hcap⟩
  · omega
  rw [hρ] at aHg; cases aHg
  have hblk:b < w.heap.size:=(Array.getElem?_eq_some_iff.1 hhb).1
  have hc1:(rX e).cells=1:=rfl
  have aq3:∀ i,i < sl.n->∃ v,R P (rX e) S w (sl.g i) [v]/\arr[i]? = some v:=fun i hi=>by
    obtain ⟨us,u1,u2,u3⟩:=hcells i hi
    obtain ⟨v,rfl⟩:∃ v,us=[v]:=List.length_eq_one_iff.1 (by rw [u2]; rfl)
    exact ⟨v,u1,by have:=u3 0 v rfl; rw [hc1] at this; simpa using this⟩
  let enc:Fin (m + 1)->Value:=fun i=>Classical.choose (aq3 i.val (by omega))
  have VL:∀ i:Fin (m + 1),R P (rX e) S w (sl.g i.val) [enc i]/\arr[i.val]? = some (enc i):=fun i=>Classical.choose_spec (aq3 i.val (by omega))
  generalize enc=enc at VL
  let ef:Fin (m + 1)->Fin (m + 1)->Bool:=fun i j=>alike fn sl i.val j.val
  have hd:(Array.ofFn (fun i:Fin (m + 1)=>i)).size=m + 1:=by simp
  have hdg:∀ i,(hi:i < m + 1)->(Array.ofFn (fun i:Fin (m + 1)=>i))[i]! = ⟨i,hi⟩:=fun i hi=>by
    rw [getElem!_pos _ i (by simpa using hi)]; simp
  have hH:Go.Sort.Holds enc w b 0 (Array.ofFn (fun i:Fin (m + 1)=>i)):=by
    intro j hj
    rw [hd] at hj
    refine ⟨?_,by simp [World.frozen?,hhb]⟩
    rw [cell_of_row w b _ arr T _ hhb,Nat.zero_add,hdg _ hj]
    exact (VL ⟨j,hj⟩).2
  have hcmp:apt P g enc ef b 0 (Array.ofFn (fun i:Fin (m + 1)=>i)).size w:=by
    intro q os dk hdk x y
    have hwx:Ext0 S w S (sortWorld enc w b 0 q dk os):=by
      have uK:∀ k,k < w.heap.size->k≠b->(sortWorld enc w b 0 q dk os).heap[k]? = w.heap[k]? := fun k hk1 hk2=>by
        unfold sortWorld grow putRow mapBlock
        simp only [Sort.ahead]
        rw [Array.getElem?_append_left (by simpa using hk1),Array.getElem?_modify,if_neg (Ne.symm hk2)]
      have uk:(sortWorld enc w b 0 q dk os).heap[b]? = some (.cells (putCells enc 0 dk arr) T (0,0)):=by
        unfold sortWorld grow putRow mapBlock
        simp only [Sort.ahead]
        rw [Array.getElem?_append_left (by simpa using hblk),Array.getElem?_modify,if_pos rfl,hhb]
        rfl
      have hsize:w.heap.size<=(sortWorld enc w b 0 q dk os).heap.size:=by
        unfold sortWorld grow putRow mapBlock
        simp [Sort.ahead]
      refine ⟨hsize,fun _ _ z=>z,fun b1 o1 z=>World.cell?_of_block (a:=⟨b1,o1,none⟩) (uK b1 (h.bd b1 o1 z) fun e1=>hS o1 (e1 ▸ z)),fun b1 o1 es c z mm=>(uK b1 (h.bd b1 o1 z) fun e1=>hS o1 (e1 ▸ z)).trans mm,fun b1 o1 z=>Nat.lt_of_lt_of_le (h.bd b1 o1 z) hsize,
        .one (b:=b) hsize (by unfold sortWorld grow putRow mapBlock; simp [Sort.ahead]) uK fun It T1 f1 _ hc=>?_⟩
      rw [uk] at hc
      cases hc
      exact ⟨arr,T,_,hhb,by simp [putCells]⟩
    have hone:∀ x:Fin (m + 1),R P e S w (sl.g x.val).1 [enc x]:=fun x=>by
      obtain ⟨u,ws,h1,h2,h3⟩:=(VL x).1
      cases h1; exact h2
    have hR:R P (fO e) S (sortWorld enc w b 0 q dk os) ((sl.g x.val).1,((sl.g y.val).1,())) [enc x,enc y]:=
      ⟨_,_,rfl,(hone x).mono hwx,⟨_,_,rfl,(hone y).mono hwx,rfl⟩⟩
    have hc:=hh S _ hwx.bd _ _ (hpre x.val (by omega) y.val (by omega)) hR
    refine hc.mono ?_
    rintro en w2 ⟨S2,rs,rfl,hr,hex,Ar⟩
    obtain ⟨u,ws,rfl,hu,hws⟩:=hr
    have hws:ws=[]:=hws
    subst hws
    have hu:[u]=[.bool _]:=hu
    cases hu
    refine ⟨rfl,w2.drawn - (sortWorld enc w b 0 q dk os).drawn,w2.heap.extract (sortWorld enc w b 0 q dk os).heap.size w2.heap.size,?_⟩
    have LX:=hex.pl.drawn
    generalize sortWorld enc w b 0 q dk os=W at Ar LX
    obtain ⟨JC,aq4,Ra,os2,adq⟩:=w2
    have e1:os2=W.os:=Ar.os
    have e2:aq4=W.tape:=Ar.tape
    have e3:adq=W.output:=Ar.output
    have hs1:W.heap.size<=JC.size:=Ar.size
    have Sw:∀ k,k < W.heap.size->JC[k]? = W.heap[k]? := Ar.block
    subst e1 e2 e3
    have LX:W.drawn<=Ra:=LX
    have eh:JC=W.heap ++ JC.extract W.heap.size JC.size:=by
      apply Array.ext_getElem?
      intro k
      by_cases hk:k < W.heap.size
      · rw [Array.getElem?_append_left hk]; exact Sw k hk
      · rw [Array.getElem?_append_right (by omega),Array.getElem?_extract]
        by_cases hk2:k < JC.size
        · rw [if_pos (by omega)]; congr 1; omega
        · rw [if_neg (by omega),Array.getElem?_eq_none (by omega)]
    simp only [grow,World.drewN]
    congr 1
    show Ra=W.drawn + (Ra - W.drawn)
    omega
  have h1:OneCell enc:=fun x=>R.flat hfl (VL x).1 _ (List.mem_singleton.2 rfl)
  have ac0:(Array.ofFn (fun i:Fin (m + 1)=>i)).size < 4611686018427387904:=by rw [hd]; omega
  have heg:∀ args w,(callFunc g args).run P w = .ok (.enter g args) w:=hg
  have SK:=hC (Fin (m + 1)) enc ef g b 0 cap (Array.ofFn (fun i:Fin (m + 1)=>i)) w heg hcmp ⟨h1,hH,hblk⟩ (by rw [hd]; omega) ac0
  rw [hd] at SK
  have hkp:∀ j,j < m + 1->kp ef (Array.ofFn (fun i:Fin (m + 1)=>i)) j=(decide (j=0) || !alike fn sl j (j - 1)):=fun j hj=>by
    unfold kp
    rw [hdg j hj,hdg (j - 1) (by omega)]
  have hci:ci ef (Array.ofFn (fun i:Fin (m + 1)=>i)) (m + 1)=ac2 fn sl:=by
    unfold ci ac2
    rw [hm]
    exact List.filter_congr fun j hj=>hkp j (List.mem_range.1 hj)
  rw [vz,hv2]
  rw [hm]
  refine SK.mono ?_
  intro en w' hpost
  -- what both ends have in common
  have key:∃ (k:Nat) (dk:Array (Fin (m + 1))),en = .returned (.slice (some ⟨b,0,none⟩) k cap)/\k=(ac2 fn sl).length/\k<=m + 1/\(∀ j,j < k->dk[j]! = (Array.ofFn (fun i:Fin (m + 1)=>i))[(ac2 fn sl).getD j 0]!)/\dk.size=m + 1 /\
      (w.heap.size<=w'.heap.size/\(∀ i,i < w.heap.size->i≠b->w'.heap[i]? = w.heap[i]?)/\(w'.os=w.os/\w'.tape=w.tape/\w'.output=w.output/\w.drawn<=w'.drawn) /\
        ∃ gC,w'.heap[b]? = some (.cells gC T (0,0))/\gC.size=arr.size/\∀ j,j < k->gC[j]? = some (enc dk[j]!)):=by
    have base:∀ (W:World) (dk:Array (Fin (m + 1))),dk.size=m + 1->SW enc w b 0 dk W->w.heap.size<=W.heap.size/\(∀ i,i < w.heap.size->i≠b->W.heap[i]? = w.heap[i]?)/\(W.os=w.os/\W.tape=w.tape/\W.output=w.output/\w.drawn<=W.drawn) /\
        ∃ gC,W.heap[b]? = some (.cells gC T (0,0))/\gC.size=arr.size/\∀ j,j < m + 1->gC[j]? = some (enc dk[j]!):=by
      rintro W dk hdk ⟨nd,os,rfl⟩
      refine ⟨?_,fun i hi hne=>?_,⟨rfl,rfl,rfl,?_⟩,putCells enc 0 dk arr,?_,by simp [putCells],fun j hj=>?_⟩
      · unfold sortWorld grow putRow mapBlock
        simp [Sort.ahead]
      · unfold sortWorld grow putRow mapBlock
        simp only [Sort.ahead]
        rw [Array.getElem?_append_left (by simpa using hi),Array.getElem?_modify,if_neg (Ne.symm hne)]
      · unfold sortWorld grow putRow mapBlock
        simp [Sort.ahead]
      · unfold sortWorld grow putRow mapBlock
        simp only [Sort.ahead]
        rw [Array.getElem?_append_left (by simpa using hblk),Array.getElem?_modify,if_pos rfl,hhb]
        rfl
      · have hin:j < arr.size:=by have:=(Array.getElem?_eq_some_iff.1 (VL ⟨j,hj⟩).2).1; exact this
        unfold putCells
        rw [Array.getElem?_mapIdx,Array.getElem?_eq_getElem hin]
        simp only [Option.map_some,Nat.zero_add,Nat.sub_zero,Nat.zero_le,true_and,hdk]
        rw [if_pos hj]
    rcases hpost with ⟨hen,aIm,hW⟩ | ⟨k,dk,W,hen,hI,hW,rfl⟩
    · have hst:ac2 fn sl=List.range (m + 1):=by rw [<- hci]; exact aqk aIm
      obtain ⟨q1,q2,q3,gC,q4,q5,q6⟩:=base _ _ hd hW
      refine ⟨m + 1,_,hen,by rw [hst]; simp,Nat.le_refl _,fun j hj=>?_,hd,q1,q2,q3,gC,q4,q5,q6⟩
      rw [hst,List.getD_eq_getElem?_getD,List.getElem?_range hj]; rfl
    · have hdk:dk.size=m + 1:=hI.size.trans hd
      have hlt:=hI.lt
      have hlen:=hI.len
      have aJi:=hI.low
      rw [hci] at hlen aJi
      obtain ⟨q1,q2,q3,gC,q4,q5,q6⟩:=base _ _ hdk hW
      obtain ⟨r1,r2,r3,mW,r4,r5,r6⟩:=amK (List.replicate (m + 1 - k) z) W (0 + k) q4
      refine ⟨k,dk,hen,hlen.symm,by omega,aJi,hdk,by omega,fun i hi hne=>(r2 i hne).trans (q2 i hi hne),⟨r3.1.trans q3.1,r3.2.1.trans q3.2.1,r3.2.2.1.trans q3.2.2.1,by rw [r3.2.2.2]; exact q3.2.2.2⟩,mW,r4,r5.trans q5,fun j hj=>?_⟩
      rw [r6 j (by omega)]
      exact q6 j (by omega)
  obtain ⟨k,dk,rfl,hk1,hk2,hdk,hds,bax,uK,⟨hos,aIq,hout,aDZ⟩,gC,uk,dM,aQQ⟩:=key
  -- the row is turned,then memory grows
  let W1:World:={ w with heap:=w.heap.setIfInBounds b (.cells gC T (0,0)) }
  have W1s:W1.heap.size=w.heap.size:=by simp [W1]
  have W1b:W1.heap[b]? = some (.cells gC T (0,0)):=by simp [W1,Array.getElem?_setIfInBounds,hblk]
  have W1o:∀ i,i≠b->W1.heap[i]? = w.heap[i]? := fun i hi=>by
    show (w.heap.setIfInBounds b _)[i]? = _
    rw [Array.getElem?_setIfInBounds,if_neg (Ne.symm hi)]
  have ex:Ext0 S w S W1:=⟨by omega,fun _ _ z=>z,fun b1 o1 z=>World.cell?_of_block (a:=⟨b1,o1,none⟩) (W1o b1 fun e1=>hS o1 (e1 ▸ z)),fun b1 o1 es c z mm=>(W1o b1 fun e1=>hS o1 (e1 ▸ z)).trans mm,fun b1 o1 z=>by rw [W1s]; exact h.bd b1 o1 z,
    .one (b:=b) (by omega) (Nat.le_refl _) (fun k _ hk2=>W1o k hk2) fun It T1 f1 _ hc=>by rw [W1b] at hc; cases hc; exact ⟨arr,T,_,hhb,dM.symm⟩⟩
  have hst:∀ j,j < k->(ac2 fn sl).getD j 0 < m + 1:=fun j hj=>by
    have:(ac2 fn sl)[j]? = some (ac2 fn sl)[j]:=List.getElem?_eq_getElem (by omega)
    rw [List.getD_eq_getElem?_getD,this]
    have hmem:(ac2 fn sl)[j]∈ac2 fn sl:=List.getElem_mem _
    have:=List.mem_range.1 (List.mem_filter.1 hmem).1
    show (ac2 fn sl)[j] < m + 1
    omega
  have ht:=h.MP hG (id:=id) (o:=.row (bB + 1) T (rX e) (amF fn sl)) (by rw [ho]; trivial) hρ ex ⟨rfl,rfl,rfl,by omega,fun k hk=>W1o k hk.2⟩ W1s (fun _ _ z=>.inl z) (by rw [ho]; exact .inr ⟨_,_,rfl,Nat.le_succ _,fun e=>by omega⟩)
    ⟨⟨hfl,hpos⟩,.inr ⟨b,gC,hρ,kV,W1b,by
      show (ac2 fn sl).length * (rX e).cells<=gC.size
      rw [hc1,Nat.mul_one,dM]
      rw [hc1,Nat.mul_one] at hsz
      omega,fun j hj=>by
      have hj:j < k:=by rw [hk1]; exact hj
      have hlt:=hst j hj
      refine ⟨[enc (dk[j]!)],?_,rfl,fun i v hi=>?_⟩
      · show R P (rX e) S W1 (sl.g (lg (ac2 fn sl) j)) _
        have e1:dk[j]! = ⟨(ac2 fn sl).getD j 0,hlt⟩:=by rw [hdk j hj,hdg _ hlt]
        rw [e1]
        exact (VL ⟨(ac2 fn sl).getD j 0,hlt⟩).1.mono ex
      · obtain rfl:i=0:=by
          have:=(List.getElem?_eq_some_iff.1 hi).1
          simp at this; exact this
        have hi:enc (dk[j]!)=v:=by simpa using hi
        subst hi
        rw [show j * (rX e).cells + 0=j from by rw [hc1]; omega]
        exact aQQ j hj,hS⟩⟩
  have Ar:Below W1.heap.size W1 w':=by
    refine ⟨hos,aIq,hout,by omega,fun i hi=>?_⟩
    by_cases e:i=b
    · subst e; rw [uk,W1b]
    · rw [W1o i e]; exact uK i (by omega) e
  have aBY:Ext S W1 S w':=
    ⟨⟨Ar.size,fun _ _ z=>z,fun b1 o1 z=>World.cell?_of_block (a:=⟨b1,o1,none⟩) (Ar.block b1 (ex.bd b1 o1 z)),fun b1 o1 es c z mm=>(Ar.block b1 (ex.bd b1 o1 z)).trans mm,fun b1 o1 z=>Nat.lt_of_lt_of_le (ex.bd b1 o1 z) Ar.size,
      .below Ar aDZ⟩,fun _ _ z=>.inl z⟩
  have hg2:=ht.grow hG.c aBY Ar
  refine ⟨_,rfl,.slice (some ⟨b,0,none⟩) k cap,ρ,S,F,rfl,hg2.of_eq rfl rfl rfl rfl,?_⟩
  refine ⟨by simp [dm,ay],⟨_,_,_,rfl⟩,fun cu T' e'' s' hc=>?_⟩
  simp only [dm,ay,Nat.beq_refl,cond_true] at hc
  cases hc
  refine ⟨Nat.le_refl _,fun _=>.inr ⟨b,cap,hρ,?_,by show (ac2 fn sl).length<=cap; omega,Qp,by omega,fun aji T3 f3 hq=>?_⟩⟩
  · rw [hk1]; rfl
  · rw [uk] at hq
    cases hq
    rw [dM]
    exact hcap arr T _ hhb
end Go.Dm

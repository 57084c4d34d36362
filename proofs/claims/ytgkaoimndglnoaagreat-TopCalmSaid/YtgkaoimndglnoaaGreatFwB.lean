/-
 The framework: an interpreter over typed data,and why what it says of a call is true.
-/
import Derived.Test.YtgkaoimndglnoaaGreatFwA
set_option linter.unusedVariables false
set_option linter.unusedSimpArgs false
namespace Go.Dm
open Go.RowKit
variable {P:Program} {N:Nat} {G:Gh} {S S':CS} {w w':World} {s:St} {a:Act} {ρ ρ':fA} {F F':Nat->Prop} {heap heap':Nat->bu} {Y:Value} {E:cg} {Γ:Ctx}
theorem SR.aFk (hG:G.Ok P) (h:SR P N G s a w ρ S F) {id cur':Nat} {T:TypeId} {e:Ty} {s':Sl e.den} {nb:Option Nat} (hlo:G.lo<=id)
  (hid:s.heap id = .none\/∃ v s0,s.heap id = .row v T e s0/\v < cur')
  (ex:Ext0 S w S w') (hs:dX (fun b=>b < w.heap.size/\nb≠some b) w w')
  (hnb:∀ b,nb=some b->b=w.heap.size\/(live (s.heap id)/\ρ id=some b))
  (ho:(∀ b,nb=some b->vn G F b)->OI P G S w' (aE s.heap id (.row cur' T e s')) (fun i=>if i=id then nb else ρ i) F id (.row cur' T e s')) :
  SR P N G { s with heap:=aE s.heap id (.row cur' T e s') } a w' (fun i=>if i=id then nb else ρ i) S F:=by
 have Dd:∀ j b b',j≠id->Own w ρ j (s.heap j) b->nb=some b'->b≠b':=fun j b b' hj Dg hb' e=>by
  subst e
  rcases (hnb b hb') with q | ⟨q1,q2⟩
  ·have:=(h.jy Dg).1; omega
  ·exact hj (h.inj j id b Dg (.of q1 q2))
 have hne:∀ j b b',j≠id->live (s.heap j)->ρ j=some b->nb=some b'->b≠b':=fun j b b' hj hl Dg=>Dd j b b' hj (.of hl Dg)
 have jJ:∀ b,nb=some b->vn G F b/\w.heap[b]? ≠ some (.deferred (some [])):=fun b hb=>by
  rcases hnb b hb with q | ⟨q1,q2⟩
  ·rw [q]; exact ⟨vn.new h,by simp⟩
  ·exact (h.eG q1 q2).2
 have VM:∀ j b,j≠id->Own w ρ j (s.heap j) b->w'.heap[b]? = w.heap[b]? := fun j b hj Dg=>hs.block b ⟨(h.jy Dg).1,fun e=>Dd j b b hj Dg e rfl⟩
 have fU:∀ j b,j≠id->live (s.heap j)->ρ j=some b->w'.heap[b]? = w.heap[b]? := fun j b hj hl Dg=>hs.block b ⟨(h.eG hl Dg).1,fun e=>hne j b b hj hl Dg e rfl⟩
 have hk:∀ j,Kept w w' ρ (fun i=>if i=id then nb else ρ i) j (s.heap j) (aE s.heap id (.row cur' T e s') j):=fun j=>by
  by_cases hj:j=id
  ·subst hj
   simp only [aE,Nat.beq_refl,cond_true]
   rcases hid with q | ⟨v,s0,q,hv⟩
   ·rw [q]; trivial
   ·rw [q]; exact .inr ⟨cur',s',rfl,by omega,fun e=>by omega⟩
  ·simp only [aE,bF hj,cond_false]
   exact .refl (by simp [hj]) fun b hb hl=>fU j b hj hl hb
 refine ⟨h.size,h.bw.tr hk (fun D hF hD=>⟨(hs.block D ⟨(Array.getElem?_eq_some_iff.1 hD).1,fun e=>(jJ D e).2 hD⟩).trans hD,hF⟩),fun t=>(h.env t).tr ex hk,fun j=>?_,h.su (by simp +contextual) fU (fun b q=>by
   have q:(if id=id then nb else ρ id)=some b:=q
   rw [if_pos rfl] at q
   rcases (hnb b q) with q' | ⟨q1,q2⟩
   ·exact .inr (.inl (by omega))
   ·exact .inl (.of q1 q2)),
  h.ext.trans ex,h.new,h.same.trans (hs.mono fun b hb=>⟨Nat.lt_of_lt_of_le hb.1 h.ext.size,fun e=>?_⟩),h.tr.tr hG.c h.fb (hs.mono fun b hb=>⟨h.fb b hb,fun e=>(jJ b e).1.2 hb⟩) ex,
  fun b x=>Nat.lt_of_lt_of_le (h.fb b x) hs.size,h.f0,h.sub,h.fs,fun j b hj=>?_⟩
 ·by_cases hj:j=id
  ·subst hj
   simp only [aE,Nat.beq_refl,cond_true]
   exact ho fun b hb=>(jJ b hb).1
  ·simp only [aE,bF hj,cond_false]
   exact (h.obj j).tr ex hk (by simp [hj]) fun b hb=>⟨VM j b hj hb,fun i q=>q,fun x=>x⟩
 ·obtain ⟨h1,h2,_⟩:=hb
  rcases (jJ b e).1.1 with q | q
  ·omega
  ·exact h2 q
 ·have hp:=h.pins j b hj
  have zO:j≠id:=fun e=>by have:=hG.ic j b hj; omega
  show (if j=id then nb else ρ j)=some b/\gp (aE s.heap id (.row cur' T e s') j)=false
  rw [if_neg zO]
  simp only [aE,bF zO,cond_false]
  exact hp
theorem Sx {k i:Nat} {xs:List Value} {j:Nat} {v:Value} (h:(chunk k i xs)[j]? = some v):xs[i * k + j]? = some v/\j < k:=by
 unfold chunk at h
 rw [List.getElem?_take] at h
 split at h
 ·rename_i hj; rw [List.getElem?_drop] at h; exact ⟨h,hj⟩
 ·cases h
theorem EI (hG:G.Ok P) {o:Oper} {Q:Exit->Act->World->Prop} (h:SR P N G s a w ρ S F) (hd:o.dst.all (Nat.blt · N)=true)
    {t el:TypeId} {sx x:Operand} (hop:o.op = .call { callee:=.builtin .append,args:=#[sx,x],argTypes:=#[t,t] })
    {i:TypeInfo} {z:Value} {e:Ty} (ht:P.underlying t=some (.slice el)) (hi:P.info? el=some i) (hz:i.zero=some z)
    (hsz:i.size=e.cells) (hs0:0 < i.size) (hb0:0 < i.bytes) (hzs:z.cells.size=i.size) (hfl:e.flat=true)
    {r y:Sl e.den} (hy:R P (.sl e) S w y [a.eval x]) (hfit:(r.n + y.n) * i.bytes<=140737488355328)
    {id cur':Nat} (hlo:G.lo<=id) (hid:s.heap id = .none\/∃ v s0,s.heap id = .row v el e s0/\v < cur') {xs:List Value} (yx:xs.length=r.n * e.cells) (hxr:∀ i,i < r.n->R P e S w (r.g i) (chunk e.cells i xs))
    {p:Bool} (hv:(p=true/\(∃ a0,a.eval sx = .slice a0 0 0)/\r.n=0)\/p=false/\∃ b cap cur,live (s.heap id)/\ρ id=some b/\(∀ o,¬ S b o)/\a.eval sx = .slice (some ⟨b,0,none⟩) r.n cap/\r.n<=cap/\cap<=maxLen/\w.heap[b]? = some (.cells cur el (0,0))/\cur.size=cap * e.cells/\cur.toList.take (r.n * e.cells)=xs)
    {rh:List Nat} :
    o.wp P a w (sZ P N G o s ⟨some (.v (.row id cur')),[(id,.row cur' el e (cj r y))],rh,true,none⟩) Q:=by
  have hxs:∃ (news:List Value) (ad:Option Addr) (c:Nat),a.eval x = .slice ad y.n c/\news.length=y.n * e.cells/\(∀ i,i < y.n->R P e S w (y.g i) (chunk e.cells i news))/\(∀ v∈news,v.oneCell'=true) /\
      ((y.n=0)\/∃ a,ad=some a/\∀ (j:Nat) (v:Value),news[j]? = some v->w.cell? (a.add j)=some v):=by
    rcases hy with ⟨h2,ad,c,h1⟩ | ⟨b,o,cap,h1,h2,h3,h4⟩
    · exact ⟨[],ad,c,by simpa [h2] using h1,by simp [h2],fun i hi=>by omega,by simp,.inl h2⟩
    · obtain ⟨us,q1,q2,q3⟩:=vF y.n h4
      refine ⟨us,some ⟨b,o,none⟩,cap,by simpa using h1,q1,q3,fun v hv=>?_,.inr ⟨_,rfl,fun j v hv=>by rw [Addr.add_lit]; exact (q2 j v hv).2⟩⟩
      obtain ⟨j,hj,rfl⟩:=List.getElem_of_mem hv
      have hcp:0 < e.cells:=by omega
      have hq:j / e.cells < y.n:=Nat.div_lt_of_lt_mul (by rw [Nat.mul_comm,<- q1]; exact hj)
      refine R.flat hfl (q3 (j / e.cells) hq) _ ?_
      unfold chunk
      have hj2:j=j / e.cells * e.cells + j % e.cells:=by rw [Nat.mul_comm]; exact (Nat.div_add_mod j e.cells).symm
      refine List.mem_of_getElem? (i:=j % e.cells) ?_
      rw [List.getElem?_take,if_pos (Nat.mod_lt _ hcp),List.getElem?_drop,<- hj2,List.getElem?_eq_getElem hj]
  obtain ⟨news,ad,c,hu,Is,hnr,hn1,hsrc⟩:=hxs
  obtain ⟨v',w',nb,hrun,jT⟩:=Lm (P:=P) (ty:=o.type) (v:=a.eval sx) (xs:=xs) (c:=c) ht hi hz hsz hs0 hb0 hzs hfit yx Is hn1 hsrc p
    (hv.imp (fun x=>x) (fun ⟨hp,b,cap,cur,_,_,_,h4,h5,h6,h7,h8,h9⟩=>⟨hp,b,cap,cur,h4,h5,h6,h7,h8,h9⟩))
  have hex:(execOp a.eval o).run P w = .ok (.value v') w':=by
    simp only [execOp,hop,resolve,invoke,builtin,Sem.run_bind,Sem.run_pure,Result.andThen_ok,List.map_toArray,List.map_cons,List.map_nil,hu,hrun]
  have hSb:∀ b,nb=some b->∀ o,¬ S b o:=fun b hb o hS=>by
    rcases jT with ⟨h1,_⟩ | ⟨b',cap,cur,h1,h2,h3,h4,h5,h6,h7,h8,h9⟩
    · rw [hb] at h1; cases h1
    · rw [hb] at h1; cases h1
      rcases h8 with h8 | ⟨hp,c,h8⟩
      · have:=h.bd _ _ hS; omega
      · rcases hv with ⟨hv,_⟩ | ⟨_,b2,uc,Sq,q1,q2,q3,q4,_⟩
        · rw [hv] at hp; cases hp
        · rw [q4] at h8; cases h8; exact q3 o hS
  have ql:Pl w w':=by
    rcases jT with ⟨h1,_,_,_,h5⟩ | ⟨b',cap,cur,h1,h2,h3,h4,h5,h6,h7,h8,h9,h10⟩
    · rw [h5]; exact .refl w
    · exact h9
  have hsame:dX (fun b=>b < w.heap.size/\nb≠some b) w w':=by
    rcases jT with ⟨h1,_,_,_,h5⟩ | ⟨b',cap,cur,h1,h2,h3,h4,h5,h6,h7,h8,_,h10,h11,h12,h13,h14⟩
    · rw [h5]; exact dX.refl _ _
    · exact ⟨h10,h11,h12,h13,fun k hk=>h14 k hk.1 (fun e=>hk.2 (by rw [h1,e]))⟩
  have ex:Ext0 S w S w':=⟨hsame.size,fun _ _ q=>q,fun b o hS=>World.cell?_of_block (a:=⟨b,o,none⟩) (hsame.block b ⟨h.bd b o hS,fun e=>hSb b e o hS⟩),
    fun b o es c hS hm=>(hsame.block b ⟨h.bd b o hS,fun e=>hSb b e o hS⟩).trans hm,fun b o hS=>Nat.lt_of_lt_of_le (h.bd b o hS) hsame.size,ql⟩
  have avo:0 < e.cells:=by omega
  have hsr:=h.aFk hG (id:=id) (cur':=cur') (T:=el) (e:=e) (s':=cj r y) (nb:=nb) hlo hid ex hsame
    (fun b hb=>by
      rcases jT with ⟨h1,_⟩ | ⟨b',cap,cur,h1,h2,h3,h4,h5,h6,h7,h8,h9⟩
      · rw [hb] at h1; cases h1
      · rw [hb] at h1; cases h1
        rcases h8 with h8 | ⟨hp,c,h8⟩
        · exact .inl h8
        · rcases hv with ⟨hv,_⟩ | ⟨_,b2,uc,Sq,q1,q2,q3,q4,_⟩
          · rw [hv] at hp; cases hp
          · rw [q4] at h8; cases h8; exact .inr ⟨q1,q2⟩)
    (fun jJ=>by
      refine ⟨⟨hfl,avo⟩,?_⟩
      rcases jT with ⟨h1,_,_,h4,h5⟩ | ⟨b',cap,cur,h1,h2,h3,h4,h5,h6,h7,h8,h9⟩
      · exact .inl ⟨by simp [h1],h4⟩
      · have hln:(xs ++ news).length=(r.n + y.n) * e.cells:=by rw [List.length_append,yx,Is,Nat.add_mul]
        refine .inr ⟨b',cur,by simp [h1],jJ b' h1,h5,by rw [h6]; exact Nat.mul_le_mul_right _ h3,fun j hj=>?_,hSb b' h1⟩
        have hj:j < r.n + y.n:=hj
        refine ⟨chunk e.cells j (xs ++ news),?_,?_,fun q v hq=>?_⟩
        · refine R.mono (S:=S) (w:=w) ?_ ex
          simp only [cj]
          by_cases hin:j < r.n
          · have hb:Nat.blt j r.n=true:=by rw [Nat.blt_eq]; exact hin
            simp only [hb,cond_true]
            rw [ua yx hin]; exact hxr j hin
          · have hb:Nat.blt j r.n=false:=by rw [<- Bool.not_eq_true,Nat.blt_eq]; exact hin
            simp only [hb,cond_false]
            rw [qL yx (by omega)]
            exact hnr _ (by omega)
        · have:j * e.cells + e.cells<=(r.n + y.n) * e.cells:=by rw [<- Nat.succ_mul]; exact Nat.mul_le_mul_right _ hj
          simp [chunk] at hln ⊢; omega
        · obtain ⟨q1,q2⟩:=Sx hq
          rw [<- h7,List.getElem?_take] at q1
          split at q1
          · rwa [Array.getElem?_toList] at q1
          · cases q1)
  unfold Oper.wp
  rw [hex]
  have q:=hsr.put hd (sl:=.v (.row id cur')) (v:=v') ⟨by simp [aE],by
    rcases jT with ⟨h1,hp,h2,h3,_⟩ | ⟨b',cap,cur,h1,h2,_⟩
    · rcases hv with ⟨_,⟨a0,hv⟩,_⟩ | ⟨hv,_⟩
      · exact ⟨_,_,_,h2.trans hv⟩
      · rw [hv] at hp; cases hp
    · exact ⟨_,_,_,h2⟩,fun cu T' e' s' hh=>by
    simp only [aE,Nat.beq_refl,cond_true] at hh
    cases hh
    refine ⟨Nat.le_refl _,fun _=>?_⟩
    rcases jT with ⟨h1,hp,h2,h3,_⟩ | ⟨b',cap,cur,h1,h2,h3,h4,h5,h6,_⟩
    · rcases hv with ⟨_,⟨a0,hv⟩,_⟩ | ⟨hv,_⟩
      · exact .inl ⟨h3,a0,by rw [h2,hv]⟩
      · rw [hv] at hp; cases hp
    · exact .inr ⟨b',cap,by simp [h1],h2,h3,h4,(Array.getElem?_eq_some_iff.1 h5).1,fun arr T f ha=>by rw [h5] at ha; cases ha; exact h6⟩⟩
  exact ⟨rfl,_,S,F,q.of_eq rfl rfl rfl rfl⟩
end Go.Dm
namespace Go.Dm
open Go.RowKit
variable {P:Program} {N:Nat} {G:Gh} {S S':CS} {w w':World} {s:St} {a:Act} {ρ ρ':fA} {F F':Nat->Prop} {heap heap':Nat->bu} {Y:Value} {E:cg} {Γ:Ctx}
def dD:List Value->List Value->Option Bool
 | [],[]=>some true
 | .int k a :: us,.int k' b :: vs=>if k=k' then (dD us vs).map (decide (a=b) && ·) else none
 | .bool a :: us,.bool b :: vs=>(dD us vs).map ((a == b) && ·)
 | _,_=>none
theorem ij {k:IntKind} {n:Int} {v:Value} (h:RS P Y S w heap ρ (.v (.pc (.int k) n)) v):v = .int k n:=by have:=h.2; simpa [R] using this
theorem nU {b:Bool} {v:Value} (h:RS P Y S w heap ρ (.v (.pc .bool b)) v):v = .bool b:=by have:=h.2; simpa [R] using this
theorem fX (k:IntKind) (n:Int):RS P Y S w heap ρ (.v (.pc (.int k) n)) (.int k n):=⟨rfl,rfl⟩
theorem dQ (b:Bool):RS P Y S w heap ρ (.v (.pc .bool b)) (.bool b):=⟨rfl,rfl⟩
def avp:Ty->Value->Prop
 | .int k,v=>∃ n,v = .int k n
 | .bool,v=>∃ b,v = .bool b
 | _,_=>False
def Typed (τs:List Ty) (us:List Value):Prop:=us.length=τs.length/\∀ (j:Nat) (τ:Ty) (u:Value),τs[j]? = some τ->us[j]? = some u->avp τ u
theorem Typed.cons {τ:Ty} {τs:List Ty} {u:Value} {us:List Value} (h:avp τ u) (h':Typed τs us):Typed (τ :: τs) (u :: us):=
 ⟨by simp [h'.1],fun j σ v h1 h2=>by
  cases j with
  | zero=>simp at h1 h2; subst h1 h2; exact h
  | succ j=>simp at h1 h2; exact h'.2 j _ _ h1 h2⟩
theorem Typed.split {l l':List Ty} {us:List Value} (h:Typed (l ++ l') us):Typed l (us.take l.length)/\Typed l' (us.drop l.length):=by
 obtain ⟨h1,h2⟩:=h
 rw [List.length_append] at h1
 refine ⟨⟨by simp; omega,fun j τ u q1 q2=>?_⟩,⟨by simp; omega,fun j τ u q1 q2=>?_⟩⟩
 ·have hj:=(List.getElem?_eq_some_iff.1 q1).1
  rw [List.getElem?_take,if_pos hj] at q2
  exact h2 j τ u (by rw [List.getElem?_append_left hj]; exact q1) q2
 ·rw [List.getElem?_drop] at q2
  exact h2 (l.length + j) τ u (by rw [List.getElem?_append_right (by omega)]; simpa using q1) q2
def fB (P:Program) (E:Vw):Prop:=∀ t τ,E t=some τ->∃ τs,τ=cw τs/\(∀ σ∈τs,σ = .bool\/∃ k,σ = .int k) /\
 ∀ (us vs:List Value) (b:Bool) (x y:Operand) (w:World),Typed τs us->Typed τs vs->dD us vs=some b ->
 (do eqGuard .eql t x y (.agg us.toArray) (.agg vs.toArray); binOp .eql t (.agg us.toArray) (.agg vs.toArray):Sem Value).run P w = .ok (.bool b) w /\
 (do eqGuard .neq t x y (.agg us.toArray) (.agg vs.toArray); binOp .neq t (.agg us.toArray) (.agg vs.toArray):Sem Value).run P w = .ok (.bool (!b)) w
theorem Typed.Iv:∀ {τs:List Ty} {ds:List DC} {us:List Value},(∀ σ∈τs,σ = .bool\/∃ k,σ = .int k)->eZ ds=some (cw τs)->RL (RC P Y S w heap ρ) ds us->Typed τs us
 | [],[],us,_,_,h=>by
  have:=h.1
  cases us with
  | nil=>exact ⟨rfl,fun j τ u q=>by simp at q⟩
  | cons _ _=>cases this
 | [],d :: ds,us,_,ht,_=>by
  simp only [eZ] at ht
  split at ht <;> cases ht
 | τ :: τs,[],us,_,ht,_=>by cases ht
 | τ :: τs,d :: ds,us,hs,ht,h=>by
  cases us with
  | nil=>have:=h.1; cases this
  | cons u us =>
   obtain ⟨h1,h2⟩:=h.of_cons
   simp only [eZ] at ht
   cases hd:AL d with
   | none=>rw [hd] at ht; cases ht
   | some τ1 =>
    cases hds:eZ ds with
    | none=>rw [hd,hds] at ht; cases ht
    | some τ2 =>
     rw [hd,hds] at ht
     simp only [Option.some.injEq,cw,Ty.cons.injEq] at ht
     obtain ⟨rfl,rfl⟩:=ht
     have ih:=Typed.Iv (fun σ hm=>hs σ (List.mem_cons_of_mem _ hm)) hds h2
     refine ih.cons ?_
     rcases hs _ (List.mem_cons_self ..) with rfl | ⟨k,rfl⟩
     ·cases d <;> simp only [AL] at hd <;> try cases hd
      exact ⟨_,nU (P:=P) (Y:=Y) (S:=S) (w:=w) (heap:=heap) (ρ:=ρ) h1⟩
     ·cases d <;> simp only [AL] at hd <;> try cases hd
      exact ⟨_,ij (P:=P) (Y:=Y) (S:=S) (w:=w) (heap:=heap) (ρ:=ρ) h1⟩
theorem nV:∀ {as bs:List DC} {us vs:List Value} {b:Bool},RL (RC P Y S w heap ρ) as us->RL (RC P Y S w heap ρ) bs vs->vv as bs=some b->dD us vs=some b
 | [],[],us,vs,b,h1,h2,hb=>by
  have:=h1.1; have:=h2.1
  cases us with
  | nil=>cases vs with
   | nil=>cases hb; rfl
   | cons _ _=>simp at *
  | cons _ _=>simp at *
 | c :: as,d :: bs,us,vs,b,h1,h2,hb=>by
  cases us with
  | nil=>have:=h1.1; simp at this
  | cons u us =>
   cases vs with
   | nil=>have:=h2.1; simp at this
   | cons v vs =>
    obtain ⟨r1,r2⟩:=h1.of_cons
    obtain ⟨r3,r4⟩:=h2.of_cons
    simp only [vv] at hb
    cases hi:ints c d with
    | none=>rw [hi] at hb; simp at hb
    | some x =>
     cases ht:vv as bs with
     | none=>rw [hi,ht] at hb; simp at hb
     | some y =>
      rw [hi,ht] at hb
      simp only [Option.some.injEq] at hb
      subst hb
      have ih:=nV r2 r4 ht
      unfold ints at hi
      split at hi
      ·rename_i k n k' m
       split at hi
       ·rename_i hk
        subst hk
        cases hi
        have e1:u = .int k n:=by have:=r1.2; simpa [R] using this
        have e2:v = .int k m:=by have:=r3.2; simpa [R] using this
        subst e1 e2
        simp [dD,ih]
       ·cases hi
      ·rename_i n m
       cases hi
       have e1:u = .bool n:=by have:=r1.2; simpa [R] using this
       have e2:v = .bool m:=by have:=r3.2; simpa [R] using this
       subst e1 e2
       simp [dD,ih]
      ·cases hi
 | [],_ :: _,_,_,_,_,_,hb=>by cases hb
 | _ :: _,[],_,_,_,_,_,hb=>by cases hb
theorem Bi {t:TypeId} (hu:P.underlying t=some .bool) (m n:Bool) (w:World):(Op.equal t (.bool m) (.bool n)).run P w = .ok (m == n) w:=by
 unfold Op.equal Op.maxDepth
 rw [show (10000:Nat)=9999 + 1 from rfl,Op.equalIn]
 simp only [Sem.run_bind,run_underlying hu,Result.andThen_ok,Sem.run_pure]
theorem VP {t:TypeId} (m n:Bool):binOp .eql t (.bool m) (.bool n)=(do pure (.bool (<- Op.equal t (.bool m) (.bool n)))):=rfl
theorem VQ {t:TypeId} (m n:Bool):binOp .neq t (.bool m) (.bool n)=(do pure (.bool (!(<- Op.equal t (.bool m) (.bool n))))):=rfl
theorem Iw {E:Vw} (hE:fB P E) {o:Oper} {Q:Exit->Act->World->Prop} (h:SR P N G s a w ρ S F) (hd:o.dst.all (Nat.blt · N)=true) {op:BinOp} {t t':TypeId} {x y:Operand} (hop:o.op = .binOp op t x y t')
  {sx sy:Slot} (hx:RS P G.Y S w s.heap ρ sx (a.eval x)) (hy:RS P G.Y S w s.heap ρ sy (a.eval y)) {e:mV} (he:(Lc P E op t y sx sy).run id=some e) :
  o.wp P a w (sZ P N G o s e) Q:=by
 unfold Lc at he
 split at he
 ·rename_i k m k' n
  have ex:=ij hx
  have ey:=ij hy
  split at he
  ·-- shifts
   rename_i hsh
   have run:∀ v,((binOp op t (.int k m) (.int k' n)).run P w = .ok v w)->(execOp a.eval o).run P w = .ok (.value v) w:=fun v hv=>by
    have hg:eqGuard op t x y (.int k m) (.int k' n)=pure ():=by cases op <;> rfl
    simp only [execOp,hop,ex,ey,hg,Sem.run_bind,Sem.run_pure,Result.andThen_ok,hv]
   unfold shiftOp at he
   split at he
   ·simp only [Br.run,cV,er,bad] at he
    cases hz:decide (n < 0) with
    | true=>rw [hz] at he; cases he
    | false =>
     rw [hz] at he
     cases he
     have hz:¬ n < 0:=of_decide_eq_false hz
     exact bt h hd (run _ (by simp [binOp,Op.shift,hz,aln,alo])) (fX _ _)
   ·simp only [Br.run,cV,er,bad] at he
    cases hz:decide (n < 0) with
    | true=>rw [hz] at he; cases he
    | false =>
     rw [hz] at he
     cases he
     have hz:¬ n < 0:=of_decide_eq_false hz
     exact bt h hd (run _ (by simp [binOp,Op.shift,hz,aln,alo])) (fX _ _)
   ·cases he
  rename_i hsh
  cases hk:decide (k=k') with
  | false=>rw [hk] at he; cases he
  | true =>
   rw [hk] at he
   have hk:=of_decide_eq_true hk
   subst hk
   simp only at he
   have run:∀ v,((binOp op t (.int k m) (.int k n)).run P w = .ok v w)->(execOp a.eval o).run P w = .ok (.value v) w:=fun v hv=>by
    have hg:eqGuard op t x y (.int k m) (.int k n)=pure ():=by cases op <;> rfl
    simp only [execOp,hop,ex,ey,hg,Sem.run_bind,Sem.run_pure,Result.andThen_ok,hv]
   unfold aik at he
   split at he
   ·cases he; exact bt h hd (run _ (by simp [binOp,Op.intArith])) (fX _ _)
   ·cases he; exact bt h hd (run _ (by simp [binOp,Op.intArith])) (fX _ _)
   ·cases he; exact bt h hd (run _ (by simp [binOp,Op.intArith])) (fX _ _)
   ·simp only [Br.run,cV,er,bad] at he
    cases hz:decide (n=0) with
    | true=>rw [hz] at he; cases he
    | false =>
     rw [hz] at he
     cases he
     have hz:¬ n=0:=of_decide_eq_false hz
     exact bt h hd (run _ (by simp [binOp,Op.intDiv,hz])) (fX _ _)
   ·simp only [Br.run,cV,er,bad] at he
    cases hz:decide (n=0) with
    | true=>rw [hz] at he; cases he
    | false =>
     rw [hz] at he
     cases he
     have hz:¬ n=0:=of_decide_eq_false hz
     exact bt h hd (run _ (by simp [binOp,Op.intDiv,hz])) (fX _ _)
   ·cases he; exact bt h hd (run _ (by simp [binOp,Op.intBits,aij])) (fX _ _)
   ·cases he; exact bt h hd (run (.bool (decide (m=n))) (by simp only [binOp,Op.intCmp,ne_eq,not_true_eq_false,if_false,Sem.run_pure]; congr 1)) (dQ _)
   ·cases he; exact bt h hd (run (.bool (!decide (m=n))) (by simp only [binOp,Op.intCmp,ne_eq,not_true_eq_false,if_false,Sem.run_pure]; congr 1)) (dQ _)
   ·cases he; exact bt h hd (run _ (by simp [binOp,Op.intCmp])) (dQ _)
   ·cases he; exact bt h hd (run _ (by simp [binOp,Op.intCmp])) (dQ _)
   ·cases he; exact bt h hd (run _ (by simp [binOp,Op.intCmp])) (dQ _)
   ·cases he; exact bt h hd (run _ (by simp [binOp,Op.intCmp])) (dQ _)
   ·cases he
 ·rename_i m n
  have ex:=nU hx
  have ey:=nU hy
  split at he
  ·rename_i hu
   cases he
   refine bt h hd (v:=.bool (m == n)) ?_ (dQ _)
   have hg:eqGuard .eql t x y (.bool m) (.bool n)=pure ():=rfl
   simp only [execOp,hop,ex,ey,hg,VP,Sem.run_bind,Sem.run_pure,Result.andThen_ok,Bi hu]
  ·rename_i hu
   cases he
   refine bt h hd (v:=.bool (!(m == n))) ?_ (dQ _)
   have hg:eqGuard .neq t x y (.bool m) (.bool n)=pure ():=rfl
   simp only [execOp,hop,ex,ey,hg,VQ,Sem.run_bind,Sem.run_pure,Result.andThen_ok,Bi hu]
  ·cases he
 ·rename_i as bs
  obtain ⟨us,eu,hu⟩:=hx
  obtain ⟨vs,ev,hv⟩:=hy
  split at he
  case h_2=>cases he
  rename_i τ hτ
  obtain ⟨τs,rfl,hs,hrun⟩:=hE t τ hτ
  split at he
  ·rename_i b hc hq
   cases he
   obtain ⟨hc1,hc2⟩:=of_decide_eq_true hc
   have:=(hrun us vs b x y w (Typed.Iv hs hc1 hu) (Typed.Iv hs hc2 hv) (nV hu hv hq)).1
   refine bt h hd (v:=.bool b) ?_ (dQ _)
   simp only [execOp,hop,eu,ev]
   rw [Sem.run_bind,this]; rfl
  ·rename_i b hc hq
   cases he
   obtain ⟨hc1,hc2⟩:=of_decide_eq_true hc
   have:=(hrun us vs b x y w (Typed.Iv hs hc1 hu) (Typed.Iv hs hc2 hv) (nV hu hv hq)).2
   refine bt h hd (v:=.bool (!b)) ?_ (dQ _)
   simp only [execOp,hop,eu,ev]
   rw [Sem.run_bind,this]; rfl
  ·cases he
 ·rename_i T τ d
  obtain ⟨u,ex,_⟩:=hx
  have ey:a.eval y = .nilIface:=hy
  split at he
  ·rename_i hn hu
   cases he
   refine bt h hd (v:=.bool false) ?_ (dQ _)
   have hg:eqGuard .eql t x y (.iface T u) .nilIface=pure ():=rfl
   simp only [execOp,hop,ex,ey,hg,Sem.run_bind,Sem.run_pure,Result.andThen_ok,binOp]
   rw [show (Op.equal t (.iface T u) .nilIface).run P w = .ok false w by
    unfold Op.equal Op.maxDepth
    rw [show (10000:Nat)=9999 + 1 from rfl,Op.equalIn]
    simp only [Sem.run_bind,run_underlying hu,Result.andThen_ok,Sem.run_pure]]
   rfl
  ·rename_i hn hu
   cases he
   refine bt h hd (v:=.bool true) ?_ (dQ _)
   have hg:eqGuard .neq t x y (.iface T u) .nilIface=pure ():=rfl
   simp only [execOp,hop,ex,ey,hg,Sem.run_bind,Sem.run_pure,Result.andThen_ok,binOp]
   rw [show (Op.equal t (.iface T u) .nilIface).run P w = .ok false w by
    unfold Op.equal Op.maxDepth
    rw [show (10000:Nat)=9999 + 1 from rfl,Op.equalIn]
    simp only [Sem.run_bind,run_underlying hu,Result.andThen_ok,Sem.run_pure]]
   rfl
  ·cases he
 ·have ex:a.eval x = .nilIface:=hx
  have ey:a.eval y = .nilIface:=hy
  split at he
  ·rename_i hn hu
   cases he
   refine bt h hd (v:=.bool true) ?_ (dQ _)
   have hg:eqGuard .eql t x y .nilIface .nilIface=pure ():=by
    unfold nM at hn
    split at hn
    ·simp [eqGuard]
    ·cases hn
   simp only [execOp,hop,ex,ey,hg,Sem.run_bind,Sem.run_pure,Result.andThen_ok,binOp]
   rw [show (Op.equal t .nilIface .nilIface).run P w = .ok true w by
    unfold Op.equal Op.maxDepth
    rw [show (10000:Nat)=9999 + 1 from rfl,Op.equalIn]
    simp only [Sem.run_bind,run_underlying hu,Result.andThen_ok,Sem.run_pure]]
   rfl
  ·rename_i hn hu
   cases he
   refine bt h hd (v:=.bool false) ?_ (dQ _)
   have hg:eqGuard .neq t x y .nilIface .nilIface=pure ():=by
    unfold nM at hn
    split at hn
    ·simp [eqGuard]
    ·cases hn
   simp only [execOp,hop,ex,ey,hg,Sem.run_bind,Sem.run_pure,Result.andThen_ok,binOp]
   rw [show (Op.equal t .nilIface .nilIface).run P w = .ok true w by
    unfold Op.equal Op.maxDepth
    rw [show (10000:Nat)=9999 + 1 from rfl,Op.equalIn]
    simp only [Sem.run_bind,run_underlying hu,Result.andThen_ok,Sem.run_pure]]
   rfl
  ·cases he
 ·cases he
end Go.Dm
namespace Go.Dm
open Go.RowKit
variable {P:Program} {N:Nat} {G:Gh} {S S':CS} {w w':World} {s:St} {a:Act} {ρ ρ':fA} {F F':Nat->Prop} {heap heap':Nat->bu} {Y:Value} {E:cg} {Γ:Ctx}
def nc (P:Program) (rec:TypeId->Option (List Ty)):Nat->List Field->Option (List Ty)
 | _,[]=>some []
 | off,f :: fs=>match rec f.type with
  | some l=>match f.name != "_" && Nat.beq f.offset off && decide (cy P f.type=some l.length) with
   | true=>(nc P rec (off + l.length) fs).map (l ++ ·)
   | false=>none
  | none=>none
def jW (P:Program):Nat->TypeId->Option (List Ty)
 | 0,_=>none
 | m + 1,t=>match P.underlying t with
  | some (.int k)=>some [.int k]
  | some .bool=>some [.bool]
  | some (.struct fs)=>match P.stoodInHeld t with
   | true=>none
   | false=>nc P (jW P m) 0 fs.toList
  | some (.array len e)=>match jW P m e with
   | some l=>match decide (cy P e=some l.length) with
    | true=>some (List.replicate len l).flatten
    | false=>none
   | none=>none
  | _=>none
def Iy (P:Program) (t:TypeId) (us:List Value) (x:Value):Prop:=(cv P t=some true/\x = .agg us.toArray)\/(cv P t=some false/\us=[x])
theorem tc:∀ {us vs us' vs':List Value},us.length=vs.length->dD (us ++ us') (vs ++ vs')=(dD us vs).bind fun b=>(dD us' vs').map (b && ·)
 | [],[],us',vs',_=>by simp [dD]
 | [],_ :: _,_,_,h=>by simp at h
 | _ :: _,[],_,_,h=>by simp at h
 | u :: us,v :: vs,us',vs',h=>by
  have ih:=tc (us:=us) (vs:=vs) (us':=us') (vs':=vs') (by simpa using h)
  simp only [List.cons_append]
  cases u <;> cases v <;> simp only [dD,Option.bind_none] <;> try rfl
  ·rw [ih]
   cases dD us vs with
   | none=>rfl
   | some b=>cases dD us' vs' <;> simp [Bool.and_assoc]
  ·split
   ·rw [ih]
    cases dD us vs with
    | none=>rfl
    | some b=>cases dD us' vs' <;> simp [Bool.and_assoc]
   ·rfl
theorem Iz {t:TypeId} {n:Nat} (hn:cy P t=some n) (ha:∃ b,cv P t=some b) (h1:cv P t=some false->n=1) (us:List Value) (off:Nat) (hle:off + n<=us.length) :
  ∃ x,(part t us.toArray off).run P w = .ok x w/\Iy P t ((us.drop off).take n) x:=by
 obtain ⟨b,ha⟩:=ha
 cases b with
 | true=>exact ⟨_,AZ ha hn,.inl ⟨ha,rfl⟩⟩
 | false =>
  have:=h1 ha
  subst this
  have hlt:off < us.length:=by omega
  refine ⟨us[off],vD ha (List.getElem?_eq_getElem hlt),.inr ⟨ha,?_⟩⟩
  rw [List.drop_eq_getElem_cons hlt]; rfl
theorem yz {m:Nat} {l:List Ty} {t:TypeId} (h:jW P m t=some l):∃ b,cv P t=some b/\(b=false->l.length=1):=by
 cases m with
 | zero=>cases h
 | succ m =>
  unfold jW at h
  unfold cv
  split at h
  ·rename_i hu; rw [hu]; cases h; exact ⟨false,rfl,fun _=>rfl⟩
  ·rename_i hu; rw [hu]; cases h; exact ⟨false,rfl,fun _=>rfl⟩
  ·rename_i hu; rw [hu]; exact ⟨true,rfl,fun e=>by cases e⟩
  ·rename_i hu; rw [hu]; exact ⟨true,rfl,fun e=>by cases e⟩
  ·cases h
def adw (P:Program) (d:Nat) (t:TypeId) (l:List Ty):Prop:=
 ∀ (w:World) (us vs:List Value) (x y:Value) (b:Bool),Typed l us->Typed l vs->Iy P t us x->Iy P t vs y->dD us vs=some b->(Op.equalIn d t x y).run P w = .ok b w
theorem Pw {d:Nat} {t:TypeId} {l:List Ty} (hok:adw P d t l) (hsz:cy P t=some l.length) (Dh:∃ b,cv P t=some b/\(b=false->l.length=1)) {l':List Ty} {us vs:List Value} {off:Nat}
  (hou:off<=us.length) (hov:off<=vs.length) (hu:Typed (l ++ l') (us.drop off)) (hv:Typed (l ++ l') (vs.drop off)) {b:Bool} (hb:dD (us.drop off) (vs.drop off)=some b) :
  ∃ x y b1 b2,(part t us.toArray off).run P w = .ok x w/\(part t vs.toArray off).run P w = .ok y w/\(Op.equalIn d t x y).run P w = .ok b1 w /\
   off + l.length<=us.length/\off + l.length<=vs.length/\Typed l' (us.drop (off + l.length))/\Typed l' (vs.drop (off + l.length))/\dD (us.drop (off + l.length)) (vs.drop (off + l.length))=some b2/\b=(b1 && b2):=by
 obtain ⟨bb,Dh,h1⟩:=Dh
 have Sy:cv P t=some false->l.length=1:=fun e=>h1 (by rw [Dh] at e; simpa using e)
 have lu:=hu.1
 have lv:=hv.1
 simp only [List.length_drop,List.length_append] at lu lv
 obtain ⟨u1,u2⟩:=hu.split
 obtain ⟨v1,v2⟩:=hv.split
 rw [List.drop_drop] at u2 v2
 obtain ⟨x,px,vx⟩:=Iz (w:=w) hsz ⟨bb,Dh⟩ Sy us off (by omega)
 obtain ⟨y,py,vy⟩:=Iz (w:=w) hsz ⟨bb,Dh⟩ Sy vs off (by omega)
 have alK:us.drop off=(us.drop off).take l.length ++ us.drop (off + l.length):=by rw [<- List.drop_drop,List.take_append_drop]
 have alL:vs.drop off=(vs.drop off).take l.length ++ vs.drop (off + l.length):=by rw [<- List.drop_drop,List.take_append_drop]
 rw [alK,alL,tc (by rw [u1.1,v1.1])] at hb
 cases he1:dD ((us.drop off).take l.length) ((vs.drop off).take l.length) with
 | none=>rw [he1] at hb; cases hb
 | some b1 =>
  rw [he1] at hb
  simp only [Option.bind_some] at hb
  cases he2:dD (us.drop (off + l.length)) (vs.drop (off + l.length)) with
  | none=>rw [he2] at hb; cases hb
  | some b2 =>
   rw [he2] at hb
   simp only [Option.map_some,Option.some.injEq] at hb
   exact ⟨x,y,b1,b2,px,py,hok w _ _ x y b1 u1 v1 vx vy he1,by omega,by omega,u2,v2,rfl,hb.symm⟩
theorem vH {d:Nat} {rec:TypeId->Option (List Ty)} (zj:∀ t l,rec t=some l->adw P d t l/\∃ b,cv P t=some b/\(b=false->l.length=1)) {us vs:List Value} :
  ∀ (fs:List Field) (off:Nat) (l:List Ty),nc P rec off fs=some l->off<=us.length->off<=vs.length->Typed l (us.drop off)->Typed l (vs.drop off)->∀ b,dD (us.drop off) (vs.drop off)=some b ->
   (Op.eqFields d us.toArray vs.toArray fs).run P w = .ok b w
 | [],off,l,h,hou,hov,hu,hv,b,hb=>by
  simp only [nc,Option.some.injEq] at h
  subst h
  rw [List.eq_nil_of_length_eq_zero hu.1,List.eq_nil_of_length_eq_zero hv.1] at hb
  cases hb
  rfl
 | f :: fs,off,l,h,hou,hov,hu,hv,b,hb=>by
  simp only [nc] at h
  cases hr:rec f.type with
  | none=>rw [hr] at h; cases h
  | some k =>
   rw [hr] at h
   simp only at h
   cases hc:(f.name != "_" && Nat.beq f.offset off && decide (cy P f.type=some k.length)) with
   | false=>rw [hc] at h; cases h
   | true =>
    rw [hc] at h
    simp only [Option.map_eq_some_iff] at h
    obtain ⟨l',hl',rfl⟩:=h
    simp only [Bool.and_eq_true,bne_iff_ne,ne_eq,decide_eq_true_eq] at hc
    obtain ⟨⟨hname,ho⟩,hsz⟩:=hc
    have ho:=Nat.eq_of_beq_eq_true ho
    obtain ⟨hok,Dh⟩:=zj _ _ hr
    obtain ⟨x,y,b1,b2,px,py,hq,o1,o2,t1,t2,he2,rfl⟩:=Pw (w:=w) hok hsz Dh hou hov hu hv hb
    have ih:=vH zj fs (off + k.length) l' hl' o1 o2 t1 t2 b2 he2
    have hnm:f.name ≠ "_" := hname
    simp only [Op.eqFields,if_pos hnm,ho,Sem.run_bind,px,py,hq,Result.andThen_ok,Sem.run_ite]
    cases b1 with
    | true=>simpa using ih
    | false=>simp
theorem yA {d:Nat} {e:TypeId} {k:List Ty} (hok:adw P d e k) (hsz:cy P e=some k.length) (Dh:∃ b,cv P e=some b/\(b=false->k.length=1)) {us vs:List Value} :
  ∀ (m i:Nat),i * k.length<=us.length->i * k.length<=vs.length->Typed (List.replicate m k).flatten (us.drop (i * k.length))->Typed (List.replicate m k).flatten (vs.drop (i * k.length))->∀ b,dD (us.drop (i * k.length)) (vs.drop (i * k.length))=some b ->
   (Op.eqItems d e k.length us.toArray vs.toArray (List.range' i m)).run P w = .ok b w
 | 0,i,hou,hov,hu,hv,b,hb=>by
  rw [List.eq_nil_of_length_eq_zero hu.1,List.eq_nil_of_length_eq_zero hv.1] at hb
  cases hb
  rfl
 | m + 1,i,hou,hov,hu,hv,b,hb=>by
  rw [List.replicate_succ,List.flatten_cons] at hu hv
  obtain ⟨x,y,b1,b2,px,py,hq,o1,o2,t1,t2,he2,rfl⟩:=Pw (w:=w) hok hsz Dh hou hov hu hv hb
  rw [<- Nat.succ_mul] at o1 o2 t1 t2 he2
  have ih:=yA hok hsz Dh m (i + 1) o1 o2 t1 t2 b2 he2
  rw [List.range'_succ]
  simp only [Op.eqItems,Sem.run_bind,px,py,hq,Result.andThen_ok,Sem.run_ite]
  cases b1 with
  | true=>simpa using ih
  | false=>simp
theorem qM:∀ (m:Nat) (t:TypeId) (l:List Ty),jW P m t=some l->∀ d,adw P (d + m) t l
 | 0,_,_,h,_=>by cases h
 | m + 1,t,l,h,d=>by
  intro w us vs x y b hu hv hx hy hb
  have ih:=fun t l h=>qM m t l h d
  unfold jW at h
  have one:∀ {x:Value} {us:List Value},cv P t=some false->Iy P t us x->us=[x]:=fun ha hx=>by
   rcases hx with ⟨q,_⟩ | ⟨_,q⟩
   ·rw [ha] at q; cases q
   ·exact q
  have agg:∀ {x:Value} {us:List Value},cv P t=some true->Iy P t us x->x = .agg us.toArray:=fun ha hx=>by
   rcases hx with ⟨_,q⟩ | ⟨q,_⟩
   ·exact q
   ·rw [ha] at q; cases q
  split at h
  ·rename_i k IA
   cases h
   have ha:cv P t=some false:=by simp [cv,IA]
   obtain rfl:=one ha hx
   obtain rfl:=one ha hy
   obtain ⟨n1,rfl⟩:=hu.2 0 _ _ rfl rfl
   obtain ⟨n2,rfl⟩:=hv.2 0 _ _ rfl rfl
   simp only [dD,if_pos,Option.map_some,Bool.and_true,Option.some.injEq] at hb
   subst hb
   rw [show d + (m + 1)=(d + m) + 1 from rfl,run_equalIn_int w (d + m) t k k n1 n2 IA]
   congr 1
  ·rename_i IA
   cases h
   have ha:cv P t=some false:=by simp [cv,IA]
   obtain rfl:=one ha hx
   obtain rfl:=one ha hy
   obtain ⟨n1,rfl⟩:=hu.2 0 _ _ rfl rfl
   obtain ⟨n2,rfl⟩:=hv.2 0 _ _ rfl rfl
   simp only [dD,Option.map_some,Bool.and_true,Option.some.injEq] at hb
   subst hb
   rw [show d + (m + 1)=(d + m) + 1 from rfl,run_equalIn_bool w (d + m) t n1 n2 IA]
  ·rename_i fs IA
   have ha:cv P t=some true:=by simp [cv,IA]
   obtain rfl:=agg ha hx
   obtain rfl:=agg ha hy
   split at h
   ·cases h
   ·rename_i hst
    have Sz:P.fieldsOf t=fs:=by simp [Program.fieldsOf,IA]
    rw [show d + (m + 1)=(d + m) + 1 from rfl,run_equalIn_struct w (d + m) t _ _ (by rw [Sz]; exact IA) hst,Sz]
    exact vH (d:=d + m) (rec:=jW P m) (fun t l h=>⟨ih t l h,yz h⟩) fs.toList 0 l h (Nat.zero_le _) (Nat.zero_le _) (by simpa using hu) (by simpa using hv) b (by simpa using hb)
  ·rename_i len e IA
   have ha:cv P t=some true:=by simp [cv,IA]
   obtain rfl:=agg ha hx
   obtain rfl:=agg ha hy
   split at h
   ·rename_i k hk
    split at h
    ·rename_i hsz
     have hsz:=of_decide_eq_true hsz
     simp only [Option.some.injEq] at h
     subst h
     obtain ⟨i,hi⟩:∃ i,P.info? e=some i:=by
      unfold cy at hsz
      cases hq:P.info? e with
      | none=>rw [hq] at hsz; cases hsz
      | some i=>exact ⟨i,rfl⟩
     have hco:P.cellsOf e=k.length:=by
      unfold cy at hsz
      unfold Program.cellsOf
      rw [hi] at hsz ⊢
      simpa using hsz
     rw [show d + (m + 1)=(d + m) + 1 from rfl,run_equalIn_array w (d + m) _ _ IA hi,hco,List.range_eq_range']
     exact yA (ih e k hk) hsz (yz hk) len 0 (by simp) (by simp) (by simpa using hu) (by simpa using hv) b (by simpa using hb)
    ·cases h
   ·cases h
  ·cases h
def eqTy (P:Program) (t:TypeId):Option Ty:=
 match jW P 8 t with
 | some l=>match cv P t,P.eqGuardType P.depth t,l.all fun σ=>match σ with | .int _ | .bool=>true | _=>false with
  | some true,false,true=>some (cw l)
  | _,_,_=>none
 | none=>none
theorem bN:fB P (eqTy P):=by
 intro t τ h
 unfold eqTy at h
 split at h
 case h_2=>cases h
 rename_i l hl
 split at h
 case h_2=>cases h
 rename_i ha hg hall
 simp only [Option.some.injEq] at h
 subst h
 refine ⟨l,rfl,fun σ hm=>?_,fun us vs b x y w hu hv hb=>?_⟩
 ·rw [List.all_eq_true] at hall
  have:=hall σ hm
  cases σ with
  | int k=>exact .inr ⟨k,rfl⟩
  | bool=>exact .inl rfl
  | _=>cases this
 ·have hq:(Op.equalIn 10000 t (.agg us.toArray) (.agg vs.toArray)).run P w = .ok b w:=qM 8 t l hl 9992 w us vs _ _ b hu hv (.inl ⟨ha,rfl⟩) (.inl ⟨ha,rfl⟩) hb
  constructor
  ·simp only [Sem.run_bind,run_eqGuard_agg w .eql t x y _ _ hg,Result.andThen_ok,run_eql_struct,hq]
  ·simp only [Sem.run_bind,run_eqGuard_agg w .neq t x y _ _ hg,Result.andThen_ok,run_neq_struct,hq]
end Go.Dm
namespace Go.Dm
open Go.RowKit
variable {P:Program} {N:Nat} {G:Gh} {S S':CS} {w w':World} {s:St} {a:Act} {ρ ρ':fA} {F F':Nat->Prop} {heap heap':Nat->bu} {Y:Value} {E:cg} {Γ:Ctx}
theorem nW {τ:Ty} {x:τ.den} {v:Value} (h:RS P Y S w heap ρ (.v (.pc τ x)) v):R P τ S w x [v]:=h.2
theorem vI (h:SR P N G s a w ρ S F) {id:Nat} {ds:List DC} (ho:s.heap id = .box ds) {off:Nat} {v:Value} (hp:dS s.heap ρ id off v) :
  ∃ b arr T,ρ id=some b/\v = .pointer (some ⟨b,off,none⟩)/\w.heap[b]? = some (.cells arr T (0,0))/\RL (RC P G.Y S w s.heap ρ) ds arr.toList:=by
 obtain ⟨_,_,h3⟩:=hp
 obtain ⟨b,hb,hv⟩:=h3 ds ho
 have:=h.obj id
 rw [ho] at this
 obtain ⟨b',arr,T,q1,_,q3,q4,_⟩:=this
 rw [hb] at q1
 cases q1
 exact ⟨b,arr,T,hb,hv,q3,q4⟩
theorem dS.add {id off:Nat} {v:Value} (h:dS heap ρ id off v) (m:Nat):∃ ad,v = .pointer (some ad)/\dS heap ρ id (off + m) (.pointer (some (ad.add m))):=by
 obtain ⟨h1,⟨ad,hv⟩,h3⟩:=h
 refine ⟨ad,hv,h1,⟨_,rfl⟩,fun ds hd=>?_⟩
 obtain ⟨b,hb1,hb2⟩:=h3 ds hd
 rw [hv] at hb2
 cases hb2
 exact ⟨b,hb1,by rw [Addr.add_lit]⟩
theorem vJ (h:SR P N G s a w ρ S F) {id bG i n:Nat} {v:Value} (hx:RC P G.Y S w s.heap ρ (.sub id bG i n) v) {T:TypeId} {e:Ty} {d:Sl (Sl e.den)} (ho:s.heap id = .rows bG T e d) :
  i < d.n/\n<=(d.g i).n/\∃ ad cap,vz w ρ id i ad (d.g i).n cap/\v = .slice ad n cap/\(d.g i).n<=cap + (d.g i).n/\n<=cap/\(0 < n->∃ b',ad=some ⟨b',0,none⟩):=by
 obtain ⟨_,_,h3⟩:=hx
 obtain ⟨h4,h5,ad,cap,h6,h7⟩:=(h3 _ _ _ _ ho).2 rfl
 have cK:=h.obj id
 rw [ho] at cK
 obtain ⟨_,b,arr,T',q1,q2,q3,q4,q5,q6,q7⟩:=cK
 obtain ⟨b0,qx,T0,p1,p2,p3⟩:=h6
 rw [q1] at p1; cases p1
 rw [q3] at p2; cases p2
 obtain ⟨ad',cap',z1,z2⟩:=q7 i h4
 rw [p3] at z1
 simp only [Option.some.injEq,Value.slice.injEq,true_and] at z1
 obtain ⟨z1,z3⟩:=z1
 subst z1 z3
 refine ⟨h4,h5,ad,cap,⟨b,arr,_,q1,q3,p3⟩,h7,by omega,?_,fun hn=>?_⟩
 ·rcases z2 with z2 | ⟨_,_,_,_,_,_,_,_,z2,_⟩ <;> omega
 ·rcases z2 with z2 | ⟨_,b',_,_,z2,_⟩
  ·omega
  ·exact ⟨b',z2⟩
theorem zk {o:Oper} {Q:Exit->Act->World->Prop} (h:SR P N G s a w ρ S F) (hd:o.dst.all (Nat.blt · N)=true) {t:TypeId} {x i:Operand} (hop:o.op = .indexAddr t x i)
  {sx si:Slot} (hx:RS P G.Y S w s.heap ρ sx (a.eval x)) (hi:RS P G.Y S w s.heap ρ si (a.eval i)) {e:mV} (he:(nN P t s.heap sx si).run id=some e) :
  o.wp P a w (sZ P N G o s e) Q:=by
 unfold nN at he
 split at he
 case h_2=>cases he
 rename_i k n
 have ei:=ij hi
 split at he
 ·rename_i el hu
  split at he
  ·-- a row that may be written
   rename_i id bG
   split at he
   case h_2=>cases he
   rename_i cur T τ sl c ho hsz
   split at he
   case h_2=>cases he
   rename_i hc
   simp only [Bool.and_eq_true] at hc
   have Vk:=Nat.eq_of_beq_eq_true hc.2
   have hc:=Nat.eq_of_beq_eq_true hc.1
   simp only [Br.run,er,bad] at he
   cases hb:decide (0<=(show Int from n)/\(show Int from n) < sl.n) with
   | false=>simp only [hb,cond_false] at he; cases he
   | true =>
    simp only [hb,cond_true,_root_.id] at he
    cases he
    have xh:0<=(show Int from n)/\(show Int from n) < sl.n:=of_decide_eq_true hb
    obtain ⟨h1,_,h3⟩:=hx
    have hnn:(show Int from n).toNat < sl.n:=by omega
    obtain ⟨h0,_⟩ | ⟨b,cap,hb1,hv,_,_⟩:=(h3 _ _ _ _ ho).2 Vk
    ·omega
    refine bt h hd (v:=.pointer (some ⟨b,(show Int from n).toNat * τ.cells,none⟩)) ?_ ⟨h1,⟨_,rfl⟩,fun cu' T' e' s' ho'=>?_⟩
    ·simp only [execOp,hop,ei,hv,Instr.indexAt,asIntOf,Sem.run_bind,Sem.run_pure,Result.andThen_ok,run_underlying hu,if_pos xh,fc hsz,Addr.add_lit,hc,Nat.zero_add]
    ·rw [ho] at ho'; cases ho'
     exact ⟨by omega,fun _=>⟨b,hb1,rfl,hnn⟩⟩
  ·-- a row of rows
   rename_i id
   split at he
   case h_2=>cases he
   rename_i cur T τ d c ho hsz
   split at he
   case h_2=>cases he
   rename_i hc
   have hc:=Nat.eq_of_beq_eq_true hc
   simp only [Br.run,er,bad] at he
   cases hb:decide (0<=(show Int from n)/\(show Int from n) < d.n) with
   | false=>simp only [hb,cond_false] at he; cases he
   | true =>
    simp only [hb,cond_true,_root_.id] at he
    cases he
    have xh:0<=(show Int from n)/\(show Int from n) < d.n:=of_decide_eq_true hb
    obtain ⟨h1,_,h3⟩:=hx
    obtain ⟨b,cap,hb1,hv,_,_⟩:=h3 _ _ _ _ ho
    have hnn:(show Int from n).toNat < d.n:=by omega
    refine bt h hd (v:=.pointer (some ⟨b,(show Int from n).toNat,none⟩)) ?_ ⟨h1,⟨_,rfl⟩,fun cu' T' e' s' ho'=>?_⟩
    ·simp only [execOp,hop,ei,hv,Instr.indexAt,asIntOf,Sem.run_bind,Sem.run_pure,Result.andThen_ok,run_underlying hu,if_pos xh,fc hsz,Addr.add_lit,hc,Nat.zero_add,Nat.mul_one]
    ·rw [ho] at ho'; cases ho'
     exact ⟨b,hb1,rfl,hnn⟩
  ·-- a row of these
   rename_i id bG i m
   split at he
   case h_2=>cases he
   rename_i cur T τ d c ho hsz
   split at he
   case h_2=>cases he
   rename_i hc
   simp only [Bool.and_eq_true] at hc
   have Vk:=Nat.eq_of_beq_eq_true hc.2
   have zm:=Nat.eq_of_beq_eq_true hc.1
   subst Vk
   subst zm
   simp only [Br.run,er,bad] at he
   cases hb:decide (0<=(show Int from n)/\(show Int from n) < m) with
   | false=>simp only [hb,cond_false] at he; cases he
   | true =>
    simp only [hb,cond_true,_root_.id] at he
    cases he
    have xh:0<=(show Int from n)/\(show Int from n) < m:=of_decide_eq_true hb
    have h1:=hx.1
    obtain ⟨q1,q2,ad,cap,q3,q4,_,_,q5⟩:=vJ h hx ho
    obtain ⟨b',rfl⟩:=q5 (by omega)
    have hnn:(show Int from n).toNat < (d.g i).n:=by omega
    refine bt h hd (v:=.pointer (some ⟨b',(show Int from n).toNat * τ.cells,none⟩)) ?_ ⟨h1,⟨_,rfl⟩,fun cu' T' e' s' ho'=>?_⟩
    ·simp only [execOp,hop,ei,q4,Instr.indexAt,asIntOf,Sem.run_bind,Sem.run_pure,Result.andThen_ok,run_underlying hu,if_pos xh,fc hsz,Addr.add_lit,Nat.zero_add]
    ·rw [ho] at ho'; cases ho'
     exact ⟨Nat.le_refl _,fun _=>⟨q1,hnn,b',cap,q3,rfl⟩⟩
  split at he
  case h_2=>cases he
  rename_i τ sl c hrow hsz
  split at he
  case h_2=>cases he
  rename_i hc
  have hc:=Nat.eq_of_beq_eq_true hc
  simp only [kN,Br.run,er,bad] at he
  cases hb:decide (0<=(show Int from n)/\(show Int from n) < sl.n) with
  | false=>simp only [hb,cond_false] at he; cases he
  | true =>
   simp only [hb,cond_true,id] at he
   cases he
   have xh:0<=(show Int from n)/\(show Int from n) < sl.n:=of_decide_eq_true hb
   have hR:=nT hx hrow
   have hnn:(show Int from n).toNat < sl.n:=by omega
   rcases hR with ⟨hv,h0⟩ | ⟨b,off,cap,hv,h1,h2,h3⟩
   ·omega
   ·obtain ⟨us,u1,u2,u3⟩:=h3 _ hnn
    have hv:a.eval x = .slice (some ⟨b,off,none⟩) sl.n cap:=by simpa using hv
    refine bt h hd (v:=.pointer (some ⟨b,off + (show Int from n).toNat * τ.cells,none⟩)) ?_ ⟨rfl,b,_,us,rfl,u1,u2,u3⟩
    simp only [execOp,hop,ei,hv,Instr.indexAt,asIntOf,Sem.run_bind,Sem.run_pure,Result.andThen_ok,run_underlying hu,if_pos xh,fc hsz,Addr.add_lit,hc]
 ·rename_i len el hu
  have key:∀ (id off c:Nat),dS s.heap ρ id off (a.eval x)->cy P el=some c->(kN (decide (0<=(show Int from n)/\(show Int from n) < len)) (.v (.KP id (off + (show Int from n).toNat * c))) []).run _root_.id=some e ->
    o.wp P a w (sZ P N G o s e) Q:=by
   intro id off c hx hsz he
   simp only [kN,Br.run,er,bad] at he
   cases hb:decide (0<=(show Int from n)/\(show Int from n) < len) with
   | false=>simp only [hb,cond_false] at he; cases he
   | true =>
    simp only [hb,cond_true,_root_.id] at he
    cases he
    have xh:0<=(show Int from n)/\(show Int from n) < len:=of_decide_eq_true hb
    obtain ⟨ad,hv,hp⟩:=hx.add ((show Int from n).toNat * c)
    refine bt h hd (v:=.pointer (some (ad.add ((show Int from n).toNat * c)))) ?_ hp
    simp only [execOp,hop,ei,hv,Instr.indexAt,asIntOf,Sem.run_bind,Sem.run_pure,Result.andThen_ok,run_underlying hu,if_pos xh,fc hsz,Instr.sureAddr]
  split at he
  ·rename_i id off c hsz; exact key id off c hx hsz he
  ·rename_i id off c hsz; exact key id off c hx hsz he
  ·rename_i τ x' c hsz
   split at he
   case h_2=>cases he
   rename_i hc
   simp only [Bool.and_eq_true,Nat.blt_eq] at hc
   obtain ⟨mm,hmm⟩:∃ mm,mm=(show Int from n).toNat * c:=⟨_,rfl⟩
   rw [<- hmm] at hc he
   simp only [kN,Br.run,er,bad] at he
   cases hb:decide (0<=(show Int from n)/\(show Int from n) < len) with
   | false=>simp only [hb,cond_false] at he; cases he
   | true =>
    simp only [hb,cond_true,_root_.id] at he
    cases he
    have xh:0<=(show Int from n)/\(show Int from n) < len:=of_decide_eq_true hb
    obtain ⟨b,off,us,hv,u1,u2,u3⟩:=nW hx
    have hv:a.eval x = .pointer (some ⟨b,off,none⟩):=by simpa using hv
    have aFo:Int.toNat n * c=mm:=hmm.symm
    obtain ⟨q1,q2,q3⟩:=EF (n:=mm) hc.1 (by omega) u1
    refine bt h hd (v:=.pointer (some ⟨b,off + mm,none⟩)) ?_ ⟨rfl,b,off + mm,us.drop mm,rfl,q1,by simp; omega,fun j v hj=>?_⟩
    ·simp only [execOp,hop,ei,hv,Instr.indexAt,asIntOf,Sem.run_bind,Sem.run_pure,Result.andThen_ok,run_underlying hu,if_pos xh,fc hsz,Instr.sureAddr,Addr.add_lit,aFo]
    ·rw [List.getElem?_drop] at hj
     have:=u3 _ _ hj
     rwa [<- Nat.add_assoc] at this
  ·cases he
 ·cases he
theorem zn {o:Oper} {Q:Exit->Act->World->Prop} (h:SR P N G s a w ρ S F) (hd:o.dst.all (Nat.blt · N)=true) {t:TypeId} {x:Operand} {f:Nat} (hop:o.op = .fieldAddr t x f)
  {fs:Array Field} (hu:P.underlying t=some (.struct fs)) {fd:Field} (hf:fs[f]? = some fd) {n:Nat} (hn:cy P fd.type=some (n + 1))
  {sx:Slot} (hx:RS P G.Y S w s.heap ρ sx (a.eval x)) {e:mV}
  (he:(tQ fd.offset sx).run id=some e) :
  o.wp P a w (sZ P N G o s e) Q:=by
 have hrun:∀ ad,a.eval x = .pointer (some ad)->(execOp a.eval o).run P w = .ok (.value (.pointer (some (ad.add fd.offset)))) w:=fun ad hv=>by
  simp only [execOp,hop,hv,Sem.run_bind,Ir hu hf hn,Result.andThen_ok,Sem.run_pure]
 cases sx with
 | v d =>
  cases d with
  | ptr id off =>
   cases he
   obtain ⟨ad,hv,hp⟩:=dS.add hx fd.offset
   exact bt h hd (hrun ad hv) hp
  | KP id off =>
   cases he
   obtain ⟨ad,hv,hp⟩:=dS.add hx fd.offset
   exact bt h hd (hrun ad hv) hp
  | La id bG i off =>
   cases he
   obtain ⟨h1,⟨ad,hv⟩,h3⟩:=hx
   refine bt h hd (hrun ad hv) ⟨h1,⟨_,rfl⟩,fun cu T e s' ho=>?_⟩
   obtain ⟨q0,h3⟩:=h3 _ _ _ _ ho
   refine ⟨q0,fun td=>?_⟩
   obtain ⟨b,q1,q2,q3⟩:=h3 td
   rw [hv] at q2
   cases q2
   exact ⟨b,q1,by rw [Addr.add_lit,Nat.add_assoc],q3⟩
  | xo id bG i j off =>
   cases he
   obtain ⟨h1,⟨ad,hv⟩,h3⟩:=hx
   refine bt h hd (hrun ad hv) ⟨h1,⟨_,rfl⟩,fun cu T e s' ho=>?_⟩
   obtain ⟨q0,h3⟩:=h3 _ _ _ _ ho
   refine ⟨q0,fun td=>?_⟩
   obtain ⟨q1,q2,b,cap,q3,q4⟩:=h3 td
   rw [hv] at q4
   cases q4
   exact ⟨q1,q2,b,cap,q3,by rw [Addr.add_lit,Nat.add_assoc]⟩
  | pc τ x' =>
   cases τ with
   | ptr el =>
    simp only [tQ] at he
    cases hc:(Nat.blt fd.offset el.cells && el.flat) with
    | false=>rw [hc] at he; cases he
    | true =>
    rw [hc] at he
    cases he
    simp only [Bool.and_eq_true,Nat.blt_eq] at hc
    obtain ⟨b,off,us,hv,u1,u2,u3⟩:=nW hx
    have hv:a.eval x = .pointer (some ⟨b,off,none⟩):=by simpa using hv
    obtain ⟨q1,q2,q3⟩:=EF (n:=fd.offset) hc.2 (by omega) u1
    refine bt h hd (hrun _ hv) ⟨rfl,b,off + fd.offset,us.drop fd.offset,by rw [Addr.add_lit],q1,by simp; omega,fun j v hj=>?_⟩
    rw [List.getElem?_drop] at hj
    have:=u3 _ _ hj
    rwa [<- Nat.add_assoc] at this
   | _=>cases he
  | _=>cases he
 | _=>cases he
theorem IC {o:Oper} {Q:Exit->Act->World->Prop} (h:SR P N G s a w ρ S F) (hd:o.dst.all (Nat.blt · N)=true) {t:TypeId} {x i:Operand} (hop:o.op = .index t x i)
  {len:Nat} {el:TypeId} (hu:P.underlying t=some (.array len el)) {ds:List DC} (hx:RS P G.Y S w s.heap ρ (.agg ds) (a.eval x)) {k:IntKind} {n:Int} (hi:a.eval i = .int k n)
  {c:Nat} (hsz:cy P el=some c) (hb:0<=n/\n < len) {e:mV} (he:(viewAt P el ds (n.toNat * c) []).run id=some e) :
  o.wp P a w (sZ P N G o s e) Q:=by
 obtain ⟨us,hv,hr⟩:=hx
 have hrun:∀ v,(part el us.toArray (n.toNat * c)).run P w = .ok v w->(execOp a.eval o).run P w = .ok (.value v) w:=fun v hp=>by
  simp only [execOp,hop,hv,hi,Instr.index,asIntOf,Sem.run_bind,Sem.run_pure,Result.andThen_ok,run_underlying hu,if_pos hb,fc hsz,hp]
 obtain ⟨sl,rfl,m,hm,⟨ha,_,hs⟩ | ⟨ha,u,hu',hs⟩⟩:=qH hr he
 ·exact bt h hd (hrun _ (AZ ha hm)) hs
 ·exact bt h hd (hrun _ (vD ha hu')) hs
theorem ID {o:Oper} {Q:Exit->Act->World->Prop} (h:SR P N G s a w ρ S F) (hd:o.dst.all (Nat.blt · N)=true) {t:TypeId} {x:Operand} {f:Nat} (hop:o.op = .field t x f)
  {fs:Array Field} (hu:P.underlying t=some (.struct fs)) {fd:Field} (hf:fs[f]? = some fd) {ds:List DC} (hx:RS P G.Y S w s.heap ρ (.agg ds) (a.eval x)) {e:mV}
  (he:(viewAt P fd.type ds fd.offset []).run id=some e) :
  o.wp P a w (sZ P N G o s e) Q:=by
 obtain ⟨us,hv,hr⟩:=hx
 have hrun:∀ v,(part fd.type us.toArray fd.offset).run P w = .ok v w->(execOp a.eval o).run P w = .ok (.value v) w:=fun v hp=>by
  simp only [execOp,hop,hv,Instr.field,asAgg,Sem.run_bind,Sem.run_pure,Result.andThen_ok,run_underlying hu,hf,hp]
 obtain ⟨sl,rfl,m,hm,⟨ha,_,hs⟩ | ⟨ha,u,hu',hs⟩⟩:=qH hr he
 ·exact bt h hd (hrun _ (AZ ha hm)) hs
 ·exact bt h hd (hrun _ (vD ha hu')) hs
theorem iU {α:Type} {L vs:List α} {p:Nat} (h:p + vs.length<=L.length) (k:Nat) :
  (L.take p ++ vs ++ L.drop (p + vs.length))[k]? = if k < p then L[k]? else if k < p + vs.length then vs[k - p]? else L[k]? := by
 have hl:(L.take p).length=p:=by simp; omega
 split
 ·rename_i hk
  rw [List.append_assoc,List.getElem?_append_left (by omega),List.getElem?_take,if_pos hk]
 ·rename_i hk
  rw [List.append_assoc,List.getElem?_append_right (by omega),hl]
  split
  ·rename_i hk2
   rw [List.getElem?_append_left (by omega)]
  ·rename_i hk2
   rw [List.getElem?_append_right (by omega),List.getElem?_drop]
   congr 1; omega
theorem RL.splice {rc:DC->Value->Prop} {ds cs:List DC} {us vs:List Value} (h:RL rc ds us) (hc:RL rc cs vs) (off:Nat) :
  RL rc (splice ds off cs) (us.take off ++ vs ++ us.drop (off + vs.length)):=by
 unfold Go.Dm.splice
 rw [hc.1]
 exact ((h.take off).append hc).append (h.drop _)
theorem RL.vu {rc:DC->Value->Prop} {ds cs:List DC} {us vs:List Value} (h:RL rc ds us) (hc:RL rc cs vs) {off:Nat} (hle:off + cs.length<=ds.length) :
  RL rc (vu ds off cs) (us.take off ++ vs ++ us.drop (off + vs.length)):=by
 unfold Go.Dm.vu
 split
 ·rename_i τ x r
  split
  ·rename_i xs ys hxs hys
   refine ⟨by have:=h.1; have:=hc.1; simp at *; omega,fun j d u h1 h2=>?_⟩
   have hle':off + vs.length<=us.length:=by rw [<- h.1,<- hc.1]; exact hle
   rw [iU hle'] at h2
   rw [List.getElem?_map] at h1
   cases hr:(List.range (DC.pc τ x :: r).length)[j]? with
   | none=>rw [hr] at h1; cases h1
   | some j' =>
    rw [hr] at h1
    obtain ⟨hj,rfl⟩:j < (DC.pc τ x :: r).length/\j'=j:=by
     by_cases hj:j < (DC.pc τ x :: r).length
     ·rw [List.getElem?_range hj] at hr; cases hr; exact ⟨hj,rfl⟩
     ·rw [List.getElem?_eq_none (by simp at hj ⊢; omega)] at hr; cases hr
    simp only [Option.map_some,Option.some.injEq] at h1
    subst h1
    by_cases c1:j' < off
    ·rw [if_pos c1] at h2
     have hb:Nat.ble off j'=false:=by rw [<- Bool.not_eq_true,Nat.ble_eq]; omega
     simp only [hb,Bool.false_and,cond_false]
     exact h.2 j' _ _ (vC hxs j' hj x) h2
    ·rw [if_neg c1] at h2
     have hb:Nat.ble off j'=true:=by rw [Nat.ble_eq]; omega
     by_cases c2:j' < off + vs.length
     ·rw [if_pos c2] at h2
      have hb2:Nat.blt j' (off + cs.length)=true:=by rw [Nat.blt_eq,hc.1]; exact c2
      simp only [hb,hb2,Bool.and_self,cond_true]
      exact hc.2 (j' - off) _ _ (vC hys (j' - off) (by rw [hc.1]; omega) x) h2
     ·rw [if_neg c2] at h2
      have hb2:Nat.blt j' (off + cs.length)=false:=by rw [<- Bool.not_eq_true,Nat.blt_eq,hc.1]; exact c2
      simp only [hb,hb2,Bool.and_false,cond_false]
      exact h.2 j' _ _ (vC hxs j' hj x) h2
  ·exact h.splice hc off
 ·exact h.splice hc off
theorem sA {o:Oper} {t:TypeId} {x y:Operand} (hop:o.op = .store t x y) {b off:Nat} (hv:a.eval x = .pointer (some ⟨b,off,none⟩)) {arr:Array Value} {T:TypeId}
  (hh:w.heap[b]? = some (.cells arr T (0,0))) {n:Nat} (hn:cy P t=some n) (gY:(a.eval y).cells.size=n) (hle:off + n<=arr.size) (ho1:∀ v∈(a.eval y).cells.toList,v.oneCell'=true) :
  (execOp a.eval o).run P w = .ok .skip (w.setRow b (arr.toList.take off ++ (a.eval y).cells.toList ++ arr.toList.drop (off + (a.eval y).cells.toList.length)).toArray):=by
 have hrun:=run_storeCells_at (P:=P) b off T (a.eval y).cells.toList 0 arr w hh (by simp; omega) ho1
 have hne:¬ (a.eval y).cells.size≠n:=by simp [gY]
 simp only [execOp,hop,hv,Instr.storeAt,Instr.sureAddr,storeVar,Sem.run_bind,Sem.run_pure,Result.andThen_ok,fc hn,Sem.run_ite,if_neg hne,Nat.add_zero] at hrun ⊢
 rw [hrun]; rfl
theorem yB (hG:G.Ok P) {o:Oper} {Q:Exit->Act->World->Prop} (h:SR P N G s a w ρ S F) (hd:o.dst.all (Nat.blt · N)=true) {t:TypeId} {x y:Operand} (hop:o.op = .store t x y)
  {id off:Nat} (hx:dS s.heap ρ id off (a.eval x)) {sy:Slot} (hy:RS P G.Y S w s.heap ρ sy (a.eval y)) {cs ds ds':List DC} (hc:dI sy=some cs)
  (ho:s.heap id = .box ds) {n:Nat} (hn:cy P t=some n) (hl:cs.length=n) (hle:off + cs.length<=ds.length)
  (hds:∀ {us vs:List Value},RL (RC P G.Y S w s.heap ρ) ds us->RL (RC P G.Y S w s.heap ρ) cs vs->RL (RC P G.Y S w s.heap ρ) ds' (us.take off ++ vs ++ us.drop (off + vs.length))) {rh:List Nat} :
  o.wp P a w (sZ P N G o s ⟨some .top,[(id,.box ds')],rh,true,none⟩) Q:=by
 obtain ⟨b,arr,T,hb,hv,hh,hr⟩:=vI h ho hx
 have SA:=gq G.jS hy hc
 have gY:(a.eval y).cells.size=n:=by rw [<- hl,SA.1]; simp
 have hex:=sA (P:=P) hop hv hh hn gY (by have:=hr.1; have:=SA.1; simp at *; omega) (RL.jV G.jS SA)
 unfold Oper.wp
 rw [hex]
 have q:=h.store hG ho hb hh (by have:=hr.1; have:=SA.1; simp at *; omega) (ds':=ds') (gA:=(arr.toList.take off ++ (a.eval y).cells.toList ++ arr.toList.drop (off + (a.eval y).cells.toList.length)).toArray) (by simpa using hds hr SA)
 exact ⟨rfl,ρ,S,F,(q.mZ hd).of_eq rfl rfl rfl rfl⟩
theorem Bj (hG:G.Ok P) {o:Oper} {Q:Exit->Act->World->Prop} (h:SR P N G s a w ρ S F) (hd:o.dst.all (Nat.blt · N)=true) {t:TypeId} {x y:Operand} (hop:o.op = .store t x y)
  {id bG i off:Nat} (hx:RC P G.Y S w s.heap ρ (.La id bG i off) (a.eval x)) {sy:Slot} (hy:RS P G.Y S w s.heap ρ sy (a.eval y)) {cs:List DC} (hc:dI sy=some cs)
  {T:TypeId} {e:Ty} {sl:Sl e.den} (ho:s.heap id = .row bG T e sl) {n:Nat} (hn:cy P t=some n) {x':e.den} (hx':eV e (splice (ee e (sl.g i)) off cs)=some x')
  (hl:cs.length=n) (hle:off + cs.length<=e.cells) {rh:List Nat} :
  o.wp P a w (sZ P N G o s ⟨some .top,[(id,.row bG T e (cm sl i x'))],rh,true,none⟩) Q:=by
 have cK:=h.obj id
 rw [ho] at cK
 obtain ⟨_,_,h3⟩:=hx
 obtain ⟨b',hb',hv,hi⟩:=(h3 _ _ _ _ ho).2 rfl
 obtain ⟨⟨hfl,hpos⟩,⟨hb,_⟩ | ⟨b,arr,hb,jJ,hh,hsz,nX,hS⟩⟩:=cK
 ·rw [hb] at hb'; cases hb'
 have xh:b=b':=by rw [hb] at hb'; injection hb'
 subst xh
 have SA:=gq G.jS hy hc
 have gY:(a.eval y).cells.size=n:=by rw [<- hl,SA.1]; simp
 obtain ⟨SB,sB,hel,VR⟩:=nX i hi
 have alN:i * e.cells + e.cells<=sl.n * e.cells:=by rw [<- Nat.succ_mul]; exact Nat.mul_le_mul_right _ hi
 have hvl:(a.eval y).cells.toList.length=n:=by simpa using gY
 have hex:=sA (P:=P) hop hv hh hn gY (by omega) (RL.jV G.jS SA)
 unfold Oper.wp
 rw [hex]
 -- the new element
 have hR:R P e S w x' (SB.take off ++ (a.eval y).cells.toList ++ SB.drop (off + (a.eval y).cells.toList.length)):=
  fN (Y:=G.Y) (heap:=s.heap) (ρ:=ρ) (RL.splice (eH hfl sB) SA off) hx'
 have hlt:=(Array.getElem?_eq_some_iff.1 hh).1
 generalize hL:(arr.toList.take (i * e.cells + off) ++ (a.eval y).cells.toList ++ arr.toList.drop (i * e.cells + off + (a.eval y).cells.toList.length))=L
 have hLg:∀ k,L[k]? = if k < i * e.cells + off then arr.toList[k]? else if k < i * e.cells + off + (a.eval y).cells.toList.length then (a.eval y).cells.toList[k - (i * e.cells + off)]? else arr.toList[k]? := fun k=>by
  rw [<- hL]; exact iU (by simp; omega) k
 have hLl:L.length=arr.size:=by rw [<- hL]; simp; omega
 have fU:∀ k,k≠b->(w.setRow b L.toArray).heap[k]? = w.heap[k]? := fun k hk=>setRow_other w b k _ hk
 have Bc:(w.setRow b L.toArray).heap.size=w.heap.size:=by simp [World.setRow]
 have ex:Ext0 S w S (w.setRow b L.toArray):=⟨by omega,fun _ _ x=>x,fun b' o zi=>World.cell?_of_block (a:=⟨b',o,none⟩) (fU b' (fun e=>hS o (e ▸ zi))),fun b' o es c zi hm=>(fU b' (fun e=>hS o (e ▸ zi))).trans hm,fun b' o zi=>by rw [Bc]; exact h.bd b' o zi,.setRow hh (by simp [hLl])⟩
 have Vj:=setRow_heap w b arr L.toArray T _ hh
 have q:=h.Lj hG (id:=id) (o:=.row bG T e (cm sl i x')) (by rw [ho]; trivial) hb ex ⟨rfl,rfl,rfl,by omega,fun k hk=>fU k hk.2⟩ Bc (fun _ _ q=>.inl q)
  (by rw [ho]; exact .inr ⟨_,_,rfl,Nat.le_refl _,fun _=>⟨rfl,.inl rfl⟩⟩)
  ⟨⟨hfl,hpos⟩,.inr ⟨b,L.toArray,hb,jJ,Vj,by simpa [hLl,cm] using hsz,fun k hk=>by
   have hk:k < sl.n:=hk
   by_cases hki:k=i
   ·subst hki
    refine ⟨SB.take off ++ (a.eval y).cells.toList ++ SB.drop (off + (a.eval y).cells.toList.length),by simp only [cm,Nat.beq_refl,cond_true]; exact hR.mono ex,by simp; omega,fun j v hj=>?_⟩
    have hjl:j < e.cells:=by
     have:=(List.getElem?_eq_some_iff.1 hj).1
     simp at this; omega
    rw [List.getElem?_toArray,hLg]
    rw [iU (by omega)] at hj
    by_cases c1:j < off
    ·rw [if_pos (by omega),Array.getElem?_toList]
     rw [if_pos c1] at hj
     exact VR j v hj
    ·rw [if_neg c1] at hj
     rw [if_neg (by omega)]
     by_cases c2:j < off + (a.eval y).cells.toList.length
     ·rw [if_pos c2] at hj
      rw [if_pos (by omega),show k * e.cells + j - (k * e.cells + off)=j - off by omega]
      exact hj
     ·rw [if_neg c2] at hj
      rw [if_neg (by omega),Array.getElem?_toList]
      exact VR j v hj
   ·obtain ⟨us1,v1,v2,v3⟩:=nX k hk
    refine ⟨us1,by simp only [cm,bF hki,cond_false]; exact v1.mono ex,v2,fun j v hj=>?_⟩
    have hjl:j < e.cells:=by
     have:=(List.getElem?_eq_some_iff.1 hj).1
     omega
    rw [List.getElem?_toArray,hLg]
    rcases Nat.lt_or_gt_of_ne hki with hlt' | hgt
    ·have:k * e.cells + e.cells<=i * e.cells:=by rw [<- Nat.succ_mul]; exact Nat.mul_le_mul_right _ hlt'
     rw [if_pos (by omega),Array.getElem?_toList]; exact v3 j v hj
    ·have:i * e.cells + e.cells<=k * e.cells:=by rw [<- Nat.succ_mul]; exact Nat.mul_le_mul_right _ hgt
     rw [if_neg (by omega),if_neg (by omega),Array.getElem?_toList]; exact v3 j v hj,hS⟩⟩
 exact ⟨rfl,ρ,S,F,(q.mZ hd).of_eq rfl rfl rfl rfl⟩
theorem VS (h:SR P N G s a w ρ S F) {id bG i off:Nat} {v:Value} (hx:RC P G.Y S w s.heap ρ (.La id bG i off) v) {T:TypeId} {e:Ty} {sl:Sl e.den} (ho:s.heap id = .row bG T e sl) :
  ∃ b us,v = .pointer (some ⟨b,i * e.cells + off,none⟩)/\RL (RC P G.Y S w s.heap ρ) (ee e (sl.g i)) us /\
   ∀ (j:Nat) (u:Value),us[j]? = some u->w.cell? ⟨b,i * e.cells + j,none⟩=some u:=by
 have cK:=h.obj id
 rw [ho] at cK
 obtain ⟨_,_,h3⟩:=hx
 obtain ⟨b',hb',hv,hi⟩:=(h3 _ _ _ _ ho).2 rfl
 obtain ⟨⟨hfl,hpos⟩,⟨hb,_⟩ | ⟨b,arr,hb,jJ,hh,hsz,nX,hS⟩⟩:=cK
 ·rw [hb] at hb'; cases hb'
 have xh:b=b':=by rw [hb] at hb'; injection hb'
 subst xh
 obtain ⟨us,u1,u2,u3⟩:=nX i hi
 exact ⟨b,us,hv,eH hfl u1,fun j u hj=>by rw [cell_of_row w b _ arr T _ hh]; exact u3 j u hj⟩
theorem VT (h:SR P N G s a w ρ S F) {id i:Nat} {v:Value} (hx:RC P G.Y S w s.heap ρ (.Pn id i) v) {cur:Nat} {T:TypeId} {e:Ty} {d:Sl (Sl e.den)} (ho:s.heap id = .rows cur T e d) :
  ∃ b us,v = .pointer (some ⟨b,i + 0,none⟩)/\RL (RC P G.Y S w s.heap ρ) [.sub id cur i (d.g i).n] us/\∀ (j:Nat) (u:Value),us[j]? = some u->w.cell? ⟨b,i + j,none⟩=some u:=by
 have cK:=h.obj id
 rw [ho] at cK
 obtain ⟨_,_,h3⟩:=hx
 obtain ⟨b',hb',hv,hi⟩:=h3 _ _ _ _ ho
 obtain ⟨_,b,arr,T',q1,q2,q3,q4,q5,q6,q7⟩:=cK
 rw [q1] at hb'; cases hb'
 obtain ⟨ad,cap,z1,z2⟩:=q7 i hi
 refine ⟨b',[.slice ad (d.g i).n cap],hv,.cons ⟨by rw [ho]; simp,⟨_,_,_,rfl⟩,fun cu1 T1 e1 d1 h1=>?_⟩ .nil,fun j u hj=>?_⟩
 ·rw [ho] at h1; cases h1
  exact ⟨Nat.le_refl _,fun _=>⟨hi,Nat.le_refl _,ad,cap,⟨b',arr,T',q1,q3,z1⟩,rfl⟩⟩
 ·cases j with
  | zero=>cases hj; rw [cell_of_row w b' _ arr T' _ q3]; exact z1
  | succ j=>simp at hj
theorem SC (h:SR P N G s a w ρ S F) {id bG i j off:Nat} {v:Value} (hx:RC P G.Y S w s.heap ρ (.xo id bG i j off) v) {T:TypeId} {e:Ty} {d:Sl (Sl e.den)} (ho:s.heap id = .rows bG T e d) :
  ∃ b us,v = .pointer (some ⟨b,j * e.cells + off,none⟩)/\RL (RC P G.Y S w s.heap ρ) (ee e ((d.g i).g j)) us /\
   ∀ (k:Nat) (u:Value),us[k]? = some u->w.cell? ⟨b,j * e.cells + k,none⟩=some u:=by
 have cK:=h.obj id
 rw [ho] at cK
 obtain ⟨_,_,h3⟩:=hx
 obtain ⟨hi,hj,b',cap',⟨b0,qx,T0,p1,p2,p3⟩,hv⟩:=(h3 _ _ _ _ ho).2 rfl
 obtain ⟨⟨hfl,_⟩,b,arr,T',q1,q2,q3,q4,q5,q6,q7⟩:=cK
 rw [q1] at p1; cases p1
 rw [q3] at p2; cases p2
 obtain ⟨ad,cap,z1,z2⟩:=q7 i hi
 rw [p3] at z1
 simp only [Option.some.injEq,Value.slice.injEq,true_and] at z1
 obtain ⟨z1,z3⟩:=z1
 rcases z2 with z2 | ⟨_,b2,jX,T2,y1,y2,y3,y4,y5,y6,y7,y8,y9⟩
 ·omega
 rw [<- z1] at y1; cases y1
 obtain ⟨us,u1,u2,u3⟩:=y8 j hj
 exact ⟨b',us,hv,eH hfl u1,fun k u hk=>by rw [cell_of_row w b' _ jX T2 _ y4]; exact u3 k u hk⟩
end Go.Dm
namespace Go.Dm
open Go.RowKit
variable {P:Program} {N:Nat} {G:Gh} {S S':CS} {w w':World} {s:St} {a:Act} {ρ ρ':fA} {F F':Nat->Prop} {heap heap':Nat->bu} {Y:Value} {E:cg} {Γ:Ctx}
theorem Bk (hG:G.Ok P) {o:Oper} {Q:Exit->Act->World->Prop} (h:SR P N G s a w ρ S F) (hd:o.dst.all (Nat.blt · N)=true) {t:TypeId} {l c:Operand} (hop:o.op = .makeSlice t l c)
  {bJ:Nat} (hlo:G.lo<=bJ) {el:TypeId} {n:Int} (hl:RS P G.Y S w s.heap ρ (.v (.pc (.int .i64) n)) (a.eval l)) (hu:P.underlying t=some (.slice el)) (hsame:zL l c=true) (hn:s.heap bJ = .none)
  {i:TypeInfo} {cs:List DC} (hi:P.info? el=some i) (hz:fW P el=some cs) {e:mV} (he:(sk P el bJ i cs n).run id=some e) :
  o.wp P a w (sZ P N G o s e) Q:=by
 unfold sk at he
 split at he
 case h_2=>cases he
 rename_i el2 hu2
 split at he
 case h_2=>cases he
 rename_i τ k hτ hk
 split at he
 case h_2=>cases he
 rename_i yy
 simp only [Bool.and_eq_true,Nat.blt_eq] at yy
 obtain ⟨⟨⟨c1,c2⟩,c3⟩,c4⟩:=yy
 have c1:=Nat.eq_of_beq_eq_true c1
 have c2:=Nat.eq_of_beq_eq_true c2
 simp only [Br.run,er,bad] at he
 cases hb:decide (0 < n/\n<=281474976710656/\n * i.bytes<=281474976710656) with
 | false=>simp only [hb,cond_false] at he; cases he
 | true =>
  simp only [hb,cond_true,_root_.id] at he
  cases he
  obtain ⟨b1,b2,b3⟩:=of_decide_eq_true hb
  have el1:=ij hl
  have aFq:a.eval c = .int .i64 n:=by
   unfold zL at hsame
   split at hsame
   ·have:=Nat.eq_of_beq_eq_true hsame
    subst this
    exact el1
   ·cases hsame
  obtain ⟨i',zv,hi',DM,hzr⟩:=qK hz
  rw [hi] at hi'; cases hi'
  have hrun:=run_make (P:=P) w t el i zv hu hi DM .i64 .i64 n n (by omega) (Int.le_refl _) (by rw [Int.mul_comm]; exact b3) (Int.le_trans b2 (by decide))
  have hex:(execOp a.eval o).run P w = .ok (.value (.slice (some ⟨w.heap.size,0,none⟩) n.toNat n.toNat)) (w.alloc (.cells (madeCells zv.cells (n.toNat * i.size)) el)):=by
   simp only [execOp,hop,el1,aFq,Sem.run_bind,hrun,Result.andThen_ok,Sem.run_pure]
  obtain ⟨za,hza⟩:∃ za,zv.cells.toList=[.slice za 0 0]:=by
   have:=hzr (w:=w) (S:=S) (heap:=s.heap) (ρ:=ρ) G.jS
   generalize zv.cells.toList=zl at this
   cases zl with
   | nil=>have:=this.1; cases this
   | cons u us =>
    obtain ⟨q1,q2⟩:=this.of_cons
    have:=q2.1
    cases us with
    | cons _ _=>cases this
    | nil=>obtain ⟨za,rfl⟩:=q1; exact ⟨za,rfl⟩
  have hz1:zv.cells.size=1:=by have:=congrArg List.length hza; simpa using this
  have hz0:zv.cells[0]? = some (.slice za 0 0):=by rw [<- Array.getElem?_toList,hza]; rfl
  have hsz:(madeCells zv.cells (n.toNat * i.size)).size=n.toNat:=by rw [size_madeCells,c1,Nat.mul_one]
  have cS:∀ k,k < n.toNat->(madeCells zv.cells (n.toNat * i.size))[k]? = some (.slice za 0 0):=fun k hk=>by
   unfold madeCells
   rw [Array.getElem?_map,Array.getElem?_range,if_pos (by rw [c1]; omega)]
   simp only [Option.map_some]
   rw [hz1,Nat.mod_one,getElem!_def,hz0]
  have aiy:∀ (k:Nat) v,(madeCells zv.cells (n.toNat * i.size))[k]? = some v->v = .slice za 0 0:=fun k v hv=>by
   have:=(Array.getElem?_eq_some_iff.1 hv).1
   rw [cS k (by omega)] at hv
   exact (Option.some.inj hv).symm
  have hlen:n.toNat<=maxLen:=by unfold maxLen; omega
  refine sw hG h hd hn hlo (dc:=.rows bJ) (v:=.slice (some ⟨w.heap.size,0,none⟩) n.toNat n.toNat) (dob:=.rows 0 el2 τ ⟨n.toNat,fun _=>⟨0,fun _=>τ.dflt⟩⟩)
   (fun h1 r1 w1 h2 h3 h4=>⟨by rw [h2]; simp,⟨_,_,_,rfl⟩,fun cu T e s' he=>?_⟩) ?_ hex (.inr fun b q=>?_)
  ·rw [h2] at he; cases he
   exact ⟨w.heap.size,_,h3,rfl,Nat.le_refl _,hlen⟩
  ·refine ⟨⟨c4,by omega⟩,w.heap.size,_,el,by simp,vn.new h,heap_alloc_new w _,hsz,fun o hS=>absurd (h.bd _ _ hS) (by omega),fun i j b' n m c c' q _=>?_,fun i hi=>⟨za,0,cS i hi,.inl rfl⟩⟩
   have:=aiy i _ q
   cases this
  ·rcases q with q | ⟨i,n',cap,b0,arr,T,q1,q2,q3⟩
   ·have q:(if bJ=bJ then some w.heap.size else ρ bJ)=some b:=q
    rw [if_pos rfl] at q; exact (Option.some.inj q).symm
   ·have q1:(if bJ=bJ then some w.heap.size else ρ bJ)=some b0:=q1
    rw [if_pos rfl] at q1
    cases q1
    rw [heap_alloc_new] at q2
    cases q2
    have:=aiy i _ q3
    cases this
theorem zo (hG:G.Ok P) {o:Oper} {Q:Exit->Act->World->Prop} (h:SR P N G s a w ρ S F) (hd:o.dst.all (Nat.blt · N)=true) {t:TypeId} {l c:Operand} (hop:o.op = .makeSlice t l c)
  {bJ:Nat} (hlo:G.lo<=bJ) {ls:Slot} (hl:RS P G.Y S w s.heap ρ ls (a.eval l)) {e:mV} (he:(nO P t bJ s.heap l c ls).run id=some e) :
  o.wp P a w (sZ P N G o s e) Q:=by
 unfold nO at he
 split at he
 case h_2=>cases he
 rename_i el n hu hsame hn
 split at he
 case h_2=>cases he
 rename_i i cs hi hz
 split at he
 case h_2=>exact Bk hG h hd hop hlo hl hu hsame hn hi hz he
 rename_i τ hτ
 split at he
 case h_2=>cases he
 rename_i z Px
 split at he
 case h_2=>cases he
 rename_i yy
 simp only [Bool.and_eq_true,Nat.blt_eq] at yy
 obtain ⟨⟨⟨c1,c2⟩,c3⟩,c4⟩:=yy
 have c1:=Nat.eq_of_beq_eq_true c1
 simp only [Br.run,er,bad] at he
 cases hb:decide (0<=(show Int from n)/\(show Int from n)<=281474976710656/\(show Int from n) * i.bytes<=281474976710656) with
 | false=>simp only [hb,cond_false] at he; cases he
 | true =>
  simp only [hb,cond_true,_root_.id] at he
  cases he
  obtain ⟨b1,b2,b3⟩:=of_decide_eq_true hb
  have el1:=ij hl
  have el2:a.eval c = .int .i64 n:=by
   unfold zL at hsame
   split at hsame
   ·rename_i t1 t2
    have:=Nat.eq_of_beq_eq_true hsame
    subst this
    exact el1
   ·cases hsame
  obtain ⟨i',zv,hi',DM,hzr⟩:=qK hz
  rw [hi] at hi'; cases hi'
  have hrun:=run_make (P:=P) w t el i zv hu hi DM .i64 .i64 n n b1 (Int.le_refl _) (by rw [Int.mul_comm]; exact b3) (Int.le_trans b2 (by decide))
  have hex:(execOp a.eval o).run P w = .ok (.value (.slice (some ⟨w.heap.size,0,none⟩) (show Int from n).toNat (show Int from n).toNat)) (w.alloc (.cells (madeCells zv.cells ((show Int from n).toNat * i.size)) el)):=by
   simp only [execOp,hop,el1,el2,Sem.run_bind,hrun,Result.andThen_ok,Sem.run_pure]
  have hzl:zv.cells.toList=encs τ z:=(R.plain (P:=P) (S:=S) (w:=w) c3).1 (fN (Y:=G.Y) (heap:=s.heap) (ρ:=ρ) (hzr G.jS) Px)
  have aFr:zv.cells.size=τ.cells:=by have:=congrArg List.length hzl; rw [gZ _ _ c3] at this; simpa using this
  have hlen:(show Int from n).toNat<=maxLen:=by unfold maxLen; omega
  refine sw hG h hd hn hlo (dc:=.row bJ 0) (v:=.slice (some ⟨w.heap.size,0,none⟩) (show Int from n).toNat (show Int from n).toNat) (dob:=.row 0 el τ ⟨(show Int from n).toNat,fun _=>z⟩)
   (fun h1 r1 w1 h2 h3 h4=>⟨by rw [h2]; simp,⟨_,_,_,rfl⟩,fun cu T e s' he=>?_⟩) ?_ hex
  ·rw [h2] at he; cases he
   exact ⟨Nat.le_refl _,fun _=>.inr ⟨w.heap.size,_,h3,rfl,Nat.le_refl _,hlen,(Array.getElem?_eq_some_iff.1 h4).1,fun arr T f ha=>by rw [h4] at ha; cases ha; rw [size_madeCells,c1]⟩⟩
  ·refine ⟨⟨c4,by omega⟩,.inr ⟨w.heap.size,_,by simp,vn.new h,heap_alloc_new w _,by rw [size_madeCells,c1]; exact Nat.le_refl _,fun j hj=>⟨encs τ z,(R.plain c3).2 rfl,gZ _ _ c3,fun k v hk=>?_⟩,fun o hS=>absurd (h.bd _ _ hS) (by omega)⟩⟩
   have hkl:k < τ.cells:=by
    have:=(List.getElem?_eq_some_iff.1 hk).1
    rwa [gZ _ _ c3] at this
   have hjk:j * τ.cells + k < (show Int from n).toNat * i.size:=by
    rw [c1]
    have:j * τ.cells + τ.cells<=(show Int from n).toNat * τ.cells:=by rw [<- Nat.succ_mul]; exact Nat.mul_le_mul_right _ hj
    omega
   unfold madeCells
   rw [Array.getElem?_map,Array.getElem?_range,if_pos hjk]
   simp only [Option.map_some]
   have hmod:(j * τ.cells + k) % zv.cells.size=k:=by
    rw [aFr,Nat.add_comm,Nat.add_mul_mod_self_right,Nat.mod_eq_of_lt hkl]
   have hk':zv.cells.toList[k]? = some v:=by rw [hzl]; exact hk
   have hk2:zv.cells[k]? = some v:=by simpa using hk'
   rw [hmod]
   congr 1
   rw [getElem!_def,hk2]
theorem Di (hG:G.Ok P) {o:Oper} {Q:Exit->Act->World->Prop} (h:SR P N G s a w ρ S F) (hd:o.dst.all (Nat.blt · N)=true) {t:TypeId} (hop:o.op = .makeMap t none)
  {bJ:Nat} (hlo:G.lo<=bJ) {e:mV} (he:(vw P t bJ s.heap).run id=some e) :
  o.wp P a w (sZ P N G o s e) Q:=by
 unfold vw at he
 split at he
 case h_2=>cases he
 rename_i kt vt hu hn
 split at he
 case h_2=>cases he
 rename_i k v hk hv
 split at he
 case h_2=>cases he
 rename_i hc
 simp only [Bool.and_eq_true] at hc
 cases he
 have hex:(execOp a.eval o).run P w = .ok (.value (.map (some w.heap.size))) (w.alloc (.map #[] 0)):=by
  simp only [execOp,hop,Instr.makeMap]
  rfl
 refine sw hG h hd hn hlo (dc:=.mp bJ) (v:=.map (some w.heap.size)) (dob:=.mp k v fun _=>none)
  (fun h1 r1 w1 h2 h3 _=>⟨by rw [h2]; simp,⟨_,rfl⟩,fun k e m _=>⟨_,h3,rfl⟩⟩) ?_ hex
 exact ⟨w.heap.size,#[],0,by simp,vn.new h,heap_alloc_new w _,⟨hc.1.1.1,hc.1.1.2,hc.1.2,hc.2⟩,⟨⟨[],rfl,by simp,by simp,fun x y hx=>by cases hx⟩,by simp,by simp⟩,fun o hS=>absurd (h.bd _ _ hS) (by omega)⟩
theorem xE {t el:TypeId} (hu:P.underlying t=some (.slice el)) {sz:Nat} (hn:cy P el=some sz) (ad:Option Addr) (n cap:Nat) {lo hi:Option Value} {p q:Nat}
  (hlo:(lo=none/\p=0)\/∃ k,lo=some (.int k p)) (hhi:(hi=none/\q=n)\/∃ k,hi=some (.int k q)) (h1:p<=q) (h2:q<=n) (h3:n<=cap) :
  (Instr.sliceAt t (.slice ad n cap) lo hi none).run P w = .ok (.slice (if cap=p then ad else ad.map (·.add (p * sz))) (q - p) (cap - p)) w:=by
 have sb:∀ (k:IntKind) (i:Nat) (y:Nat) (code:BoundsCode),i<=y->(Instr.sliceBound (.int k (i:Int)) y code).run P w = .ok i w:=fun k i y code hle=>by
  simp [Instr.sliceBound,asIntOf,hle]
 have hb:(Instr.sliceBounds true n cap lo hi none).run P w = .ok (p,q,cap) w:=by
  rcases hlo with ⟨rfl,rfl⟩ | ⟨k,rfl⟩ <;> rcases hhi with ⟨rfl,rfl⟩ | ⟨k',rfl⟩
  ·simp [Instr.sliceBounds]
  ·simp [Instr.sliceBounds,sb k' q cap _ (by omega)]
  ·simp [Instr.sliceBounds,sb k p q _ h1]
  ·simp [Instr.sliceBounds,sb k' q cap _ (by omega),sb k p q _ h1]
 simp [Instr.sliceAt,Instr.slice,run_underlying hu,hb,fc hn]
theorem IE {o:Oper} {Q:Exit->Act->World->Prop} (h:SR P N G s a w ρ S F) (hd:o.dst.all (Nat.blt · N)=true) {t:TypeId} {x:Operand} {lo hi:Option Operand} (hop:o.op = .slice t x lo hi none)
  {sx:Slot} (hx:RS P G.Y S w s.heap ρ sx (a.eval x)) (hv:∀ y:Operand,RS P G.Y S w s.heap ρ (val Γ s.env y) (a.eval y)) {e:mV} (he:(Lf P t sx (lo.map (val Γ s.env)) (hi.map (val Γ s.env))).run id=some e) :
  o.wp P a w (sZ P N G o s e) Q:=by
 unfold Lf at he
 split at he
 case h_2=>cases he
 rename_i el el' sl hu hrow
 split at he
 case h_2=>cases he
 rename_i k hk
 split at he
 case h_2=>cases he
 rename_i hke
 have hke:=Nat.eq_of_beq_eq_true hke
 have key:∀ (p q:Int),((lo.map a.eval=none/\p=0)\/∃ k,lo.map a.eval=some (.int k p))->((hi.map a.eval=none/\q=sl.n)\/∃ k,hi.map a.eval=some (.int k q)) ->
   (kN (decide (0<=p/\p<=q/\q<=sl.n)) (.v (.pc (.sl el') ⟨(q - p).toNat,fun i=>sl.g (i + p.toNat)⟩)) []).run id=some e->o.wp P a w (sZ P N G o s e) Q:=by
  intro p q hp hq he
  simp only [kN,Br.run,er,bad] at he
  cases hb:decide (0<=p/\p<=q/\q<=sl.n) with
  | false=>simp only [hb,cond_false] at he; cases he
  | true =>
   simp only [hb,cond_true,id] at he
   cases he
   obtain ⟨b1,b2,b3⟩:=of_decide_eq_true hb
   obtain ⟨p,rfl⟩:=Int.eq_ofNat_of_zero_le b1
   obtain ⟨q,rfl⟩:=Int.eq_ofNat_of_zero_le (Int.le_trans b1 b2)
   have b2:p<=q:=by omega
   have b3:q<=sl.n:=by omega
   have hp':(lo.map a.eval=none/\p=0)\/∃ k,lo.map a.eval=some (.int k (p:Int)):=hp.imp (fun x=>⟨x.1,by have:=x.2; omega⟩) (fun x=>x)
   have hq':(hi.map a.eval=none/\q=sl.n)\/∃ k,hi.map a.eval=some (.int k (q:Int)):=hq.imp (fun x=>⟨x.1,by have:=x.2; omega⟩) (fun x=>x)
   have hsub:((q:Int) - (p:Int)).toNat=q - p:=by omega
   rcases nT hx hrow with ⟨h0,ad,cap,KS⟩ | ⟨b,off,cap,KS,h1,h2,h3⟩
   ·have KS:a.eval x = .slice ad 0 cap:=by simpa using KS
    have hrun:=xE (P:=P) (w:=w) hu hk ad 0 cap hp' (by rw [h0] at hq'; exact hq') b2 (by omega) (Nat.zero_le _)
    refine bt h hd (v:=.slice (if cap=p then ad else ad.map (·.add (p * k))) (q - p) (cap - p)) ?_ ⟨rfl,.inl ⟨by show ((q:Int) - (p:Int)).toNat=0; omega,_,_,by rw [show q - p=0 by omega]⟩⟩
    simp only [execOp,hop,KS,Option.map_none,Sem.run_bind,hrun,Result.andThen_ok,Sem.run_pure]
   ·have KS:a.eval x = .slice (some ⟨b,off,none⟩) sl.n cap:=by simpa using KS
    have hrun:=xE (P:=P) (w:=w) hu hk (some ⟨b,off,none⟩) sl.n cap hp' hq' b2 b3 h1
    refine bt h hd (v:=.slice (if cap=p then some ⟨b,off,none⟩ else (some (⟨b,off,none⟩:Addr)).map (·.add (p * k))) (q - p) (cap - p)) ?_ ⟨rfl,?_⟩
    ·simp only [execOp,hop,KS,Option.map_none,Sem.run_bind,hrun,Result.andThen_ok,Sem.run_pure]
    ·by_cases hz:q - p=0
     ·exact .inl ⟨by show ((q:Int) - (p:Int)).toNat=0; omega,_,_,by rw [hz]⟩
     ·have hcp:¬ cap=p:=by omega
      rw [if_neg hcp]
      refine .inr ⟨b,off + p * k,cap - p,by simp only [Option.map_some,Addr.add_lit]; show _=[Value.slice _ ((q:Int) - (p:Int)).toNat _]; rw [hsub],by show ((q:Int) - (p:Int)).toNat<=_; omega,by omega,fun i hi=>?_⟩
      have hi:i < ((q:Int) - (p:Int)).toNat:=hi
      obtain ⟨us,r1,r2,r3⟩:=h3 (i + p) (by omega)
      refine ⟨us,r1,r2,?_⟩
      rw [hke] at *
      rwa [show off + p * el'.cells + i * el'.cells=off + (i + p) * el'.cells by rw [Nat.add_mul]; omega]
 have iv:∀ (y:Operand) (k:IntKind) (n:Int),val Γ s.env y = .v (.pc (.int k) n)->a.eval y = .int k n:=fun y k n hy=>by
  have:=hv y
  rw [hy] at this
  exact ij this
 simp only at he
 cases lo with
 | none =>
  cases hi with
  | none=>exact key 0 sl.n (.inl ⟨rfl,rfl⟩) (.inl ⟨rfl,rfl⟩) he
  | some y =>
   simp only [Option.map_none,Option.map_some] at he
   split at he
   ·rename_i h1 h2; cases h2
   ·rename_i h1 h2; cases h1
   ·rename_i k' n h1 h2
    exact key 0 n (.inl ⟨rfl,rfl⟩) (.inr ⟨k',by rw [Option.map_some,iv y k' n (by injection h2)]⟩) he
   ·rename_i h1 h2; cases h1
   ·cases he
 | some z =>
  cases hi with
  | none =>
   simp only [Option.map_none,Option.map_some] at he
   split at he
   ·rename_i h1 h2; cases h1
   ·rename_i k' n h1 h2
    exact key n sl.n (.inr ⟨k',by rw [Option.map_some,iv z k' n (by injection h1)]⟩) (.inl ⟨rfl,rfl⟩) he
   ·rename_i h1 h2; cases h2
   ·rename_i h1 h2; cases h2
   ·cases he
  | some y =>
   simp only [Option.map_some] at he
   split at he
   ·rename_i h1 h2; cases h1
   ·rename_i h1 h2; cases h2
   ·rename_i h1 h2; cases h1
   ·rename_i k1 n1 k2 n2 h1 h2
    exact key n1 n2 (.inr ⟨k1,by rw [Option.map_some,iv z k1 n1 (by injection h1)]⟩) (.inr ⟨k2,by rw [Option.map_some,iv y k2 n2 (by injection h2)]⟩) he
   ·cases he
theorem Bl {o:Oper} {Q:Exit->Act->World->Prop} (h:SR P N G s a w ρ S F) (hd:o.dst.all (Nat.blt · N)=true) {t:TypeId} {x:Operand} {lo hi:Option Operand} (hop:o.op = .slice t x lo hi none)
  {id bG i m:Nat} (hx:RC P G.Y S w s.heap ρ (.sub id bG i m) (a.eval x)) (hv:∀ y:Operand,RS P G.Y S w s.heap ρ (val Γ s.env y) (a.eval y)) {e:mV} (he:(sn P t s.heap id bG i m (lo.map (val Γ s.env)) (hi.map (val Γ s.env))).run _root_.id=some e) :
  o.wp P a w (sZ P N G o s e) Q:=by
 unfold sn at he
 split at he
 case h_2=>cases he
 rename_i el k b cur T τ d hu hlo hhi ho
 split at he
 case h_2=>cases he
 rename_i sz hsz td
 cases Nat.eq_of_beq_eq_true td
 simp only [Br.run,er,bad] at he
 cases hb:decide (0<=(show Int from b)/\(show Int from b)<=m) with
 | false=>simp only [hb,cond_false] at he; cases he
 | true =>
  simp only [hb,cond_true,_root_.id] at he
  cases he
  obtain ⟨b1,b2⟩:=of_decide_eq_true hb
  have h1:=hx.1
  obtain ⟨q1,q2,ad,cap,q3,q4,_,q5,_⟩:=vJ h hx ho
  cases lo with
  | some y=>cases hlo
  | none =>
  cases hi with
  | none=>cases hhi
  | some y =>
  have hy:=hv y
  rw [show val Γ s.env y=_ from Option.some.inj hhi] at hy
  have hy:=ij hy
  obtain ⟨q,hq⟩:=Int.eq_ofNat_of_zero_le b1
  have hqe:(show Int from b).toNat=q:=by omega
  have hqm:q<=m:=by rw [hq] at b2; exact Int.ofNat_le.1 b2
  have hrun:=xE (w:=w) hu hsz ad m cap (lo:=none) (hi:=some (.int k q)) (p:=0) (q:=q) (.inl ⟨rfl,rfl⟩) (.inr ⟨k,rfl⟩) (Nat.zero_le _) (by omega) q5
  have had:(if cap=0 then ad else ad.map (·.add (0 * sz)))=ad:=by
   split
   ·rfl
   ·cases ad <;> simp [Addr.add]
  rw [had] at hrun
  have hex:(execOp a.eval o).run P w = .ok (.value (.slice ad q cap)) w:=by
   have hy':a.eval y = .int k q:=by rw [hy]; exact congrArg _ hq
   simp only [execOp,hop,q4,Option.map_some,Option.map_none,hy',Sem.run_bind,hrun,Result.andThen_ok,Sem.run_pure,Nat.sub_zero]
  refine bt h hd hex ⟨h1,⟨_,_,_,rfl⟩,fun cu' T' e' s' ho'=>?_⟩
  rw [ho] at ho'; cases ho'
  exact ⟨Nat.le_refl _,fun _=>⟨q1,Nat.le_trans (by rw [hqe]; exact hqm) q2,ad,cap,q3,by rw [hqe]⟩⟩
end Go.Dm
namespace Go.Dm
open Go.RowKit
variable {P:Program} {N:Nat} {G:Gh} {S S':CS} {w w':World} {s:St} {a:Act} {ρ ρ':fA} {F F':Nat->Prop} {heap heap':Nat->bu} {Y:Value} {E:cg} {Γ:Ctx}
theorem SR.drop (h:SR P N G s a w ρ S F) {id:Nat} (hc:gp (s.heap id)=false):SR P N G { s with heap:=aE s.heap id .gone } a w ρ S F:=by
 have hk:∀ j,Kept w w ρ ρ j (s.heap j) (aE s.heap id .gone j):=fun j=>by
  by_cases hj:j=id
  ·subst hj
   simp only [aE,Nat.beq_refl,cond_true]
   cases ho:s.heap j with
   | none=>trivial
   | gone=>rfl
   | chain _ _ _ _=>rw [ho] at hc; cases hc
   | box _=>exact .inl rfl
   | row _ _ _ _=>exact .inl rfl
   | mp _ _ _=>exact .inl rfl
   | rows _ _ _ _=>exact .inl rfl
  ·simp only [aE,bF hj,cond_false]
   exact .refl rfl fun b hb hl=>rfl
 refine ⟨h.size,h.bw.tr hk (fun D hF hD=>⟨hD,hF⟩),fun t=>(h.env t).tr (.refl h.bd) hk,fun j=>?_,h.su (fun _ _=>rfl) (fun _ _ _ _ _=>rfl) (fun _ q=>q.elim),h.ext,h.new,h.same,h.tr,h.fb,h.f0,h.sub,h.fs,fun j b hj=>⟨(h.pins j b hj).1,?_⟩⟩
 ·by_cases hj:j=id
  ·subst hj; simp only [aE,Nat.beq_refl,cond_true]; trivial
  ·simp only [aE,bF hj,cond_false]
   exact (h.obj j).tr (.refl h.bd) hk rfl fun b hb=>⟨rfl,fun i q=>q,fun x=>x⟩
 ·by_cases zO:j=id
  ·subst zO; simp only [aE,Nat.beq_refl,cond_true]; rfl
  ·simp only [aE,bF zO,cond_false]; exact (h.pins j b hj).2
theorem Ln {arr:Array Value} {e:Ty} {sl:Sl e.den} {i off:Nat} {vs:List Value} {x':e.den} (hi:i < sl.n) (hsz:sl.n * e.cells<=arr.size) (hle:off + vs.length<=e.cells) (ex:Ext0 S w S w')
  (nX:∀ i,i < sl.n->∃ us,R P e S w (sl.g i) us/\us.length=e.cells/\∀ j v,us[j]? = some v->arr[i * e.cells + j]? = some v)
  (hR0:∀ SB,R P e S w (sl.g i) SB->R P e S w x' (SB.take off ++ vs ++ SB.drop (off + vs.length))) :
  (arr.toList.take (i * e.cells + off) ++ vs ++ arr.toList.drop (i * e.cells + off + vs.length)).length=arr.size /\
   ∀ k,k < sl.n->∃ us,R P e S w' ((cm sl i x').g k) us/\us.length=e.cells/\∀ j v,us[j]? = some v->(arr.toList.take (i * e.cells + off) ++ vs ++ arr.toList.drop (i * e.cells + off + vs.length)).toArray[k * e.cells + j]? = some v:=by
 obtain ⟨SB,sB,hel,VR⟩:=nX i hi
 have hR:=hR0 SB sB
 have alN:i * e.cells + e.cells<=sl.n * e.cells:=by rw [<- Nat.succ_mul]; exact Nat.mul_le_mul_right _ hi
 generalize hL:(arr.toList.take (i * e.cells + off) ++ vs ++ arr.toList.drop (i * e.cells + off + vs.length))=L
 have hLg:∀ k,L[k]? = if k < i * e.cells + off then arr.toList[k]? else if k < i * e.cells + off + vs.length then vs[k - (i * e.cells + off)]? else arr.toList[k]? := fun k=>by
  rw [<- hL]; exact iU (by simp; omega) k
 have hLl:L.length=arr.size:=by rw [<- hL]; simp; omega
 refine ⟨hLl,fun k hk=>?_⟩
 by_cases hki:k=i
 ·subst hki
  refine ⟨SB.take off ++ vs ++ SB.drop (off + vs.length),by simp only [cm,Nat.beq_refl,cond_true]; exact hR.mono ex,by simp; omega,fun j v hj=>?_⟩
  have hjl:j < e.cells:=by
   have:=(List.getElem?_eq_some_iff.1 hj).1
   simp at this; omega
  rw [List.getElem?_toArray,hLg]
  rw [iU (by omega)] at hj
  by_cases c1:j < off
  ·rw [if_pos (by omega),Array.getElem?_toList]
   rw [if_pos c1] at hj
   exact VR j v hj
  ·rw [if_neg c1] at hj
   rw [if_neg (by omega)]
   by_cases c2:j < off + vs.length
   ·rw [if_pos c2] at hj
    rw [if_pos (by omega),show k * e.cells + j - (k * e.cells + off)=j - off by omega]
    exact hj
   ·rw [if_neg c2] at hj
    rw [if_neg (by omega),Array.getElem?_toList]
    exact VR j v hj
 ·obtain ⟨us1,v1,v2,v3⟩:=nX k hk
  refine ⟨us1,by simp only [cm,bF hki,cond_false]; exact v1.mono ex,v2,fun j v hj=>?_⟩
  have hjl:j < e.cells:=by
   have:=(List.getElem?_eq_some_iff.1 hj).1
   omega
  rw [List.getElem?_toArray,hLg]
  rcases Nat.lt_or_gt_of_ne hki with hlt' | hgt
  ·have:k * e.cells + e.cells<=i * e.cells:=by rw [<- Nat.succ_mul]; exact Nat.mul_le_mul_right _ hlt'
   rw [if_pos (by omega),Array.getElem?_toList]; exact v3 j v hj
  ·have:i * e.cells + e.cells<=k * e.cells:=by rw [<- Nat.succ_mul]; exact Nat.mul_le_mul_right _ hgt
   rw [if_neg (by omega),if_neg (by omega),Array.getElem?_toList]; exact v3 j v hj
theorem zq (hG:G.Ok P) {o:Oper} {Q:Exit->Act->World->Prop} (h:SR P N G s a w ρ S F) (hd:o.dst.all (Nat.blt · N)=true) {t:TypeId} {x y:Operand} (hop:o.op = .store t x y)
    {id bG i j off:Nat} (hx:RC P G.Y S w s.heap ρ (.xo id bG i j off) (a.eval x)) {sy:Slot} (hy:RS P G.Y S w s.heap ρ sy (a.eval y)) {cs:List DC} (hc:dI sy=some cs)
    {T:TypeId} {e:Ty} {d:Sl (Sl e.den)} (ho:s.heap id = .rows bG T e d) {n:Nat} (hn:cy P t=some n) {x':e.den} (hx':eV e (splice (ee e ((d.g i).g j)) off cs)=some x')
    (hl:cs.length=n) (hle:off + cs.length<=e.cells) {rh:List Nat} :
    o.wp P a w (sZ P N G o s ⟨some .top,[(id,.rows bG T e (cm d i (cm (d.g i) j x')))],rh,true,none⟩) Q:=by
  have cK:=h.obj id
  rw [ho] at cK
  obtain ⟨_,_,h3⟩:=hx
  obtain ⟨hi,hj,b',cap',⟨b0,qx,T0,p1,p2,p3⟩,hv⟩:=(h3 _ _ _ _ ho).2 rfl
  obtain ⟨⟨hfl,hpos⟩,b,arr,T',q1,q2,q3,q4,q5,q6,q7⟩:=cK
  rw [q1] at p1; cases p1
  rw [q3] at p2; cases p2
  obtain ⟨ad,cap,z1,z2⟩:=q7 i hi
  have z1':=z1
  rw [p3] at z1
  simp only [Option.some.injEq,Value.slice.injEq,true_and] at z1
  obtain ⟨z1,z3⟩:=z1
  subst z1 z3
  rcases z2 with z2 | ⟨y0,b2,jX,T2,y1,y2,y3,y4,y5,y6,y7,y8,y9⟩
  · omega
  cases y1
  have SA:=gq G.jS hy hc
  have gY:(a.eval y).cells.size=n:=by rw [<- hl,SA.1]; simp
  have hvl:(a.eval y).cells.toList.length=n:=by simpa using gY
  have alN:j * e.cells + e.cells<=(d.g i).n * e.cells:=by rw [<- Nat.succ_mul]; exact Nat.mul_le_mul_right _ hj
  have hex:=sA (P:=P) hop hv y4 hn gY (by omega) (RL.jV G.jS SA)
  unfold Oper.wp
  rw [hex]
  have Vl:∀ o,¬ S b' o:=y9
  have fU:∀ L:Array Value,∀ k,k≠b'->(w.setRow b' L).heap[k]? = w.heap[k]? := fun L k hk=>setRow_other w b' k _ hk
  have Bc:∀ L:Array Value,(w.setRow b' L).heap.size=w.heap.size:=fun L=>by simp [World.setRow]
  have ex0:∀ L:Array Value,L.size=jX.size->Ext0 S w S (w.setRow b' L):=fun L hLs=>⟨by rw [Bc]; exact Nat.le_refl _,fun _ _ x=>x,fun c o zi=>World.cell?_of_block (a:=⟨c,o,none⟩) (fU L c (fun e=>Vl o (e ▸ zi))),fun c o es cc zi hm=>(fU L c (fun e=>Vl o (e ▸ zi))).trans hm,fun c o zi=>by rw [Bc]; exact h.bd c o zi,.setRow y4 hLs⟩
  have hlen:(jX.toList.take (j * e.cells + off) ++ (a.eval y).cells.toList ++ jX.toList.drop (j * e.cells + off + (a.eval y).cells.toList.length)).length=jX.size:=by simp; omega
  have ex:=ex0 (jX.toList.take (j * e.cells + off) ++ (a.eval y).cells.toList ++ jX.toList.drop (j * e.cells + off + (a.eval y).cells.toList.length)).toArray (by simpa using hlen)
  obtain ⟨_,hnew⟩:=Ln (w':=w.setRow b' (jX.toList.take (j * e.cells + off) ++ (a.eval y).cells.toList ++ jX.toList.drop (j * e.cells + off + (a.eval y).cells.toList.length)).toArray) (x':=x') hj y7 (by omega) ex y8
    (fun SB sB=>fN (Y:=G.Y) (heap:=s.heap) (ρ:=ρ) (RL.splice (eH hfl sB) SA off) hx')
  generalize hL:(jX.toList.take (j * e.cells + off) ++ (a.eval y).cells.toList ++ jX.toList.drop (j * e.cells + off + (a.eval y).cells.toList.length))=L at *
  have Vj:=setRow_heap w b' jX L.toArray T2 _ y4
  have hown:Own w ρ id (s.heap id) b':=by
    rw [ho]; exact .inr ⟨i,(d.g i).n - 1,cap',b0,qx,T0,q1,q3,by rw [Nat.sub_add_cancel (by omega)]; exact z1'⟩
  have xh:b0≠b':=fun e=>y2 e.symm
  have hout:(w.setRow b' L.toArray).heap[b0]? = w.heap[b0]? := fU _ b0 xh
  have q:=h.VK hG (id:=id) (b:=b') (o:=.rows bG T e (cm d i (cm (d.g i) j x'))) hown
    (fun b'' q=>.inl (by
      rw [ho]
      rcases q with q | ⟨k,m,c,b1,KZ,T1,r1,r2,r3⟩
      · exact .inl q
      · exact .inr ⟨k,m,c,b1,KZ,T1,r1,by rw [q1] at r1; cases r1; exact hout.symm.trans r2,r3⟩))
    ex ⟨rfl,rfl,rfl,by rw [Bc]; exact Nat.le_refl _,fun k hk=>fU _ k hk.2⟩ (Bc _) (fun _ _ q=>.inl q)
    (by
      rw [ho]
      exact .inr ⟨_,_,rfl,Nat.le_refl _,rfl,rfl,fun _=>⟨fun k hk=>by
        show (bif Nat.beq k i then cm (d.g i) j x' else d.g k).n=(d.g k).n
        by_cases hki:k=i
        · subst hki; simp [cm]
        · simp [bF hki],fun b1 hb1=>by rw [q1] at hb1; cases hb1; exact hout⟩⟩)
    ⟨⟨hfl,hpos⟩,b0,qx,T0,q1,q2,hout.trans q3,q4,q5,q6,fun k hk=>by
      have hk:k < d.n:=hk
      show ∃ a cap,qx[k]? = some (Value.slice a (bif Nat.beq k i then cm (d.g i) j x' else d.g k).n cap)/\_
      by_cases hki:k=i
      · subst hki
        simp only [cm,Nat.beq_refl,cond_true]
        exact ⟨_,cap',z1',.inr ⟨y0,b',L.toArray,T2,rfl,y2,y3,Vj,y5,y6,by simpa [hlen] using y7,hnew,y9⟩⟩
      · simp only [cm,bF hki,cond_false]
        obtain ⟨ad2,uc,g1,g2⟩:=q7 k hk
        refine ⟨ad2,uc,g1,g2.imp (fun x=>x) ?_⟩
        rintro ⟨g0,b3,alP,T3,g3,g4,g5,g6,g7,g8,g9,g10,g11⟩
        subst g3
        have hne:b3≠b':=fun e=>by
          subst e
          exact hki (q6 k i b3 ((d.g k).n - 1) ((d.g i).n - 1) uc cap' (by rw [Nat.sub_add_cancel (by omega)]; exact g1) (by rw [Nat.sub_add_cancel (by omega)]; exact z1'))
        exact ⟨g0,b3,alP,T3,rfl,g4,g5,(fU _ b3 hne).trans g6,g7,g8,g9,fun jj hjj=>let ⟨us,u1,u2,u3⟩:=g10 jj hjj; ⟨us,u1.mono ex,u2,u3⟩,g11⟩⟩
  exact ⟨rfl,ρ,S,F,(q.mZ hd).of_eq rfl rfl rfl rfl⟩
theorem qN (hG:G.Ok P) {o:Oper} {Q:Exit->Act->World->Prop} (h:SR P N G s a w ρ S F) (hd:o.dst.all (Nat.blt · N)=true) {t:TypeId} {x y:Operand} (hop:o.op = .store t x y)
    {id i tS bG:Nat} (hx:RC P G.Y S w s.heap ρ (.Pn id i) (a.eval x)) {u:Value} (hy:RC P G.Y S w s.heap ρ (.row tS bG) u) (hyc:(a.eval y).cells = #[u])
    {cur:Nat} {T:TypeId} {e:Ty} {d:Sl (Sl e.den)} (ho:s.heap id = .rows cur T e d) {s3:Sl e.den} (Bm:s.heap tS = .row bG T e s3) (hn:cy P t=some 1) {rh:List Nat} :
    o.wp P a w (sZ P N G o s ⟨some .top,[(tS,.gone),(id,.rows (cur + 1) T e (cm d i s3))],rh,true,none⟩) Q:=by
  have hne:id≠tS:=fun e=>by rw [e,Bm] at ho; cases ho
  have cK:=h.obj id
  rw [ho] at cK
  obtain ⟨_,_,h3⟩:=hx
  obtain ⟨b,hb,hv,hi⟩:=h3 _ _ _ _ ho
  obtain ⟨⟨hfl,hpos⟩,b0,arr,T',q1,q2,q3,q4,q5,q6,q7⟩:=cK
  have xh:b0=b:=by rw [q1] at hb; injection hb
  subst xh
  -- the row
  obtain ⟨ad,uc,hval,hrow⟩:∃ ad uc,u = .slice ad s3.n uc/\(s3.n=0\/0 < s3.n/\∃ b2 jX T2,ρ tS=some b2/\ad=some ⟨b2,0,none⟩/\vn G F b2/\w.heap[b2]? = some (.cells jX T2 (0,0))/\s3.n<=uc/\uc<=maxLen/\s3.n * e.cells<=jX.size /\
      (∀ j,j < s3.n->∃ us,R P e S w (s3.g j) us/\us.length=e.cells/\∀ k v,us[k]? = some v->jX[j * e.cells + k]? = some v)/\∀ o,¬ S b2 o):=by
    have Py:=h.obj tS
    rw [Bm] at Py
    obtain ⟨_,Py⟩:=Py
    rcases (hy.2.2 _ _ _ _ Bm).2 rfl with ⟨g1,a0,g2⟩ | ⟨b2,uc,g1,g2,g3,g4,_,_⟩
    · exact ⟨a0,0,by rw [g2,g1],.inl g1⟩
    · by_cases h0:s3.n=0
      · exact ⟨_,uc,g2,.inl h0⟩
      rcases Py with ⟨k1,k2⟩ | ⟨b3,jX,k1,k2,k3,k4,k5,k6⟩
      · omega
      rw [g1] at k1; cases k1
      exact ⟨_,uc,g2,.inr ⟨by omega,_,jX,_,g1,rfl,k2,k3,g3,g4,k4,k5,k6⟩⟩
  have hone:=RC.jV G.jS hy
  have gY:=hyc
  have hcs:(a.eval y).cells.size=1:=by rw [gY]; rfl
  have hilt:i < arr.size:=by omega
  have hex:=sA (P:=P) hop hv q3 hn hcs (by omega) (by rw [gY]; simpa using hone)
  unfold Oper.wp
  rw [hex,gY]
  have hLl:(arr.toList.take i ++ [u] ++ arr.toList.drop (i + [u].length)).length=arr.size:=by simp; omega
  have hLg:∀ k,(arr.toList.take i ++ [u] ++ arr.toList.drop (i + [u].length)).toArray[k]? = if k=i then some (u) else arr[k]? := fun k=>by
    rw [List.getElem?_toArray,iU (by simp; omega)]
    by_cases hki:k=i
    · subst hki; simp
    · rw [if_neg hki]
      by_cases hk:k < i
      · rw [if_pos hk,Array.getElem?_toList]
      · rw [if_neg hk,if_neg (by simp; omega),Array.getElem?_toList]
  generalize (arr.toList.take i ++ [u] ++ arr.toList.drop (i + [u].length))=L at *
  have fU:∀ k,k≠b0->(w.setRow b0 L.toArray).heap[k]? = w.heap[k]? := fun k hk=>setRow_other w b0 k _ hk
  have Bc:(w.setRow b0 L.toArray).heap.size=w.heap.size:=by simp [World.setRow]
  have ex:Ext0 S w S (w.setRow b0 L.toArray):=⟨by omega,fun _ _ x=>x,fun c o zi=>World.cell?_of_block (a:=⟨c,o,none⟩) (fU c (fun e=>q5 o (e ▸ zi))),fun c o es cc zi hm=>(fU c (fun e=>q5 o (e ▸ zi))).trans hm,fun c o zi=>by rw [Bc]; exact h.bd c o zi,.setRow q3 (by simp [hLl])⟩
  have Vj:=setRow_heap w b0 arr L.toArray T' _ q3
  have h1:=h.drop (id:=tS) (by rw [Bm]; rfl)
  have ho1:aE s.heap tS .gone id = .rows cur T e d:=by simp only [aE,bF hne,cond_false]; exact ho
  have hold:∀ k m c b1,k≠i->arr[k]? = some (.slice (some ⟨b1,0,none⟩) (m + 1) c)->Own w ρ id (s.heap id) b1:=fun k m c b1 _ hk=>by
    rw [ho]; exact .inr ⟨k,m,c,b0,arr,T',q1,q3,hk⟩
  have hnew:∀ m c b1,u = .slice (some ⟨b1,0,none⟩) (m + 1) c->Own w ρ tS (s.heap tS) b1:=fun m c b1 hk=>by
    rw [hval] at hk
    injection hk with k1 k2 k3
    rcases hrow with hrow | ⟨_,b2,jX,T2,k4,k5,_⟩
    · omega
    · rw [k1] at k5; cases k5
      exact .of (by rw [Bm]; trivial) k4
  have q:=h1.VK hG (id:=id) (b:=b0) (o:=.rows (cur + 1) T e (cm d i s3)) (.of (by show live (aE s.heap tS .gone id); rw [ho1]; trivial) q1)
    (fun b'' q=>by
      rcases q with q | ⟨k,m,c,b1,KZ,T1,r1,r2,r3⟩
      · exact .inl (.of (by show live (aE s.heap tS .gone id); rw [ho1]; trivial) q)
      · rw [q1] at r1; cases r1
        rw [Vj] at r2; cases r2
        rw [hLg] at r3
        by_cases hki:k=i
        · rw [if_pos hki] at r3
          refine .inr fun j hj hown=>?_
          have hw:=hnew m c b'' (Option.some.inj r3)
          have hown:Own w ρ j (aE s.heap tS .gone j) b'':=hown
          by_cases hj2:j=tS
          · subst hj2; simp only [aE,Nat.beq_refl,cond_true] at hown; exact hown
          · simp only [aE,bF hj2,cond_false] at hown
            exact hj2 (h.inj _ _ _ hown hw)
        · rw [if_neg hki] at r3
          refine .inl ?_
          show Own w ρ id (aE s.heap tS .gone id) b''
          rw [ho1,<- ho]
          exact hold k m c b'' hki r3)
    ex ⟨rfl,rfl,rfl,by omega,fun k hk=>fU k hk.2⟩ Bc (fun _ _ q=>.inl q)
    (by
      show Kept w _ ρ ρ id (aE s.heap tS .gone id) _
      rw [ho1]
      exact .inr ⟨_,_,rfl,by omega,rfl,rfl,fun e=>by omega⟩)
    ⟨⟨hfl,hpos⟩,b0,L.toArray,T',q1,q2,Vj,by simpa [hLl,cm] using q4,q5,fun k l b1 m m' c c' r1 r2=>by
      rw [hLg] at r1 r2
      by_cases hki:k=i
      · by_cases nY:l=i
        · rw [hki,nY]
        · rw [if_pos hki] at r1
          rw [if_neg nY] at r2
          exact absurd (h.inj _ _ _ (hold l m' c' b1 nY r2) (hnew m c b1 (Option.some.inj r1))) hne
      · by_cases nY:l=i
        · rw [if_neg hki] at r1
          rw [if_pos nY] at r2
          exact absurd (h.inj _ _ _ (hold k m c b1 hki r1) (hnew m' c' b1 (Option.some.inj r2))) hne
        · rw [if_neg hki] at r1
          rw [if_neg nY] at r2
          exact q6 k l b1 m m' c c' r1 r2,fun k hk=>by
      have hk:k < d.n:=hk
      show ∃ a1 cap,L.toArray[k]? = some (Value.slice a1 (bif Nat.beq k i then s3 else d.g k).n cap)/\_
      by_cases hki:k=i
      · subst hki
        simp only [cm,Nat.beq_refl,cond_true]
        refine ⟨ad,uc,by rw [hLg,if_pos rfl,hval],hrow.imp (fun x=>x) ?_⟩
        rintro ⟨g0,b2,jX,T2,g1,g2,g3,g4,g5,g6,g7,g8,g9⟩
        have hb2:b2≠b0:=fun e=>hne (h.inj id tS b0 (.of (by rw [ho]; trivial) q1) (.of (by rw [Bm]; trivial) (e ▸ g1)))
        exact ⟨g0,b2,jX,T2,g2,hb2,g3,(fU b2 hb2).trans g4,g5,g6,g7,fun jj hjj=>let ⟨us,u1,u2,u3⟩:=g8 jj hjj; ⟨us,u1.mono ex,u2,u3⟩,g9⟩
      · simp only [cm,bF hki,cond_false]
        obtain ⟨ad2,aFx,g1,g2⟩:=q7 k hk
        refine ⟨ad2,aFx,by rw [hLg,if_neg hki]; exact g1,g2.imp (fun x=>x) ?_⟩
        rintro ⟨g0,b3,alP,T3,g3,g4,g5,g6,g7,g8,g9,g10,g11⟩
        exact ⟨g0,b3,alP,T3,g3,g4,g5,(fU b3 g4).trans g6,g7,g8,g9,fun jj hjj=>let ⟨us,u1,u2,u3⟩:=g10 jj hjj; ⟨us,u1.mono ex,u2,u3⟩,g11⟩⟩
  exact ⟨rfl,ρ,S,F,(q.mZ hd).of_eq rfl rfl rfl rfl⟩
theorem IF (h:SR P N G s a w ρ S F) {sl:Slot} {v:Value} (hs:RS P G.Y S w s.heap ρ sl v):RS P G.Y (fun b _=>b < w.heap.size) w s.heap ρ (qk s.heap sl) v:=by
 have ex:Ext0 S w (fun b _=>b < w.heap.size) w:=⟨Nat.le_refl _,fun b o q=>h.bd b o q,fun _ _ _=>rfl,fun _ _ _ _ _ q=>q,fun _ _ q=>q,.refl w⟩
 have hk:∀ id,Kept w w ρ ρ id (s.heap id) (s.heap id):=fun id=>.refl rfl fun _ _ _=>rfl
 have hold:=hs.tr ex hk
 unfold qk
 split
 case h_2=>exact hold
 rename_i id bG i n
 split
 case h_2=>exact True.intro
 rename_i cur T e d ho
 split
 case h_2=>exact True.intro
 rename_i td
 cases Nat.eq_of_beq_eq_true td
 obtain ⟨hi,hn,ad,cap,⟨b0,qx,T0,p1,p2,p3⟩,hv,_,hcap,_⟩:=vJ h hs ho
 subst hv
 have cK:=h.obj id
 rw [ho] at cK
 obtain ⟨_,b,arr,T',q1,q2,q3,q4,q5,q6,q7⟩:=cK
 rw [q1] at p1; cases p1
 rw [q3] at p2; cases p2
 obtain ⟨ad',cap',z1,z2⟩:=q7 i hi
 rw [p3] at z1
 simp only [Option.some.injEq,Value.slice.injEq,true_and] at z1
 obtain ⟨z1,z3⟩:=z1
 subst z1 z3
 refine ⟨rfl,?_⟩
 by_cases h0:n=0
 ·exact .inl ⟨h0,ad,cap,by rw [h0]⟩
 rcases z2 with z2 | ⟨_,b2,jX,T2,y1,y2,y3,y4,y5,y6,y7,y8,y9⟩
 ·omega
 subst y1
 refine .inr ⟨b2,0,cap,rfl,hcap,y6,fun j hj=>?_⟩
 have hj:j < n:=hj
 obtain ⟨us,u1,u2,u3⟩:=y8 j (by omega)
 exact ⟨us,u1.mono ex,u2,fun k u hk=>⟨(Array.getElem?_eq_some_iff.1 y4).1,by rw [Nat.zero_add,cell_of_row w b2 _ jX T2 _ y4]; exact u3 k u hk⟩⟩
theorem SD (h:SR P N G s a w ρ S F):∀ {sls:List Slot} {vs:List Value},(∀ (j:Nat) (d:Slot) (u:Value),sls[j]? = some d->vs[j]? = some u->RS P G.Y S w s.heap ρ d u) ->
  ∀ (j:Nat) (d:Slot) (u:Value),(sls.map (qk s.heap))[j]? = some d->vs[j]? = some u->RS P G.Y (fun b _=>b < w.heap.size) w s.heap ρ d u:=fun hr j d u h1 h2=>by
 rw [List.getElem?_map] at h1
 cases h3:(_:List Slot)[j]? with
 | none=>rw [h3] at h1; cases h1
 | some d0 =>
  rw [h3] at h1
  cases h1
  exact IF h (hr j d0 u h3 h2)
theorem Lo (h:SR P N G s a w ρ S F) {f:FuncId} {c:Con} (IG:aQ P f c) {args:List Value} {x:c.args.den} (ql:c.res.plain=true) (hp:c.pre x=true) (hr:R P c.args (fun b _=>b < w.heap.size) w x args) :
  Calls P f args.toArray w (fun e w'=>∃ S' rs,e = .returned (pack rs)/\R P c.res S' w' (c.fn x) rs/\Ext S w S' w'/\Below w.heap.size w w'):=
 (IG _ w (fun _ _ q=>q) x args hp hr).mono fun e w' ⟨S',rs,h1,h2,h3,h4⟩ =>
  ⟨S,rs,h1,(R.plain ql).2 ((R.plain ql).1 h2),⟨⟨h4.size,fun _ _ q=>q,fun b o q=>World.cell?_of_block (a:=⟨b,o,none⟩) (h4.block b (h.bd b o q)),fun b o es cc q m=>(h4.block b (h.bd b o q)).trans m,
   fun b o q=>Nat.lt_of_lt_of_le (h.bd b o q) h4.size,h3.pl⟩,fun _ _ q=>.inl q⟩,h4⟩
end Go.Dm
namespace Go.Dm
open Go.RowKit
variable {P:Program} {N:Nat} {G:Gh} {S S':CS} {w w':World} {s:St} {a:Act} {ρ ρ':fA} {F F':Nat->Prop} {heap heap':Nat->bu} {Y:Value} {E:cg} {Γ:Ctx}
def kQ {k v:Ty} (x:k.den):List (k.den×v.den)->Nat->Option (Nat×v.den)
 | [],_=>none
 | p :: l,i=>bif nJ k x p.1 then some (i,p.2) else kQ x l (i + 1)
structure DO (P:Program) (kt:TypeId) (k:Ty):Prop where
 eq:∀ (x y:k.den) (w:World),(Op.equal kt (pack (encs k x)) (pack (encs k y))).run P w = .ok (nJ k x y) w
 check:∀ (em:Bool) (x:k.den) (w:World),(Instr.checkKey em 10000 kt (pack (encs k x))).run P w = .ok () w
 now:∃ d,P.underlying kt=some d/\∀ (v:Ty) (x:k.den) (l:List (k.den×v.den)) (es:List MapEntry) (i:Nat),es≠[]->es.map (fun e=>(e.key,e.val))=l.map (fun p=>(pack (encs k p.1),pack (encs v p.2))) ->
  Instr.findNow d (pack (encs k x)) es i=none\/Instr.findNow d (pack (encs k x)) es i=some ((kQ x l i).map fun r=>(r.1,pack (encs v r.2)))
 same:∀ x y:k.den,nJ k x y=true↔x=y
 bits:∀ x:k.den,Instr.sameBits 10000 (pack (encs k x)) (pack (encs k x))=true
def dN (P:Program) (K:TypeId->Bool):Prop:=∀ kt k,K kt=true->gG P kt=some k->DO P kt k
theorem vK:∀ {τ:Ty},τ.plain=true->∀ x y:τ.den,nJ τ x y=true↔x=y
 | .int _,_,x,y=>by simp [nJ]
 | .bool,_,x,y=>by simp [nJ]
 | .nil,_,x,y=>by simp [nJ]
 | .agg e,h,x,y=>vK (τ:=e) h x y
 | .cons a b,h,x,y=>by
  simp only [Ty.plain,Bool.and_eq_true] at h
  obtain ⟨x1,x2⟩:=x
  obtain ⟨y1,y2⟩:=y
  simp only [nJ,Bool.and_eq_true,vK h.2.1,vK h.2.2,Prod.mk.injEq]
def IB (σ:Ty):Prop:=σ = .bool\/∃ k,σ = .int k
theorem nZ:∀ {l:List Ty},(∀ σ∈l,IB σ)->∀ x:(cw l).den,Typed l (encs (cw l) x)
 | [],_,_=>⟨rfl,fun j τ u q=>by simp at q⟩
 | σ :: l,h,x=>by
  have ih:=nZ (l:=l) (fun σ hm=>h σ (List.mem_cons_of_mem _ hm)) x.2
  rcases h σ (List.mem_cons_self ..) with rfl | ⟨k,rfl⟩
  ·exact ih.cons ⟨_,rfl⟩
  ·exact ih.cons ⟨_,rfl⟩
theorem yC:∀ {l:List Ty},(∀ σ∈l,IB σ)->∀ x y:(cw l).den,dD (encs (cw l) x) (encs (cw l) y)=some (nJ (cw l) x y)
 | [],_,_,_=>rfl
 | σ :: l,h,x,y=>by
  have ih:=yC (l:=l) (fun σ hm=>h σ (List.mem_cons_of_mem _ hm)) x.2 y.2
  rcases h σ (List.mem_cons_self ..) with rfl | ⟨k,rfl⟩
  ·show (dD (encs (cw l) x.2) (encs (cw l) y.2)).map _=_
   rw [ih]; rfl
  ·show (if k=k then (dD (encs (cw l) x.2) (encs (cw l) y.2)).map _ else none)=_
   rw [if_pos rfl,ih]; rfl
theorem qO (n:Nat):∀ {l:List Ty},(∀ σ∈l,IB σ)->∀ x:(cw l).den,((encs (cw l) x).zip (encs (cw l) x)).all (fun (p:Value×Value)=>Instr.sameBits n p.1 p.2)=true
 | [],_,_=>rfl
 | σ :: l,h,x=>by
  have ih:=qO n (l:=l) (fun σ hm=>h σ (List.mem_cons_of_mem _ hm)) x.2
  rcases h σ (List.mem_cons_self ..) with rfl | ⟨k,rfl⟩
  ·have h0:∀ b:Bool,Instr.sameBits n (.bool b) (.bool b)=true:=fun b=>by cases n <;> simp [Instr.sameBits]
   exact Bool.and_eq_true_iff.2 ⟨h0 _,ih⟩
  ·have h0:∀ b:Int,Instr.sameBits n (.int k b) (.int k b)=true:=fun b=>by cases n <;> simp [Instr.sameBits]
   exact Bool.and_eq_true_iff.2 ⟨h0 _,ih⟩
theorem qm {em:Bool} {n:Nat} {cs:Array Value}:∀ (fs:List Field),(∀ f∈fs,(∃ d,P.underlying f.type=some d/\((∃ k,d = .int k)\/d = .bool))/\∃ v,cs.toList[f.offset]? = some v) ->
    (forIn fs PUnit.unit (fun f _=>if f.name ≠ "_" then do
        Instr.checkKey em (n + 1) f.type (<- part f.type cs f.offset)
        pure (ForInStep.yield PUnit.unit) else pure (ForInStep.yield PUnit.unit)):Sem PUnit).run P w = .ok PUnit.unit w
  | [],_=>rfl
  | f :: fs,h=>by
    obtain ⟨⟨d,hu,hd⟩,v,hv⟩:=h f (List.mem_cons_self ..)
    have ih:=qm (em:=em) (n:=n) (cs:=cs) fs (fun f hm=>h f (List.mem_cons_of_mem _ hm))
    have ha:cv P f.type=some false:=by
      rcases hd with ⟨k,rfl⟩ | rfl <;> simp [cv,hu]
    have hp:(part f.type cs f.offset).run P w = .ok v w:=vD (cs:=cs.toList) ha hv
    have hck:(Instr.checkKey em (n + 1) f.type v).run P w = .ok () w:=by
      unfold Instr.checkKey
      rw [Sem.run_bind,run_underlying hu]
      rcases hd with ⟨k,rfl⟩ | rfl <;> rfl
    simp only [List.forIn_cons,Sem.run_bind,Sem.run_ite]
    split
    · simp only [Sem.run_bind,hp,hck,Result.andThen_ok,Sem.run_pure]
      exact ih
    · simp only [Sem.run_pure,Result.andThen_ok]
      exact ih
def aiA (P:Program) (kt:TypeId):Bool:=
 match jW P 8 kt,P.underlying kt with
 | _,some (.int _)=>true
 | some l,some (.struct fs)=>decide (gG P kt=some (.agg (cw l))) && (l.all fun σ=>match σ with | .int _ | .bool=>true | _=>false) &&
  fs.toList.all (fun f=>Nat.blt f.offset l.length && match P.underlying f.type with | some (.int _) | some .bool=>true | _=>false)
 | _,_=>false
theorem bH:dN P (aiA P):=by
 intro kt k hK hk
 unfold aiA at hK
 split at hK
 case h_3=>cases hK
 case h_1 =>
  rename_i kk hu
  have Su:k = .int kk:=by
   have e:gG P kt=some (.int kk):=by simp [gG,tN,hu]
   rw [e] at hk
   exact (Option.some.inj hk).symm
  subst Su
  refine ⟨fun x y w=>?_,fun em x w=>?_,⟨_,hu,fun v x l es i _ h=>.inr ?_⟩,vK rfl,fun x=>?_⟩
  ·show (Op.equalIn (9999 + 1) kt (.int kk x) (.int kk y)).run P w=_
   rw [Op.equalIn,Sem.run_bind,run_underlying hu]
   simp only [Result.andThen_ok,if_pos,Sem.run_pure]
   rfl
  ·show (Instr.checkKey em 10000 kt (.int kk x)).run P w=_
   unfold Instr.checkKey
   rw [Sem.run_bind,run_underlying hu]
   rfl
  ·induction l generalizing es i with
   | nil =>
    cases es with
    | nil=>rfl
    | cons e es=>simp at h
   | cons p l ih =>
    cases es with
    | nil=>simp at h
    | cons e es =>
     simp only [List.map_cons,List.cons.injEq,Prod.mk.injEq] at h
     obtain ⟨⟨h1,h2⟩,h3⟩:=h
     have h1:e.key = .int kk p.1:=h1
     have hs:Instr.sameNow (.int kk) (pack (encs (.int kk) x)) e.key=some (nJ (.int kk) x p.1):=by
      rw [h1]
      show (if kk=kk then some ((show Int from x) == (show Int from p.1)) else none)=_
      rw [if_pos rfl]; rfl
     simp only [Instr.findNow,hs,kQ]
     cases he:nJ (.int kk) x p.1 with
     | true=>simp [h2]
     | false =>
      simp only [cond_false]
      cases es with
      | nil =>
       cases l with
       | nil=>rfl
       | cons q l=>simp at h3
      | cons e2 es=>exact ih (e2 :: es) (i + 1) (by simp) h3
  ·have h0:∀ b:Int,Instr.sameBits 10000 (.int kk b) (.int kk b)=true:=fun b=>by simp [Instr.sameBits]
   exact h0 _
 rename_i l fs hl hu
 simp only [Bool.and_eq_true,decide_eq_true_eq] at hK
 obtain ⟨⟨h1,h2⟩,h3⟩:=hK
 rw [h1] at hk
 cases hk
 have hib:∀ σ∈l,IB σ:=fun σ hm=>by
  rw [List.all_eq_true] at h2
  have:=h2 σ hm
  cases σ with
  | int k=>exact .inr ⟨k,rfl⟩
  | bool=>exact .inl rfl
  | _=>cases this
 have ha:cv P kt=some true:=by simp [cv,hu]
 have ql:(Ty.agg (cw l)).plain=true:=by
  show (cw l).plain=true
  clear h1 hl h3 h2 ha
  induction l with
  | nil=>rfl
  | cons σ l ih =>
   have:=ih fun σ hm=>hib σ (List.mem_cons_of_mem _ hm)
   rcases hib σ (List.mem_cons_self ..) with rfl | ⟨k,rfl⟩ <;> exact this
 refine ⟨fun x y w=>?_,fun em x w=>?_,⟨_,hu,fun v x l es i hne _=>.inl (by cases es with | nil=>exact absurd rfl hne | cons e es=>simp [Instr.findNow,Instr.sameNow])⟩,vK ql,fun x=>?_⟩
 ·exact qM 8 kt l hl 9992 w _ _ _ _ _ (nZ hib x) (nZ hib y) (.inl ⟨ha,rfl⟩) (.inl ⟨ha,rfl⟩) (yC hib x y)
 ·show (Instr.checkKey em (9998 + 1 + 1) kt (.agg (encs (cw l) x).toArray)).run P w=_
  rw [Instr.checkKey]
  simp only [Sem.run_bind,run_underlying hu,Result.andThen_ok]
  rw [<- Array.forIn_toList]
  have:=qm (P:=P) (w:=w) (em:=em) (n:=9998) (cs:=(encs (cw l) x).toArray) fs.toList (fun f hf=>by
   rw [List.all_eq_true] at h3
   have:=h3 f hf
   simp only [Bool.and_eq_true,Nat.blt_eq] at this
   refine ⟨?_,_,List.getElem?_eq_getElem (by simpa [(nZ hib x).1] using this.1)⟩
   split at this
   ·rename_i k hk; exact ⟨_,hk,.inl ⟨k,rfl⟩⟩
   ·rename_i hk; exact ⟨_,hk,.inr rfl⟩
   ·exact absurd this.2 (by simp))
  rw [this]; rfl
 ·have:=qO 9999 hib x
  show Instr.sameBits (9999 + 1) (.agg _) (.agg _)=true
  simp only [Instr.sameBits]
  simpa using this
theorem qP {kt:TypeId} {k v:Ty} (hK:DO P kt k) (x:k.den):∀ (l:List (k.den×v.den)) (es:List MapEntry) (i:Nat),
  es.map (fun e=>(e.key,e.val))=l.map (fun p=>(pack (encs k p.1),pack (encs v p.2))) ->
  (Instr.findAsking kt (pack (encs k x)) es i).run P w = .ok ((kQ x l i).map fun r=>(r.1,pack (encs v r.2))) w
 | [],[],i,_=>rfl
 | [],_ :: _,_,h=>by simp at h
 | _ :: _,[],_,h=>by simp at h
 | p :: l,e :: es,i,h=>by
  simp only [List.map_cons,List.cons.injEq,Prod.mk.injEq] at h
  obtain ⟨⟨h1,h2⟩,h3⟩:=h
  simp only [Instr.findAsking,Sem.run_bind,h1,hK.eq x p.1 w,Result.andThen_ok,kQ,Sem.run_ite]
  cases he:nJ k x p.1 with
  | true=>simp [h2]
  | false=>simpa using qP hK x l es (i + 1) h3
theorem lX {kt:TypeId} {k v:Ty} (hK:DO P kt k) (x:k.den) (l:List (k.den×v.den)) (es:List MapEntry)
  (h:es.map (fun e=>(e.key,e.val))=l.map (fun p=>(pack (encs k p.1),pack (encs v p.2)))) :
  (Instr.findKey kt (pack (encs k x)) es).run P w = .ok ((kQ x l 0).map fun r=>(r.1,pack (encs v r.2))) w:=by
 obtain ⟨d,hu,aFy⟩:=hK.now
 unfold Instr.findKey
 simp only [Sem.run_bind,run_underlying hu,Result.andThen_ok]
 cases es with
 | nil =>
  cases l with
  | nil=>rfl
  | cons p l=>simp at h
 | cons e es =>
  rcases aFy v x l (e :: es) 0 (by simp) h with q | q
  ·rw [q]
   exact qP hK x l (e :: es) 0 h
  ·rw [q]; rfl
theorem ud {k v:Ty} (hs:∀ x y:k.den,nJ k x y=true↔x=y) {x:k.den}:∀ {l:List (k.den×v.den)} {i:Nat},kQ x l i=none->∀ p∈l,p.1≠x
 | [],_,_,p,hp=>by simp at hp
 | q :: l,i,h,p,hp=>by
  simp only [kQ] at h
  cases he:nJ k x q.1 with
  | true=>rw [he] at h; cases h
  | false =>
   rw [he] at h
   rcases List.mem_cons.1 hp with rfl | hp
   ·intro e
    have:=(hs x p.1).2 e.symm
    rw [he] at this; cases this
   ·exact ud hs h p hp
theorem oa {k v:Ty} (hs:∀ x y:k.den,nJ k x y=true↔x=y) {x:k.den}:∀ {l:List (k.den×v.den)} {i j:Nat} {y:v.den},kQ x l i=some (j,y)->i<=j/\l[j - i]? = some (x,y)
 | [],_,_,_,h=>by cases h
 | q :: l,i,j,y,h=>by
  simp only [kQ] at h
  cases he:nJ k x q.1 with
  | true =>
   rw [he] at h
   simp only [cond_true,Option.some.injEq,Prod.mk.injEq] at h
   obtain ⟨rfl,rfl⟩:=h
   have:=(hs x q.1).1 he
   exact ⟨Nat.le_refl _,by rw [Nat.sub_self,this]; rfl⟩
  | false =>
   rw [he] at h
   simp only [cond_false] at h
   obtain ⟨h1,h2⟩:=oa hs h
   refine ⟨by omega,?_⟩
   rw [show j - i=(j - (i + 1)) + 1 by omega]
   simpa using h2
theorem nK.at {k v:Ty} (hs:∀ x y:k.den,nJ k x y=true↔x=y) {m:k.den->Option v.den} {l:List (k.den×v.den)} (h1:∀ p∈l,m p.1=some p.2) (h2:∀ x y,m x=some y->(x,y)∈l) (x:k.den) :
  m x=(kQ x l 0).map (·.2):=by
 cases hf:kQ x l 0 with
 | none =>
  cases hm:m x with
  | none=>rfl
  | some y=>exact absurd rfl (ud hs hf _ (h2 _ _ hm))
 | some r =>
  obtain ⟨j,y⟩:=r
  obtain ⟨_,h⟩:=oa hs hf
  exact h1 _ (List.mem_of_getElem? h)
theorem jY {τ:Ty} (hp:τ.plain=true) (hs:τ.single=true) {sl:Slot} {v:Value} {x:τ.den} (h:RS P Y S w heap ρ sl v) (hx:ej τ sl=some x):v=pack (encs τ x):=by
 have:=(R.plain hp).1 (kO h hx)
 rw [<- this]; rfl
theorem II {τ:Ty} (hp:τ.plain=true) (hs:τ.single=true) (x:τ.den):R P τ S w x [pack (encs τ x)]:=by
 have hl:=gZ τ x hp
 have hc:τ.cells=1:=by cases τ <;> first | rfl | cases hs
 rw [hc] at hl
 obtain ⟨u,hu⟩:=List.length_eq_one_iff.1 hl
 rw [R.plain hp,hu]; rfl
theorem ue {t kt vt:TypeId} {k v:Ty} (hu:P.underlying t=some (.map kt vt)) (hK:DO P kt k) {m:k.den->Option v.den} {x:Value} {es:Array MapEntry}
    (hx:(x = .map none/\es = #[])\/∃ b c,x = .map (some b)/\w.heap[b]? = some (.map es c)) (hm:nK k v m es) (key:k.den) {i:TypeInfo} (hi:P.info? vt=some i) {zv:Value} (hz:i.zero=some zv) {z:v.den} (DM:zv=pack (encs v z)) (ok:Bool) :
    (Instr.lookup t x (pack (encs k key)) ok).run P w = .ok (match ok with | true=>.tuple #[pack (encs v ((m key).getD z)),.bool (m key).isSome] | false=>pack (encs v ((m key).getD z))) w:=by
  obtain ⟨l,h1,h2,h3,h4⟩:=hm
  have Lp:=nK.at hK.same h3 h4 key
  have fin:∀ r:Option (Nat×v.den),kQ key l 0=r -> 
      ((match r.map fun r=>(r.1,pack (encs v r.2)) with
        | some (_,v)=>(do let __x <- pure (v,true); pure (if ok=true then Value.tuple #[__x.fst,Value.bool __x.snd] else __x.fst):Sem Value)
        | none=>do let __do_lift <- zeroValue vt; let __x <- pure (__do_lift,false); pure (if ok=true then Value.tuple #[__x.fst,Value.bool __x.snd] else __x.fst)):Sem Value).run P w =
      .ok (match ok with | true=>.tuple #[pack (encs v ((m key).getD z)),.bool (m key).isSome] | false=>pack (encs v ((m key).getD z))) w:=by
    intro r hf
    rw [hf] at Lp
    cases r with
    | none =>
      simp only [Option.map_none] at Lp ⊢
      simp only [Sem.run_bind,Sem.run_pure,Result.andThen_ok,zeroValue,typeInfo,run_program,hi,hz,DM,Lp]
      cases ok <;> rfl
    | some r =>
      simp only [Option.map_some] at Lp ⊢
      simp only [Sem.run_bind,Sem.run_pure,Result.andThen_ok,Lp]
      cases ok <;> rfl
  unfold Instr.lookup
  rcases hx with ⟨rfl,rfl⟩ | ⟨b,c,rfl,hb⟩
  · simp only [Sem.run_bind,run_underlying hu,Result.andThen_ok,Sem.run_pure,hK.check,lX hK key l _ h1]
    exact fin _ rfl
  · have hg:(getObj b).run P w = .ok (.map es c) w:=by simp [getObj,Sem.run,hb]
    simp only [Sem.run_bind,run_underlying hu,Result.andThen_ok,Sem.run_pure,hg,hK.check,lX hK key l _ h1]
    exact fin _ rfl
theorem Lq {t:TypeId} {τ:Ty} (hp:τ.plain=true) (hs:τ.single=true) {d:DC} {z:τ.den} (hz:AP P t=some d) (hd:xp τ d=some z):∃ i zv,P.info? t=some i/\i.zero=some zv/\zv=pack (encs τ z):=by
 unfold AP at hz
 split at hz
 case h_2=>cases hz
 rename_i zv DM
 split at hz
 case h_2=>cases hz
 rename_i hone
 cases hz
 obtain ⟨i,hi,hiz⟩:=Option.bind_eq_some_iff.1 DM
 have:=(R.plain (P:=P) (S:=fun _ _=>False) (w:=default) hp).1 (ED (Y:=.nilFunc) (heap:=fun _=>.none) (ρ:=fun _=>none) (tZ zv hone) hd)
 exact ⟨i,zv,hi,hiz,by rw [<- this]; rfl⟩
theorem IJ {t:TypeId} {τ:Ty} (hp:τ.plain=true) {sl:Slot} {z:τ.den} (hz:xu P t=some sl) (hd:ej τ sl=some z):∃ i zv,P.info? t=some i/\i.zero=some zv/\zv=pack (encs τ z):=by
 unfold xu at hz
 obtain ⟨zv,DM,rfl⟩:=Option.map_eq_some_iff.1 hz
 obtain ⟨i,hi,hiz⟩:=Option.bind_eq_some_iff.1 DM
 have:=(R.plain (P:=P) (S:=fun _ _=>False) (w:=default) hp).1 (kO (Y:=.nilFunc) (heap:=fun _=>.none) (ρ:=fun _=>none) (nS zv) hd)
 exact ⟨i,zv,hi,hiz,by rw [<- this]; rfl⟩
theorem Dj {τ:Ty} (h:τ.one=true):τ.single=true:=by cases τ <;> first | rfl | cases h
theorem EJ {K:TypeId->Bool} (hKS:dN P K) {o:Oper} {Q:Exit->Act->World->Prop} (h:SR P N G s a w ρ S F) (hd:o.dst.all (Nat.blt · N)=true) {t:TypeId} {x i:Operand} {ok:Bool} (hop:o.op = .lookup t x i ok)
  {sx si:Slot} (hx:RS P G.Y S w s.heap ρ sx (a.eval x)) (hi:RS P G.Y S w s.heap ρ si (a.eval i)) {e:mV} (he:(zM P K t s.heap sx si ok).run id=some e) :
  o.wp P a w (sZ P N G o s e) Q:=by
 unfold zM at he
 split at he
 case h_2=>cases he
 rename_i kt vt hu
 split at he
 case h_2=>cases he
 rename_i k v z hK hk hv hz
 split at he
 case h_2=>cases he
 rename_i key zd hvo hkey hzd
 simp only [Bool.and_eq_true,Bool.or_eq_true] at hvo
 have hKA:=hKS kt k hK hk
 have fin:∀ (m:k.den->Option v.den) (rh:List Nat) (es:Array MapEntry),(k.plain=true/\v.plain=true/\k.single=true)->((a.eval x = .map none/\es = #[])\/∃ b c,a.eval x = .map (some b)/\w.heap[b]? = some (.map es c))->nK k v m es ->
   o.wp P a w (sZ P N G o s ⟨some (Pp v ok (m key) zd),[],rh,true,none⟩) Q:=by
  intro m rh es ⟨hkp,hvp,hks⟩ hxm hm
  obtain ⟨ti,zv,hti,htz,DM⟩:=IJ hvp hz hzd
  have hkv:=jY hkp hks hi hkey
  have hrun:=ue (P:=P) (w:=w) hu hKA hxm hm key hti htz DM ok
  cases ok with
  | true =>
   refine bt h hd (v:=.tuple #[pack (encs v ((m key).getD zd)),.bool (m key).isSome]) ?_ ⟨[_,_],rfl,_,_,rfl,II hvp hvo.1 _,_,_,rfl,rfl,rfl⟩
   simp only [execOp,hop,hkv,Sem.run_bind,hrun,Result.andThen_ok,Sem.run_pure]
  | false =>
   refine bt h hd (v:=pack (encs v ((m key).getD zd))) ?_ ⟨hvo.2.elim (fun q=>q) (fun q=>by cases q),II hvp hvo.1 _⟩
   simp only [execOp,hop,hkv,Sem.run_bind,hrun,Result.andThen_ok,Sem.run_pure]
 simp only at he
 split at he
 ·rename_i id
  cases ho:s.heap id <;> rw [ho] at he <;> try (cases he; done)
  rename_i k' v' m'
  simp only at he
  cases hcast:cH (σ:=.map k' v') (.map k v) m' <;> rw [hcast] at he <;> try (cases he; done)
  rename_i m
  simp only [Br.run,er,_root_.id,Option.some.injEq] at he
  subst he
  obtain ⟨e1,hm'⟩:=bY hcast
  obtain ⟨rfl,rfl⟩:k'=k/\v'=v:=by injection e1 with a b; exact ⟨a,b⟩
  obtain rfl:m=m':=hm'
  have cK:=h.obj id
  rw [ho] at cK
  obtain ⟨b,es,c,q1,q2,q3,⟨p1,p2,p3,p4⟩,q5,q6⟩:=cK
  obtain ⟨_,_,hx3⟩:=hx
  obtain ⟨b',hb',cP⟩:=hx3 _ _ _ ho
  rw [q1] at hb'; cases hb'
  exact fin m [id] es ⟨p1,p2,p3⟩ (.inr ⟨b,c,cP,q3⟩) q5.1
 ·rename_i k' v' m'
  cases hcast:cH (σ:=.map k' v') (.map k v) m' <;> rw [hcast] at he <;> try (cases he; done)
  rename_i m
  simp only [Br.run,er,_root_.id,Option.some.injEq] at he
  subst he
  obtain ⟨e1,hm'⟩:=bY hcast
  obtain ⟨rfl,rfl⟩:k'=k/\v'=v:=by injection e1 with a b; exact ⟨a,b⟩
  obtain rfl:m=m':=hm'
  obtain ⟨_,p1,p2,p3,p4,hr⟩:=hx
  rcases hr with ⟨r,yD,SE,VU⟩ | ⟨b,es,c,yD,SE,VU,hr4⟩
  ·subst SE
   exact fin m [] #[] ⟨p1,p2,p3⟩ (.inl ⟨by simpa using yD,rfl⟩) ⟨[],rfl,by simp,by simp,fun x y q=>by rw [show m x=none from VU x] at q; cases q⟩
  ·exact fin m [] es ⟨p1,p2,p3⟩ (.inr ⟨b,c,by simpa using yD,VU⟩) hr4
 ·cases he
theorem kR {α:Type} (es:Array α) (i j:Nat) (f:α->α):(es.modify i f).toList[j]? = if i=j then es.toList[j]?.map f else es.toList[j]? := by
 rw [Array.getElem?_toList,Array.getElem?_toList,Array.getElem?_modify]
theorem IK {es:Array MapEntry} {c:Nat} {x y:Value} (h1:∀ e∈es.toList,e.born < c) (h2:(es.toList.map (·.born)).Nodup):Stm (es.push { key:=x,val:=y,born:=c }) (c + 1):=by
 refine ⟨fun e he=>?_,?_⟩
 ·rw [Array.toList_push,List.mem_append,List.mem_singleton] at he
  rcases he with he | rfl
  ·have:=h1 e he; omega
  ·exact Nat.lt_succ_self _
 ·rw [Array.toList_push,List.map_append,List.nodup_append]
  refine ⟨h2,by simp,fun b hb b' hb'=>?_⟩
  simp only [List.map_cons,List.map_nil,List.mem_singleton] at hb'
  obtain ⟨e,he,rfl⟩:=List.mem_map.1 hb
  have:=h1 e he
  omega
theorem Lr {es:Array MapEntry} {c i:Nat} {f:MapEntry->MapEntry} (h1:∀ e∈es.toList,e.born < c) (h2:(es.toList.map (·.born)).Nodup) (hf:∀ e,(f e).born=e.born):Stm (es.modify i f) c:=by
 have key:(es.modify i f).toList.map (·.born)=es.toList.map (·.born):=by
  apply List.ext_getElem?
  intro j
  rw [List.getElem?_map,List.getElem?_map,kR]
  split
  ·cases es.toList[j]? with
   | none=>rfl
   | some e=>simp [hf]
  ·rfl
 refine ⟨fun e he=>?_,by rw [key]; exact h2⟩
 have:e.born∈(es.modify i f).toList.map (·.born):=List.mem_map.2 ⟨e,he,rfl⟩
 rw [key] at this
 obtain ⟨e',he',q⟩:=List.mem_map.1 this
 rw [<- q]; exact h1 e' he'
theorem mO {t kt vt:TypeId} {k v:Ty} (hu:P.underlying t=some (.map kt vt)) (hK:DO P kt k) {m:k.den->Option v.den} {b c:Nat} {es:Array MapEntry}
  (hb:w.heap[b]? = some (.map es c)) (hm:adl k v m es c) (key:k.den) (val:v.den) :
  ∃ es' c',(Instr.mapUpdate t (.map (some b)) (pack (encs k key)) (pack (encs v val))).run P w = .ok () (w.putObj b (.map es' c'))/\adl k v (fP (nJ k) m key val) es' c':=by
 obtain ⟨hm,adx,VV⟩:=hm
 obtain ⟨l,h1,h2,h3,h4⟩:=hm
 have Lp:=nK.at hK.same h3 h4 key
 have hg:(getObj b).run P w = .ok (.map es c) w:=by simp [getObj,Sem.run,hb]
 have Bn:∀ o,(setObj b o).run P w = .ok () (w.putObj b o):=fun o=>by simp [setObj,Sem.run,hb,World.putObj]
 have Pz:=lX (P:=P) (w:=w) hK key l es.toList h1
 have heq:∀ z,nJ k z key=true↔z=key:=fun z=>hK.same z key
 cases hf:kQ key l 0 with
 | none =>
  have avx:=ud hK.same hf
  rw [hf] at Pz Lp
  refine ⟨es.push { key:=pack (encs k key),val:=pack (encs v val),born:=c },c + 1,?_,⟨l ++ [(key,val)],by simp [h1],?_,?_,?_⟩,IK adx VV⟩
  ·unfold Instr.mapUpdate
   simp only [Sem.run_bind,run_underlying hu,Result.andThen_ok,hg,hK.check,Pz,Option.map_none,Bn]
  ·rw [List.map_append,List.nodup_append]
   refine ⟨h2,by simp,fun a ha b' hb'=>?_⟩
   obtain ⟨p,hp,rfl⟩:=List.mem_map.1 ha
   simp at hb'
   subst hb'
   exact avx p hp
  ·intro p hp
   rcases List.mem_append.1 hp with hp | hp
   ·have hne:=avx p hp
    have:nJ k p.1 key=false:=by rw [<- Bool.not_eq_true,heq]; exact hne
    simp only [fP,this,cond_false]; exact h3 p hp
   ·simp at hp
    subst hp
    have:nJ k key key=true:=(heq key).2 rfl
    simp only [fP,this,cond_true]
  ·intro x y hx
   simp only [fP] at hx
   cases he:nJ k x key with
   | true =>
    rw [he] at hx
    simp only [cond_true,Option.some.injEq] at hx
    rw [(heq x).1 he,<- hx]; simp
   | false=>rw [he] at hx; exact List.mem_append.2 (.inl (h4 x y hx))
 | some r =>
  obtain ⟨i,y0⟩:=r
  obtain ⟨_,nY⟩:=oa hK.same hf
  rw [Nat.sub_zero] at nY
  rw [hf] at Pz
  have hei:∃ e,es.toList[i]? = some e/\e.key=pack (encs k key)/\e.val=pack (encs v y0):=by
   have:=congrArg (fun z=>z[i]?) h1
   simp only [List.getElem?_map,nY,Option.map_some] at this
   cases he:es.toList[i]? with
   | none=>rw [he] at this; cases this
   | some e =>
    rw [he] at this
    simp only [Option.map_some,Option.some.injEq,Prod.mk.injEq] at this
    exact ⟨e,rfl,this.1,this.2⟩
  obtain ⟨e,he,hek,hev⟩:=hei
  have he':es[i]? = some e:=by simpa using he
  refine ⟨es.modify i fun e=>{ e with key:=pack (encs k key),val:=pack (encs v val) },c,?_,⟨l.set i (key,val),?_,?_,?_,?_⟩,Lr adx VV fun _=>rfl⟩
  ·unfold Instr.mapUpdate
   simp only [Sem.run_bind,run_underlying hu,Result.andThen_ok,hg,hK.check,Pz,Option.map_some,he',Option.getD_some,hek,Instr.keyThatStays,hK.bits,if_true,Sem.run_pure,Bn]
  ·apply List.ext_getElem?
   intro j
   rw [List.getElem?_map,List.getElem?_map,kR,List.getElem?_set]
   have hj:=congrArg (fun z=>z[j]?) h1
   simp only [List.getElem?_map] at hj
   have hlen:i < l.length:=(List.getElem?_eq_some_iff.1 nY).1
   by_cases hij:i=j
   ·subst hij
    rw [if_pos rfl,if_pos rfl,if_pos hlen,he]
    rfl
   ·rw [if_neg hij,if_neg hij]; exact hj
  ·have:(l.set i (key,val)).map (·.1)=l.map (·.1):=by
    apply List.ext_getElem?
    intro j
    rw [List.getElem?_map,List.getElem?_map,List.getElem?_set]
    by_cases hij:i=j
    ·subst hij
     have hlen:i < l.length:=(List.getElem?_eq_some_iff.1 nY).1
     rw [if_pos rfl,if_pos hlen,nY]; rfl
    ·rw [if_neg hij]
   rw [this]; exact h2
  ·intro p hp
   obtain ⟨j,hj,hpj⟩:=List.getElem_of_mem hp
   have Bo:(l.set i (key,val))[j]? = some p:=by rw [List.getElem?_eq_getElem hj,hpj]
   rw [List.getElem?_set] at Bo
   by_cases hij:i=j
   ·subst hij
    have hlen:i < l.length:=(List.getElem?_eq_some_iff.1 nY).1
    rw [if_pos rfl,if_pos hlen] at Bo
    simp only [Option.some.injEq] at Bo
    subst Bo
    have:nJ k key key=true:=(heq key).2 rfl
    simp only [fP,this,cond_true]
   ·rw [if_neg hij] at Bo
    have hne:p.1≠key:=fun e=>by
     have hj1:(l.map (·.1))[j]? = some key:=by rw [List.getElem?_map,Bo,<- e]; rfl
     have hi1:(l.map (·.1))[i]? = some key:=by rw [List.getElem?_map,nY]; rfl
     have Vh:=(List.getElem?_eq_some_iff.1 hj1).1
     rw [List.getElem?_eq_some_iff] at hi1 hj1
     obtain ⟨l1,q1⟩:=hi1
     obtain ⟨l2,q2⟩:=hj1
     have hpw:=List.pairwise_iff_getElem.1 h2
     rcases Nat.lt_or_gt_of_ne hij with hlt | hgt
     ·exact hpw i j l1 l2 hlt (by rw [q1,q2])
     ·exact hpw j i l2 l1 hgt (by rw [q1,q2])
    have:nJ k p.1 key=false:=by rw [<- Bool.not_eq_true,heq]; exact hne
    simp only [fP,this,cond_false]; exact h3 p (List.mem_of_getElem? Bo)
  ·intro x y hx
   simp only [fP] at hx
   have hlen:i < l.length:=(List.getElem?_eq_some_iff.1 nY).1
   cases VW:nJ k x key with
   | true =>
    rw [VW] at hx
    simp only [cond_true,Option.some.injEq] at hx
    rw [(heq x).1 VW,<- hx]
    exact List.mem_of_getElem? (i:=i) (by rw [List.getElem?_set,if_pos rfl,if_pos hlen])
   | false =>
    rw [VW] at hx
    obtain ⟨j,hj,hpj⟩:=List.getElem_of_mem (h4 x y hx)
    have Bo:l[j]? = some (x,y):=by rw [List.getElem?_eq_getElem hj,hpj]
    refine List.mem_of_getElem? (i:=j) ?_
    have hij:i≠j:=fun e=>by
     subst e
     rw [nY] at Bo
     cases Bo
     rw [(heq _).2 rfl] at VW; cases VW
    rw [List.getElem?_set,if_neg hij]; exact Bo
theorem SF {t kt vt:TypeId} {k v:Ty} (hu:P.underlying t=some (.map kt vt)) (hK:DO P kt k) {m:k.den->Option v.den} {b c:Nat} {es:Array MapEntry}
  (hb:w.heap[b]? = some (.map es c)) (hm:adl k v m es c) (key:k.den) {ti:TypeInfo} (hti:P.info? vt=some ti) {zv:Value} (htz:ti.zero=some zv) {z:v.den} (DM:zv=pack (encs v z)) :
  ∃ es1 c1 st v0,∃ m1:k.den->Option v.den,(Instr.mapEntry t (.map (some b)) (pack (encs k key))).run P w = .ok (.tuple #[v0,goInt st]) (w.putObj b (.map es1 c1))/\nK k v m1 es1/\(m1 key).getD z=(m key).getD z /\
   ∀ val:v.den,∃ es' c',(∀ w2:World,w2.heap[b]? = some (.map es1 c1)->(Instr.entryStore t (.map (some b)) (goInt st) (pack (encs v val))).run P w2 = .ok () (w2.putObj b (.map es' c'))) /\
    (Instr.mapUpdate t (.map (some b)) (pack (encs k key)) (pack (encs v val))).run P w = .ok () (w.putObj b (.map es' c')):=by
 have hup:=fun val=>mO (P:=P) (w:=w) hu hK hb hm key val
 have hlt:=(Array.getElem?_eq_some_iff.1 hb).1
 obtain ⟨hm,adx,VV⟩:=hm
 have hm0:=hm
 obtain ⟨l,h1,h2,h3,h4⟩:=hm
 have Lp:=nK.at hK.same h3 h4 key
 have hg:(getObj b).run P w = .ok (.map es c) w:=by simp [getObj,Sem.run,hb]
 have Bn:∀ o,(setObj b o).run P w = .ok () (w.putObj b o):=fun o=>by simp [setObj,Sem.run,hb,World.putObj]
 have Pz:=lX (P:=P) (w:=w) hK key l es.toList h1
 have heq:∀ z,nJ k z key=true↔z=key:=fun z=>hK.same z key
 have hz:(zeroValue vt).run P w = .ok zv w:=by simp only [zeroValue,typeInfo,Sem.run_bind,run_program,Result.andThen_ok,hti,htz,Sem.run_pure]
 cases hf:kQ key l 0 with
 | none =>
  rw [hf] at Pz Lp
  have hrun:∀ val,(Instr.mapUpdate t (.map (some b)) (pack (encs k key)) (pack (encs v val))).run P w = .ok () (w.putObj b (.map (es.push { key:=pack (encs k key),val:=pack (encs v val),born:=c }) (c + 1))):=fun val=>by
   unfold Instr.mapUpdate
   simp only [Sem.run_bind,run_underlying hu,Result.andThen_ok,hg,hK.check,Pz,Option.map_none,Bn]
  refine ⟨es.push { key:=pack (encs k key),val:=zv,born:=c },c + 1,c,zv,fP (nJ k) m key z,?_,?_,?_,fun val=>⟨es.push { key:=pack (encs k key),val:=pack (encs v val),born:=c },c + 1,fun w2 hw2=>?_,hrun val⟩⟩
  ·unfold Instr.mapEntry
   simp only [Sem.run_bind,run_underlying hu,Result.andThen_ok,hg,hK.check,Pz,Option.map_none,hz,Bn,Sem.run_pure]
  ·obtain ⟨es',c',q1,q2,_⟩:=hup z
   have:=hrun z
   rw [q1] at this
   injection this with _ this
   have e1:(w.putObj b (.map es' c')).heap[b]? = some (.map es' c'):=World.putObj_heap_same hlt
   rw [this,World.putObj_heap_same hlt] at e1
   injection e1 with e1
   injection e1 with e1 _
   rw [DM,e1]; exact q2
  ·have:nJ k key key=true:=(heq key).2 rfl
   simp only [fP,this,cond_true,Lp,Option.map_none]
   rfl
  ·have hg2:(getObj b).run P w2 = .ok (.map (es.push { key:=pack (encs k key),val:=zv,born:=c }) (c + 1)) w2:=by simp [getObj,Sem.run,hw2]
   have VX:∀ o,(setObj b o).run P w2 = .ok () (w2.putObj b o):=fun o=>by simp [setObj,Sem.run,hw2,World.putObj]
   have hidx:(es.push { key:=pack (encs k key),val:=zv,born:=c }).findIdx? (fun e=>((e.born:Nat):Int) == ((c:Nat):Int))=some es.size:=by
    rw [WideElems.findIdx_arr]
    exact WideElems.findIdx_born (l:=(es.push { key:=pack (encs k key),val:=zv,born:=c }).toList) (j:=es.size) (e0:={ key:=pack (encs k key),val:=zv,born:=c }) (IK adx VV).2 (by simp)
   have hmod:(es.push { key:=pack (encs k key),val:=zv,born:=c }).modify es.size (fun e=>{ e with val:=pack (encs v val) })=es.push { key:=pack (encs k key),val:=pack (encs v val),born:=c }:=by
    apply Array.ext'
    rw [Array.toList_modify,Array.toList_push,Array.toList_push,<- Array.length_toList,WideElems.modify_last]
   unfold Instr.entryStore
   simp only [Sem.run_bind,Result.andThen_ok,hg2,asInt,asIntOf,goInt,Sem.run_pure,hidx,hmod,VX]
 | some r =>
  obtain ⟨i,y0⟩:=r
  obtain ⟨_,nY⟩:=oa hK.same hf
  rw [Nat.sub_zero] at nY
  rw [hf] at Pz
  have hei:∃ e,es.toList[i]? = some e/\e.key=pack (encs k key)/\e.val=pack (encs v y0):=by
   have:=congrArg (fun z=>z[i]?) h1
   simp only [List.getElem?_map,nY,Option.map_some] at this
   cases he:es.toList[i]? with
   | none=>rw [he] at this; cases this
   | some e =>
    rw [he] at this
    simp only [Option.map_some,Option.some.injEq,Prod.mk.injEq] at this
    exact ⟨e,rfl,this.1,this.2⟩
  obtain ⟨e,he,hek,hev⟩:=hei
  have he':es[i]? = some e:=by simpa using he
  have hsame:(es.modify i fun e=>{ e with key:=pack (encs k key) })=es:=by
   apply Array.ext'
   apply List.ext_getElem?
   intro j
   rw [kR]
   split
   ·rename_i hij
    subst hij
    rw [he,Option.map_some,<- hek]
   ·rfl
  refine ⟨es,c,e.born,pack (encs v y0),m,?_,hm0,rfl,fun val=>⟨es.modify i fun e=>{ e with key:=pack (encs k key),val:=pack (encs v val) },c,fun w2 hw2=>?_,?_⟩⟩
  ·unfold Instr.mapEntry
   simp only [Sem.run_bind,run_underlying hu,Result.andThen_ok,hg,hK.check,Pz,Option.map_some,he',Option.getD_some,hek,Instr.keyThatStays,hK.bits,if_true,Sem.run_pure,Bn,hsame]
  ·have hg2:(getObj b).run P w2 = .ok (.map es c) w2:=by simp [getObj,Sem.run,hw2]
   have VX:∀ o,(setObj b o).run P w2 = .ok () (w2.putObj b o):=fun o=>by simp [setObj,Sem.run,hw2,World.putObj]
   have hidx:es.findIdx? (fun e'=>((e'.born:Nat):Int) == ((e.born:Nat):Int))=some i:=by
    rw [WideElems.findIdx_arr]
    exact WideElems.findIdx_born VV he
   have hmod:es.modify i (fun e'=>{ e' with val:=pack (encs v val) })=es.modify i (fun e'=>{ e' with key:=pack (encs k key),val:=pack (encs v val) }):=by
    apply Array.ext'
    apply List.ext_getElem?
    intro j
    rw [kR,kR]
    split
    ·rename_i hij
     subst hij
     rw [he,Option.map_some,Option.map_some,<- hek]
    ·rfl
   unfold Instr.entryStore
   simp only [Sem.run_bind,Result.andThen_ok,hg2,asInt,asIntOf,goInt,Sem.run_pure,hidx,hmod,VX]
  ·unfold Instr.mapUpdate
   simp only [Sem.run_bind,run_underlying hu,Result.andThen_ok,hg,hK.check,Pz,Option.map_some,he',Option.getD_some,hek,Instr.keyThatStays,hK.bits,if_true,Sem.run_pure,Bn]
theorem zu {K:TypeId->Bool} (hKS:dN P K) (hG:G.Ok P) {o:Oper} {Q:Exit->Act->World->Prop} (h:SR P N G s a w ρ S F) (hd:o.dst.all (Nat.blt · N)=true) {t:TypeId} {x i y:Operand} (hop:o.op = .mapUpdate t x i y)
  {sx si sy:Slot} (hx:RS P G.Y S w s.heap ρ sx (a.eval x)) (hi:RS P G.Y S w s.heap ρ si (a.eval i)) (hy:RS P G.Y S w s.heap ρ sy (a.eval y)) {e:mV} (he:(nP P K t s.heap sx si sy).run id=some e) :
  o.wp P a w (sZ P N G o s e) Q:=by
 unfold nP at he
 split at he
 case h_2=>cases he
 rename_i kt vt hu
 split at he
 case h_2=>cases he
 rename_i k v id hK hk hv
 split at he
 case h_2=>cases he
 rename_i k' v' m' ho
 split at he
 case h_2=>cases he
 rename_i m key val hcast hkey hval hvo
 cases he
 obtain ⟨e1,hm'⟩:=bY hcast
 obtain ⟨rfl,rfl⟩:k'=k/\v'=v:=by injection e1 with a b; exact ⟨a,b⟩
 obtain rfl:m=m':=hm'
 have cK:=h.obj id
 rw [ho] at cK
 obtain ⟨b,es,c,q1,q2,q3,⟨p1,p2,p3,p4⟩,q5,q6⟩:=cK
 obtain ⟨_,_,hx3⟩:=hx
 obtain ⟨b',hb',cP⟩:=hx3 _ _ _ ho
 rw [q1] at hb'; cases hb'
 obtain ⟨es',c',hrun,aFF⟩:=mO (P:=P) hu (hKS kt _ hK hk) q3 q5 key val
 have hkv:=jY p1 p3 hi hkey
 have hvv:=jY p2 p4 hy hval
 have hlt:=(Array.getElem?_eq_some_iff.1 q3).1
 have hex:(execOp a.eval o).run P w = .ok .skip (w.putObj b (.map es' c')):=by
  simp only [execOp,hop,hkv,hvv,cP,Sem.run_bind,hrun,Result.andThen_ok,Sem.run_pure]
 unfold Oper.wp
 rw [hex]
 have fU:∀ j,j≠b->(w.putObj b (.map es' c')).heap[j]? = w.heap[j]? := fun j hj=>World.putObj_heap_other hj
 have hsz:(w.putObj b (.map es' c')).heap.size=w.heap.size:=by simp [World.putObj]
 have ex:Ext0 S w S (w.putObj b (.map es' c')):=⟨by omega,fun _ _ x=>x,fun b' o hS=>World.cell?_of_block (a:=⟨b',o,none⟩) (fU b' (fun e=>q6 o (e ▸ hS))),fun b' o es c hS hm=>(fU b' (fun e=>q6 o (e ▸ hS))).trans hm,fun b' o hS=>by rw [hsz]; exact h.bd b' o hS,.putObj hlt (fun _ _ _=>by simp)⟩
 have q:=h.Lj hG (id:=id) (o:=.mp k' v' (fP (nJ k') m key val)) (by rw [ho]; trivial) q1 ex ⟨rfl,rfl,rfl,by omega,fun j hj=>fU j hj.2⟩ hsz (fun _ _ q=>.inl q) (by rw [ho]; exact .inr ⟨⟨_,rfl⟩,rfl⟩)
  ⟨b,es',c',q1,q2,World.putObj_heap_same hlt,⟨p1,p2,p3,p4⟩,aFF,q6⟩
 exact ⟨rfl,ρ,S,F,(q.mZ hd).of_eq rfl rfl rfl rfl⟩
end Go.Dm
namespace Go.Dm
open Go.RowKit
variable {P:Program} {N N':Nat} {G:Gh} {S S' S2:CS} {w w' w2:World} {s s2:St} {a a2:Act} {ρ ρ' ρ2:fA} {F F' F2:Nat->Prop} {heap heap' H' H2:Nat->bu} {Y:Value} {E:cg} {Γ:Ctx} {Fw:Fence} {r:Nat} {ops:Array Oper} {lo base:Nat} {bw:List fu}
def Cons.dead (α:Type):Cons α:=⟨fun _ _ _ _=>False,fun _ _ _ _=>True,fun _ _ _ _ _=>True⟩
theorem Cons.PA (α:Type):(Cons.dead α).Ok:=⟨fun _ _ _ _ _ _ h _ _ _ _=>h,fun _ _ _ _ _ _ _ _ _ _ _=>trivial,fun _ _ _ _ _ _ _ _ _ _ _ _=>trivial⟩
theorem Bp {e:Ty} {S:CS} {l:Nat}:zH P (R P e) (Cons.dead e.den) S l []:=fun _ _ _ _ _ _ _ h=>h.elim
def Gh.inner (M:Nat->Prop) (S:CS) (w:World) (l lo:Nat) (ic:Nat->Option Nat):Gh:=⟨M,fun _=>False,S,w,.nil,Cons.dead _,[],l,fun _ _=>True,lo,ic⟩
theorem dS.move (hm:∀ id,H2 id ≠ .none->H' id=H2 id/\ρ' id=ρ2 id) {id off:Nat} {v:Value} (h:dS H2 ρ2 id off v):dS H' ρ' id off v:=by
 obtain ⟨h1,h2,h3⟩:=h
 obtain ⟨e1,e2⟩:=hm id h1
 exact ⟨by rw [e1]; exact h1,h2,fun ds hd=>by rw [e2]; exact h3 ds (e1 ▸ hd)⟩
theorem dn.move (hm:∀ id,H2 id ≠ .none->H' id=H2 id/\ρ' id=ρ2 id):∀ {ids:List Nat} {us:List Value},dn H2 ρ2 ids us->dn H' ρ' ids us
 | [],[],_=>trivial
 | _ :: _,_ :: _,h=>⟨h.1.move hm,dn.move hm h.2⟩
 | [],_ :: _,h=>h.elim
 | _ :: _,[],h=>h.elim
theorem RC.move (hm:∀ id,H2 id ≠ .none->H' id=H2 id/\ρ' id=ρ2 id) {d:DC} {v:Value} (h:RC P Y S w H2 ρ2 d v):RC P Y S w H' ρ' d v:=by
 cases d with
 | pc τ x=>exact h
 | own id bG e s =>
  obtain ⟨h1,hf,cur,T,k,n,h2,h3,h4⟩:=h
  obtain ⟨e1,e2⟩:=hm id (by rw [h2]; simp)
  refine ⟨h1,hf,cur,T,k,n,e1.trans h2,h3,fun q=>?_⟩
  obtain ⟨q1,q2,q3⟩:=h4 q
  refine ⟨q1,q2,?_⟩
  rw [e2]; exact q3
 | ptr id off=>exact dS.move hm h
 | KP id off=>exact dS.move hm h
 | La id bG i off =>
  obtain ⟨h1,h2,h3⟩:=h
  obtain ⟨e1,e2⟩:=hm id h1
  exact ⟨by rw [e1]; exact h1,h2,fun cu T e s hd=>by rw [e2]; exact h3 cu T e s (e1 ▸ hd)⟩
 | row id bG =>
  obtain ⟨h1,h2,h3⟩:=h
  obtain ⟨e1,e2⟩:=hm id h1
  refine ⟨by rw [e1]; exact h1,h2,fun cu T e s hd=>?_⟩
  have:=h3 cu T e s (e1 ▸ hd)
  unfold DI at this ⊢
  rw [e2]; exact this
 | mp id =>
  obtain ⟨h1,h2,h3⟩:=h
  obtain ⟨e1,e2⟩:=hm id h1
  exact ⟨by rw [e1]; exact h1,h2,fun k e m hd=>by rw [e2]; exact h3 k e m (e1 ▸ hd)⟩
 | rows id =>
  obtain ⟨h1,h2,h3⟩:=h
  obtain ⟨e1,e2⟩:=hm id h1
  exact ⟨by rw [e1]; exact h1,h2,fun cu T e d hd=>by rw [e2]; exact h3 cu T e d (e1 ▸ hd)⟩
 | Pn id i =>
  obtain ⟨h1,h2,h3⟩:=h
  obtain ⟨e1,e2⟩:=hm id h1
  exact ⟨by rw [e1]; exact h1,h2,fun cu T e d hd=>by rw [e2]; exact h3 cu T e d (e1 ▸ hd)⟩
 | sub id bG i n =>
  obtain ⟨h1,h2,h3⟩:=h
  obtain ⟨e1,e2⟩:=hm id h1
  refine ⟨by rw [e1]; exact h1,h2,fun cu T e d hd=>?_⟩
  have:=h3 cu T e d (e1 ▸ hd)
  unfold vz at this ⊢
  rw [e2]; exact this
 | xo id bG i j off =>
  obtain ⟨h1,h2,h3⟩:=h
  obtain ⟨e1,e2⟩:=hm id h1
  refine ⟨by rw [e1]; exact h1,h2,fun cu T e d hd=>?_⟩
  have:=h3 cu T e d (e1 ▸ hd)
  unfold vz at this ⊢
  rw [e2]; exact this
 | iM f ids=>obtain ⟨hc,us,h1,h2⟩:=h; exact ⟨hc,us,h1,h2.move hm⟩
 | lR f τ x ids=>obtain ⟨hc,u,us,h1,h2,h3⟩:=h; exact ⟨hc,u,us,h1,h2,h3.move hm⟩
 | zg T τ x=>exact h
 | jI=>exact h
 | mU=>exact h
 | qD=>exact h
 | top=>exact h
def eI (D:Nat->Bool) (h2 h:Nat->bu):Nat->bu:=fun id=>bif D id then h2 id else h id
def dU (D:Nat->Bool) (r2 r:fA):fA:=fun id=>bif D id then r2 id else r id
theorem SR.back (hG:G.Ok P) (h:SR P N G s a w ρ S F) {D:Nat->Bool} {M:Nat->Prop} {lo:Nat} {ic:Nat->Option Nat} (h2:SR P N' (Gh.inner M S w G.l lo ic) s2 a2 w2 ρ2 S2 F2)
  (hM:∀ b,M b->∃ id,D id=true/\Own w ρ id (s.heap id) b) (hD:∀ id,s2.heap id ≠ .none->D id=true)
  (hK:∀ id,D id=true->Kept w w2 ρ ρ2 id (s.heap id) (s2.heap id)) (aFG:∀ id b,D id=true->G.ic id=some b->ρ2 id=some b/\gp (s2.heap id)=false) :
  SR P N G { s with heap:=eI D s2.heap s.heap } a w2 (dU D ρ2 ρ) S2 F:=by
 have hMF:∀ b,M b->¬ F b:=fun b hb hF=>by
  obtain ⟨id,_,hl⟩:=hM b hb
  exact (h.jy hl).2.1.2 hF
 have hMA:∀ b,M b->G.w0.heap.size<=b\/G.M b:=fun b hb=>by
  obtain ⟨id,_,hl⟩:=hM b hb
  exact (h.jy hl).2.1.1
 have hsame:∀ b,b < w.heap.size->¬ M b->w2.heap[b]? = w.heap[b]? := fun b hb hn=>h2.same.block b ⟨hb,hn,fun q=>q⟩
 have zQ:∀ id b,D id=false->Own w ρ id (s.heap id) b->¬ M b:=fun id b hd hl hm=>by
  obtain ⟨id',hd',hl'⟩:=hM b hm
  have:=h.inj id' id b hl' hl
  rw [this,hd] at hd'; cases hd'
 have VY:∀ id b,D id=false->live (s.heap id)->ρ id=some b->¬ M b:=fun id b hd hl hr=>zQ id b hd (.of hl hr)
 have hk:∀ id,Kept w w2 ρ (dU D ρ2 ρ) id (s.heap id) (eI D s2.heap s.heap id):=fun id=>by
  cases hd:D id with
  | true =>
   have:=hK id hd
   have e1:eI D s2.heap s.heap id=s2.heap id:=by simp [eI,hd]
   have e2:dU D ρ2 ρ id=ρ2 id:=by simp [dU,hd]
   rw [e1]
   cases ho:s.heap id with
   | none=>trivial
   | gone=>rw [ho] at this; exact this
   | box ds=>rw [ho] at this; exact this.imp (fun q=>q) fun q=>⟨q.1,e2.trans q.2⟩
   | chain cur T k n =>
    rw [ho] at this
    obtain ⟨cur',n',q1,q2,q3⟩:=this
    exact ⟨cur',n',q1,q2,fun q=>⟨(q3 q).1,e2.trans (q3 q).2.1,(q3 q).2.2⟩⟩
   | row cur T e x=>rw [ho] at this; exact this.imp (fun q=>q) fun ⟨c',x',q1,q2,q3⟩=>⟨c',x',q1,q2,fun q=>⟨(q3 q).1,(q3 q).2.imp (fun z=>e2.trans z) (fun z=>z)⟩⟩
   | mp k v m=>rw [ho] at this; exact this.imp (fun q=>q) fun q=>⟨q.1,e2.trans q.2⟩
   | rows cur T e d=>rw [ho] at this; exact this.imp (fun q=>q) fun ⟨c',d',q1,q2,q3,q4,q5⟩=>⟨c',d',q1,q2,q3,e2.trans q4,q5⟩
  | false =>
   have e1:eI D s2.heap s.heap id=s.heap id:=by simp [eI,hd]
   rw [e1]
   exact .refl (by simp [dU,hd]) fun b hb hl=>hsame b (h.eG hl hb).1 (VY id b hd hl hb)
 have hm:∀ id,s2.heap id ≠ .none->eI D s2.heap s.heap id=s2.heap id/\dU D ρ2 ρ id=ρ2 id:=fun id hn=>by simp [eI,dU,hD id hn]
 have ex:Ext0 S w S2 w2:=h2.ext
 have VZ:∀ b o,S2 b o->S b o\/w.heap.size<=b\/M b:=h2.new
 have hsz:w.heap.size<=w2.heap.size:=ex.size
 have EK:∀ b,vn (Gh.inner M S w G.l lo ic) F2 b->vn G F b:=fun b ⟨q,_⟩=>by
  rcases q with q | q
  ·have q:w.heap.size<=b:=q
   exact ⟨.inl (Nat.le_trans h.ext.size q),fun x=>by have:=h.fb b x; omega⟩
  ·exact ⟨hMA b q,hMF b q⟩
 refine ⟨h.size,h.bw.tr hk fun Db hF hDb=>⟨(hsame Db (Array.getElem?_eq_some_iff.1 hDb).1 fun hm=>?_).trans hDb,hF⟩,fun t=>(h.env t).tr ex hk,fun id=>?_,fun i j b hi hj=>?_,
  h.ext.trans ex,fun b o q=>?_,h.same.trans ⟨h2.same.os,h2.same.tape,h2.same.output,hsz,fun b hb=>?_⟩,h.tr.tr hG.c h.fb ⟨h2.same.os,h2.same.tape,h2.same.output,hsz,fun b hb=>hsame b (h.fb b hb) fun q=>hMF b q hb⟩ ex,
  fun b x=>Nat.lt_of_lt_of_le (h.fb b x) hsz,h.f0,h.sub,fun b o q x=>?_,fun id b hb=>?_⟩
 ·obtain ⟨id,_,hl⟩:=hM Db hm
  exact (h.jy hl).2.2 hDb
 ·cases hd:D id with
  | false =>
   have e1:eI D s2.heap s.heap id=s.heap id:=by simp [eI,hd]
   show OI P G S2 w2 (eI D s2.heap s.heap) (dU D ρ2 ρ) F id (eI D s2.heap s.heap id)
   rw [e1]
   refine (h.obj id).tr ex hk (by simp [dU,hd]) fun b hb=>⟨hsame b (h.jy hb).1 (zQ id b hd hb),fun i q=>?_,fun x=>x⟩
   rcases VZ b i q with q | q | q
   ·exact q
   ·have:=(h.jy hb).1; omega
   ·exact absurd q (zQ id b hd hb)
  | true =>
   have e1:eI D s2.heap s.heap id=s2.heap id:=by simp [eI,hd]
   have e2:dU D ρ2 ρ id=ρ2 id:=by simp [dU,hd]
   show OI P G S2 w2 (eI D s2.heap s.heap) (dU D ρ2 ρ) F id (eI D s2.heap s.heap id)
   rw [e1]
   have:=h2.obj id
   cases ho:s2.heap id with
   | none=>trivial
   | gone=>trivial
   | box ds =>
    rw [ho] at this
    obtain ⟨b,arr,T,q1,q2,q3,q4,q5⟩:=this
    exact ⟨b,arr,T,e2.trans q1,EK b q2,q3,q4.imp fun d u hd=>hd.move hm,q5⟩
   | chain cur T k n =>
    rw [ho] at this
    rcases this with ⟨q1,q2⟩ | ⟨b,q1,q2,q3⟩
    ·exact .inl ⟨e2.trans q1,q2⟩
    ·exact .inr ⟨b,e2.trans q1,EK b q2,q3⟩
   | row cur T e x =>
    rw [ho] at this
    obtain ⟨q0,⟨q1,q2⟩ | ⟨b,arr,q1,q2,q3⟩⟩:=this
    ·exact ⟨q0,.inl ⟨e2.trans q1,q2⟩⟩
    ·exact ⟨q0,.inr ⟨b,arr,e2.trans q1,EK b q2,q3⟩⟩
   | mp k v m =>
    rw [ho] at this
    obtain ⟨b,es,c,q1,q2,q3⟩:=this
    exact ⟨b,es,c,e2.trans q1,EK b q2,q3⟩
   | rows cur T e x =>
    rw [ho] at this
    obtain ⟨q0,b,arr,T',q1,q2,q3,q4,q5,q6,q7⟩:=this
    refine ⟨q0,b,arr,T',e2.trans q1,EK b q2,q3,q4,q5,q6,fun i hi=>?_⟩
    obtain ⟨ad,cap,z1,z2⟩:=q7 i hi
    exact ⟨ad,cap,z1,z2.imp (fun x=>x) fun ⟨z0,b',gA,T'',z3,z4,z5,z6⟩=>⟨z0,b',gA,T'',z3,z4,EK b' z5,z6⟩⟩
 ·have hi:Own w2 (dU D ρ2 ρ) i (eI D s2.heap s.heap i) b:=hi
  have hj:Own w2 (dU D ρ2 ρ) j (eI D s2.heap s.heap j) b:=hj
  have inn:∀ i,D i=true->Own w2 (dU D ρ2 ρ) i (eI D s2.heap s.heap i) b->Own w2 ρ2 i (s2.heap i) b:=fun i di q=>by
   rw [show eI D s2.heap s.heap i=s2.heap i by simp [eI,di]] at q
   exact q.back (by simp [dU,di]) fun _ _ _=>rfl
  have out:∀ i,D i=false->Own w2 (dU D ρ2 ρ) i (eI D s2.heap s.heap i) b->Own w ρ i (s.heap i) b:=fun i di q=>by
   rw [show eI D s2.heap s.heap i=s.heap i by simp [eI,di]] at q
   exact q.back (by simp [dU,di]) fun b q1 q2=>hsame b (h.eG q2 q1).1 (VY i b di q2 q1)
  have mixed:∀ i j,D j=false->Own w2 ρ2 i (s2.heap i) b->Own w ρ j (s.heap j) b->False:=fun i j dj li lj=>by
   have hb:=(h.jy lj).1
   rcases (h2.jy li).2.1.1 with q | q
   ·have q:w.heap.size<=b:=q
    omega
   ·exact zQ j b dj lj q
  cases di:D i with
  | true =>
   cases dj:D j with
   | true=>exact h2.inj i j b (inn i di hi) (inn j dj hj)
   | false=>exact (mixed i j dj (inn i di hi) (out j dj hj)).elim
  | false =>
   cases dj:D j with
   | true=>exact (mixed j i di (inn j dj hj) (out i di hi)).elim
   | false=>exact h.inj i j b (out i di hi) (out j dj hj)
 ·rcases VZ b o q with q | q | q
  ·exact h.new b o q
  ·exact .inr (.inl (Nat.le_trans h.ext.size q))
  ·exact .inr (hMA b q)
 ·obtain ⟨q1,q2,q3⟩:=hb
  refine hsame b (Nat.lt_of_lt_of_le q1 h.ext.size) fun q=>?_
  rcases hMA b q with q | q
  ·omega
  ·exact q2 q
 ·rcases VZ b o q with q | q | q
  ·exact h.fs b o q x
  ·have:=h.fb b x; omega
  ·exact absurd x (hMF b q)
 ·show dU D ρ2 ρ id=some b/\gp (eI D s2.heap s.heap id)=false
  cases hd:D id with
  | true =>
   rw [dU,eI,hd,cond_true,cond_true]
   exact aFG id b hd hb
  | false =>
   rw [dU,eI,hd,cond_false,cond_false]
   exact h.pins id b hb
theorem SG {τ:Ty} {y:τ.den}:xp τ (.pc τ y)=some y:=by cases τ <;> simp [xp,cH]
theorem Wa {τ:Ty} {d:DC}:ej τ (.v d)=xp τ d:=by cases τ <;> rfl
theorem Dk (hG:G.Ok P) (h:SR P N G s a w ρ S F) {f:FuncId} {wr:Bool} {n:Nat} {τh:Ty} {T:TypeId} {e:Ty} {R:(Ty.cons τh .nil).den->Option (Sl e.den)} (IG:dP P f (nQ wr n (.cons τh .nil) T e R))
  {bJ:Nat} (hlo:G.lo<=bJ) (hno:s.heap bJ = .none) (ql:e.plain=true) (hfl:e.flat=true) {y:τh.den} {u:Value} (hone:τh.one=true) (hR:Go.Dm.R P τh (fun b _=>b < w.heap.size) w y [u]) (hn:Nat.ble 1 n=true) {sl:Sl e.den} (hs:R (y,())=some sl) :
  Calls P f #[u] w fun en w'=>∃ v ρ' S',en = .returned v/\SR P N G { s with heap:=cE s.heap [(bJ,dJ wr T e sl)] } a w' ρ' S' F/\RS P G.Y S' w' (cE s.heap [(bJ,dJ wr T e sl)]) ρ' (tT wr bJ e sl) v:=by
 let G0:Gh:=Gh.inner (fun _=>False) (fun b _=>b < w.heap.size) w G.l 0 (fun _=>none)
 have hG0:G0.Ok P:=⟨Cons.PA _,Bp,fun _ _ q=>by cases q⟩
 let s0:St:=⟨fun _=>.top,fun _=>.none,.none,0,[]⟩
 let a0:Act:={ tmps:=#[u],defers:=[] }
 have h0:SR P 1 G0 s0 a0 w (fun _=>none) (fun b _=>b < w.heap.size) (fun _=>False):=
  ⟨rfl,trivial,fun _=>trivial,fun _=>trivial,fun i j b hi=>hi.elim,.refl (fun _ _ q=>q),fun _ _ q=>.inl q,.refl _ _,⟨false,⟨0,fun _=>()⟩,rfl,[],List.nil_prefix,trivial⟩,fun _ q=>q.elim,fun _ _ q=>q,fun _ q=>q,fun _ _ _ _=>trivial,fun _ _ q=>by cases q⟩
 have oc:nQ wr n (.cons τh .nil) T e R [.v (.pc τh y)] s0.heap s0.tr 0 = .br true (.leaf (.ok ⟨some (tT wr 0 e sl),[(0,dJ wr T e sl)],[0],false,none⟩)) (.leaf .bad):=by
  unfold nQ
  have e1:ef (.cons τh .nil) [.v (.pc τh y)]=some (y,()):=by simp only [ef,Wa,SG]
  have e2:s0.heap 0 = .none:=rfl
  have e3:Nat.ble [Slot.v (.pc τh y)].length n=true:=hn
  simp only [e1,e2,e3,hs,Option.isSome_some,Option.getD_some]
 have hc:=IG 1 G0 s0 a0 w (fun _=>none) (fun b _=>b < w.heap.size) (fun _=>False) hG0 h0 [.v (.pc τh y)] [u] 0 rfl (fun j d v h1 h2=>by
   cases j with
   | zero=>simp at h1 h2; subst h1 h2; exact ⟨hone,hR⟩
   | succ j=>simp at h1) (Nat.le_refl _) (by rw [oc]; intro r hr; rw [show r=_ from hr]; simp) (by rw [oc]; intro e he; cases (show OR.bP .jI e=_ from he))
 refine hc.mono ?_
 rintro en w' ⟨rr,yD,SE⟩
 rw [oc] at yD
 have yD:rr=_:=yD
 subst yD
 obtain ⟨v,ρ2,S2,F2,rfl,q1,q2⟩:=SE
 have cK:OI P G0 S2 w' (cE s0.heap [(0,dJ wr T e sl)]) ρ2 F2 0 (dJ wr T e sl):=by
  have:=q1.obj 0
  have e0:cE s0.heap [(0,dJ wr T e sl)] 0=dJ wr T e sl:=by simp [cE,aE]
  have this:OI P G0 S2 w' (cE s0.heap [(0,dJ wr T e sl)]) ρ2 F2 0 (cE s0.heap [(0,dJ wr T e sl)] 0):=this
  rw [e0] at this
  exact this
 have hnew:∀ b,vn G0 F2 b->w.heap.size<=b:=fun b q=>q.1.elim (fun x=>x) (fun x=>x.elim)
 have avy:∀ {b o},w.heap.size<=b->(S b o\/w.heap.size<=b/\S2 b o)->S2 b o:=fun {b o} hb q=>q.elim (fun q=>absurd (h.bd _ _ q) (by omega)) (fun q=>q.2)
 have Vl:SR P 1 (Gh.inner (fun _=>False) S w G.l 0 fun _=>none) ⟨fun _=>.top,fun i=>bif Nat.beq i bJ then dJ wr T e sl else .none,.none,0,[]⟩ a0 w'
   (fun i=>bif Nat.beq i bJ then ρ2 0 else none) (fun b o=>S b o\/w.heap.size<=b/\S2 b o) (fun _=>False):=by
  refine ⟨rfl,trivial,fun _=>trivial,fun i=>?_,fun i j b' hi hj=>?_,⟨q1.ext.size,fun b o q=>.inl q,fun b o q=>q1.ext.same b o (h.bd _ _ q),fun b o es c q m=>q1.ext.maps b o es c (h.bd _ _ q) m,fun b o q=>q.elim (fun q=>Nat.lt_of_lt_of_le (h.bd _ _ q) q1.ext.size) (fun q=>q1.ext.bd _ _ q.2),q1.ext.pl⟩,fun b o q=>q.imp (fun x=>x) (fun x=>.inl x.1),
   q1.same.mono fun b q=>⟨q.1,q.2.1,q.2.2⟩,⟨false,⟨0,fun _=>()⟩,rfl,[],List.nil_prefix,trivial⟩,fun _ q=>q.elim,fun _ _ q=>q,fun _ q=>q,fun _ _ _ _=>trivial,fun _ _ q=>by cases q⟩
  ·by_cases hi:i=bJ
   ·subst hi
    simp only [Nat.beq_refl,cond_true]
    cases wr with
    | true =>
     obtain ⟨g1,⟨g2,g3⟩ | ⟨b,arr,g2,g3,g4,g5,g6,g7⟩⟩:=cK
     ·exact ⟨g1,.inl ⟨by simp only [Nat.beq_refl,cond_true]; exact g2,g3⟩⟩
     ·exact ⟨g1,.inr ⟨b,arr,by simp only [Nat.beq_refl,cond_true]; exact g2,⟨.inl (hnew b g3),fun q=>q⟩,g4,g5,fun k hk=>let ⟨us,u1,u2,u3⟩:=g6 k hk; ⟨us,(Go.Dm.R.plain ql).2 ((Go.Dm.R.plain ql).1 u1),u2,u3⟩,fun o q=>g7 o (avy (hnew b g3) q)⟩⟩
    | false =>
     rcases cK with ⟨g2,g3⟩ | ⟨b,g2,g3,g4,g5,g6⟩
     ·exact .inl ⟨by simp only [Nat.beq_refl,cond_true]; exact g2,g3⟩
     ·exact .inr ⟨b,by simp only [Nat.beq_refl,cond_true]; exact g2,⟨.inl (hnew b g3),fun q=>q⟩,g4,g5,fun o q=>g6 o (avy (hnew b g3) q)⟩
   ·simp only [bF hi,cond_false]; trivial
  ·by_cases hi':i=bJ
   ·by_cases hj':j=bJ
    ·rw [hi',hj']
    ·have hj:=hj.lv; simp only [bF hj',cond_false] at hj; exact hj.elim
   ·have hi:=hi.lv; simp only [bF hi',cond_false] at hi; exact hi.elim
 have iO:=h.back hG (D:=fun i=>Nat.beq i bJ) Vl (fun b hb=>hb.elim) (fun id hn=>by
   cases hb:Nat.beq id bJ with
   | true=>rfl
   | false=>simp only [hb,cond_false] at hn; exact absurd rfl hn)
  (fun id hid=>by rw [Nat.eq_of_beq_eq_true hid,hno]; trivial) (fun id b hid hb=>by have:=hG.ic id b hb; have:=Nat.eq_of_beq_eq_true hid; omega)
 refine ⟨v,_,_,rfl,iO.of_eq rfl ?_ rfl rfl,?_⟩
 ·funext i
  show cE s.heap [(bJ,dJ wr T e sl)] i=eI (fun i=>Nat.beq i bJ) (fun i=>bif Nat.beq i bJ then dJ wr T e sl else .none) s.heap i
  by_cases hi:i=bJ
  ·subst hi; simp [cE,aE,eI]
  ·simp [cE,aE,eI,bF hi]
 ·have hh:cE s.heap [(bJ,dJ wr T e sl)] bJ=dJ wr T e sl:=by simp [cE,aE]
  have h00:cE s0.heap [(0,dJ wr T e sl)] 0=dJ wr T e sl:=by simp [cE,aE]
  have atH:dU (fun i=>Nat.beq i bJ) (fun i=>bif Nat.beq i bJ then ρ2 0 else none) ρ bJ=ρ2 0:=by simp [dU]
  cases wr with
  | true =>
   obtain ⟨r1,r2,r3⟩:=(show RC P G0.Y S2 w' (cE s0.heap [(0,dJ true T e sl)]) ρ2 (.row 0 0) v from q2)
   refine ⟨by rw [hh]; simp [dJ],r2,fun cur T' e' s' hd=>?_⟩
   rw [hh] at hd
   obtain ⟨r4,r5⟩:=r3 cur T' e' s' (h00.trans hd)
   refine ⟨r4,fun q=>?_⟩
   have:=r5 q
   unfold DI at this ⊢
   rw [atH]; exact this
  | false =>
   obtain ⟨r1,r2,cur,T',k,m,r3,r4,r5⟩:=(show RC P G0.Y S2 w' (cE s0.heap [(0,dJ false T e sl)]) ρ2 (.own 0 0 e sl) v from q2)
   rw [h00] at r3
   have Ls:0=cur:=by simp only [dJ] at r3; cases r3; rfl
   obtain ⟨r6,r7,r8⟩:=r5 Ls
   refine ⟨?_,r2,cur,T',k,m,hh.trans r3,r4,fun q=>⟨r6,r7,?_⟩⟩
   ·rcases r1 with r1 | ⟨b,o,cap,g1,g2,g3,g4⟩
    ·exact .inl r1
    ·refine .inr ⟨b,o,cap,g1,g2,g3,fun i hi=>?_⟩
     obtain ⟨us,u1,u2,u3⟩:=g4 i hi
     rcases r8 with ⟨_,k0,_⟩ | ⟨b2,uc,cr,k1,k2,_⟩
     ·have hi:i < sl.n:=hi
      omega
     ·have xh:b2=b:=by
       have g1:=(List.cons.inj g1).1
       rw [k2] at g1; cases g1; rfl
      subst xh
      have hw:w.heap.size<=b2:=by
       rcases cK with ⟨z1,_⟩ | ⟨b3,z1,z2,_⟩
       ·rw [k1] at z1; cases z1
       ·rw [k1] at z1; cases z1; exact hnew _ z2
      exact ⟨us,(Go.Dm.R.plain ql).2 ((Go.Dm.R.plain ql).1 u1),u2,fun j x hx=>⟨.inr ⟨hw,(u3 j x hx).1⟩,(u3 j x hx).2⟩⟩
   ·rw [atH]; exact r8
end Go.Dm
namespace Go.Dm
open Go.RowKit
variable {P:Program} {N:Nat} {G:Gh} {S S':CS} {w w':World} {s:St} {a:Act} {ρ ρ':fA} {F F':Nat->Prop} {heap heap':Nat->bu} {Y:Value} {E:cg} {Γ:Ctx}
theorem Wb:∀ {m:Nat} {τ:Ty} {y:(tO m τ).den} {z:(AN m τ).den} {us zs:List Value},R P (tO m τ) S w y us->R P (AN m τ) S w z zs->R P τ S w (Po m τ y z) (us ++ zs)
 | 0,τ,y,z,us,zs,h,h'=>by
  rw [show us=[] from h]; exact h'
 | m + 1,.cons hd t,y,z,us,zs,h,h'=>by
  obtain ⟨u,ws,rfl,h1,h2⟩:=h
  exact ⟨u,ws ++ zs,rfl,h1,Wb (m:=m) (τ:=t) h2 h'⟩
 | _ + 1,.int _,y,z,us,zs,h,h'=>by rw [show us=[] from h]; exact h'
 | _ + 1,.bool,y,z,us,zs,h,h'=>by rw [show us=[] from h]; exact h'
 | _ + 1,.sl _,y,z,us,zs,h,h'=>by rw [show us=[] from h]; exact h'
 | _ + 1,.ptr _,y,z,us,zs,h,h'=>by rw [show us=[] from h]; exact h'
 | _ + 1,.agg _,y,z,us,zs,h,h'=>by rw [show us=[] from h]; exact h'
 | _ + 1,.nil,y,z,us,zs,h,h'=>by rw [show us=[] from h]; exact h'
 | _ + 1,.fn _ _,y,z,us,zs,h,h'=>by rw [show us=[] from h]; exact h'
 | _ + 1,.seq _,y,z,us,zs,h,h'=>by rw [show us=[] from h]; exact h'
 | _ + 1,.map _ _,y,z,us,zs,h,h'=>by rw [show us=[] from h]; exact h'
 | _ + 1,.vl,y,z,us,zs,h,h'=>by rw [show us=[] from h]; exact h'
def PB (P:Program) (f:FuncId) (c:Con) (us:List Value) (S:CS) (w:World):Prop:=
 ∀ S' w',Ext0 S w S' w'->∀ (x:c.args.den) vs,c.pre x=true->R P c.args S' w' x vs ->
  Calls P f (us ++ vs).toArray w' (fun e w''=>∃ Ii rs,e = .returned (pack rs)/\R P c.res Ii w'' (c.fn x) rs/\Ext S' w' Ii w''/\Below w'.heap.size w' w'')
theorem vL {f:FuncId}:∀ {ss:List Slot} {vs us:List Value} {c c':Con},xq c ss=some c'->ss.length=vs.length ->
  (∀ (j:Nat) (d:Slot) (u:Value),ss[j]? = some d->vs[j]? = some u->RS P Y S w heap ρ d u)->PB P f c us S w->PB P f c' (us ++ vs) S w
 | [],[],us,c,c',h,_,_,hc=>by
  simp only [xq,Option.some.injEq] at h
  subst h
  rw [List.append_nil]; exact hc
 | [],_ :: _,_,_,_,_,hl,_,_=>by simp at hl
 | _ :: _,[],_,_,_,_,hl,_,_=>by simp at hl
 | d :: ss,v :: vs,us,c,c',h,hl,hr,hc=>by
  obtain ⟨τ,res,pre,fn⟩:=c
  cases τ <;> try (simp only [xq] at h; cases h; done)
  rename_i hd t
  simp only [xq] at h
  cases hx:ej hd d with
  | none=>rw [hx] at h; cases h
  | some x =>
   rw [hx] at h
   have h1:=kO (hr 0 d v rfl rfl) hx
   have:=vL (us:=us ++ [v]) (vs:=vs) h (by simpa using hl) (fun j d u q1 q2=>hr (j + 1) d u (by simpa using q1) (by simpa using q2)) (fun S' w' ex y ws hp hy=>by
    have:=hc S' w' ex (x,y) (v :: ws) hp ⟨v,ws,rfl,h1.mono ex,hy⟩
    rw [List.append_assoc]; exact this)
   rw [List.append_assoc] at this
   exact this
theorem od:∀ {sl:List Slot} {us:List Value} {ids:List Nat},sj sl=some ids->sl.length=us.length->(∀ (j:Nat) (d:Slot) (u:Value),sl[j]? = some d->us[j]? = some u->RS P Y S w heap ρ d u)->dn heap ρ ids us
 | [],[],ids,h,_,_=>by cases h; trivial
 | [],_ :: _,_,_,hl,_=>by simp at hl
 | _ :: _,[],_,_,hl,_=>by simp at hl
 | d :: r,u :: us,ids,h,hl,hr=>by
  unfold sj at h
  split at h
  ·rename_i hh; cases hh
  ·rename_i id r' hh
   cases hh
   cases hb:sj r with
   | none=>rw [hb] at h; cases h
   | some is =>
    rw [hb] at h
    cases h
    exact ⟨hr 0 _ _ rfl rfl,od hb (by simpa using hl) fun j d u h1 h2=>hr (j + 1) d u (by simpa using h1) (by simpa using h2)⟩
  ·cases h
theorem Bq (hΓ:Sound P Γ) {o:Oper} {Q:Exit->Act->World->Prop} (h:SR P N G s a w ρ S F) (hd:o.dst.all (Nat.blt · N)=true) {f:FuncId} {first caps:Array Operand}
  (hop:o.op = .makeFunc (.func f) first caps) {e:mV} (he:(xx Γ f (first.toList.map (val Γ s.env)) (caps.toList.map (val Γ s.env))).run id=some e) :
  o.wp P a w (sZ P N G o s e) Q:=by
 have hex:(execOp a.eval o).run P w = .ok (.value (.func (.func f) (first.map a.eval) (caps.map a.eval))) w:=by simp [execOp,hop,Instr.makeFunc]
 unfold xx at he
 split at he
 ·rename_i c hf
  obtain ⟨gY,IG⟩:=hΓ f _ hf
  unfold aim at he
  split at he
  case h_2=>cases he
  rename_i c' h1
  split at he
  case h_2=>cases he
  rename_i z hz
  cases he
  have Lp:=vL (P:=P) (Y:=G.Y) (S:=S) (w:=w) (heap:=s.heap) (ρ:=ρ) (f:=f) (us:=[]) (vs:=first.toList.map a.eval) h1 (by simp) (eX hΓ h first.toList) (fun S' w' ex x vs hp hx=>IG S' w' ex.bd x vs hp hx)
  have hzr:=fO (us:=caps.toList.map a.eval) (by simp) (eX hΓ h caps.toList) hz
  refine bt h hd hex ⟨rfl,f,first.map a.eval,caps.map a.eval,rfl,gY,fun S' w' ex y us hp hy=>?_⟩
  have:=Lp S' w' ex _ _ hp (Wb hy (hzr.mono ex))
  have e1:first.map a.eval ++ us.toArray ++ caps.map a.eval=([] ++ first.toList.map a.eval ++ (us ++ caps.toList.map a.eval)).toArray:=by apply Array.ext'; simp
  rw [e1]
  exact this
 ·rename_i c hf
  obtain ⟨gY,IG⟩:=hΓ f _ hf
  split at he
  case h_2=>cases he
  rename_i x y hx hy
  simp only [kN,Br.run,er,bad] at he
  cases hb:c.pre x y with
  | false=>rw [hb] at he; cases he
  | true =>
   rw [hb] at he
   cases he
   have hxr:=fO (us:=first.toList.map a.eval) (by simp) (eX hΓ h first.toList) hx
   have hyr:=fO (us:=caps.toList.map a.eval) (by simp) (eX hΓ h caps.toList) hy
   refine bt h hd hex ⟨rfl,f,first.map a.eval,caps.map a.eval,rfl,gY,fun S' w' ex=>?_⟩
   have:=IG S' w' ex.bd x y _ _ hb (hxr.mono ex) (hyr.mono ex)
   rw [show first.map a.eval=(first.toList.map a.eval).toArray by apply Array.ext'; simp,show caps.map a.eval=(caps.toList.map a.eval).toArray by apply Array.ext'; simp]
   exact this
 ·rename_i app hf
  obtain ⟨gY,_⟩:=hΓ f _ hf
  have hca:caps.map a.eval=(caps.toList.map a.eval).toArray:=by apply Array.ext'; simp
  split at he
  ·rename_i τ x cs Lt hcs
   split at he
   case h_2=>cases he
   rename_i ids alU
   cases he
   have alV:first = #[]:=by
    have:first.toList=[]:=by simpa using Lt
    simpa using this
   obtain ⟨c0,cl,hc0,hc1,hc2⟩:=List.map_eq_cons_iff.1 hcs
   have hall:=eX hΓ h caps.toList
   rw [hc0] at hall
   have h0:RS P G.Y S w s.heap ρ (.v (.pc (.ptr τ) x)) (a.eval c0):=hall 0 _ _ (by rw [List.map_cons,hc1]; rfl) rfl
   have h0:R P (.ptr τ) S w x [a.eval c0]:=h0.2
   refine bt h hd hex ⟨gY,a.eval c0,cl.map a.eval,?_,h0,?_⟩
   ·rw [alV,hca,hc0,Array.map_empty]; rfl
   ·refine od (P:=P) (Y:=G.Y) (S:=S) (w:=w) (sl:=cs) alU (by rw [<- hc2]; simp) fun j d u h1 h2=>?_
    rw [<- hc2] at h1
    exact hall (j + 1) d u (by simpa using h1) (by simpa using h2)
  ·rename_i Lt _
   split at he
   case h_2=>cases he
   rename_i ids alU
   cases he
   have alV:first = #[]:=by
    have:first.toList=[]:=by simpa using Lt
    simpa using this
   refine bt h hd hex ⟨gY,caps.toList.map a.eval,?_,od alU (by simp) (eX hΓ h caps.toList)⟩
   rw [alV,hca,Array.map_empty]
  ·cases he
 ·cases he
 ·cases he
 ·cases he
end Go.Dm
namespace Go.Dm
open Go.RowKit
variable {P:Program} {N:Nat} {G:Gh} {S S':CS} {w w':World} {s:St} {a:Act} {ρ ρ':fA} {F F':Nat->Prop} {heap heap':Nat->bu} {Y:Value} {E:cg} {Γ:Ctx}
theorem EL (hG:G.Ok P) {o:Oper} {Q:Exit->Act->World->Prop} (h:SR P N G s a w ρ S F) (hd:o.dst.all (Nat.blt · N)=true) {T:TypeId} {sx x:Operand}
  (hop:o.op = .call { callee:=.builtin .append,args:=#[sx,x],argTypes:=#[T,T] }) {bJ:Nat} (hlo:G.lo<=bJ)
  {ss xs:Slot} (hs:RS P G.Y S w s.heap ρ ss (a.eval sx)) (hx:RS P G.Y S w s.heap ρ xs (a.eval x)) {rw:Bool} {e:mV} (he:(sg P rw G.lo bJ s.heap T ss xs).run id=some e) :
  o.wp P a w (sZ P N G o s e) Q:=by
 unfold sg at he
 split at he
 case h_2=>cases he
 rename_i El τ y hu hrow
 split at he
 case h_2=>cases he
 rename_i i hi
 split at he
 ·-- no cells yet
  rename_i hc
  simp only [Bool.and_eq_true,Nat.blt_eq] at hc
  obtain ⟨⟨⟨⟨c1,c2⟩,c3⟩,c4⟩,c5⟩:=hc
  have c1:=Nat.eq_of_beq_eq_true c1
  obtain ⟨z,hz,hzs⟩:∃ z,i.zero=some z/\z.cells.size=i.size:=by
   have c4:=of_decide_eq_true c4
   cases hq:i.zero with
   | none=>rw [hq] at c4; cases c4
   | some z=>rw [hq] at c4; exact ⟨z,rfl,by simpa using c4⟩
  split at he
  case h_2=>cases he
  rename_i hn
  simp only [Br.run,er,bad] at he
  cases hb:decide (y.n * i.bytes<=140737488355328) with
  | false=>simp only [hb,cond_false] at he; cases he
  | true =>
   simp only [hb,cond_true,id] at he
   have hb:=of_decide_eq_true hb
   obtain ⟨a0,alW⟩:∃ a0,a.eval sx = .slice a0 0 0:=hs
   have hy:=nT hx hrow
   have avz:cj (⟨0,y.g⟩:Sl τ.den) y=y:=by
    unfold cj
    cases y
    simp only [Nat.zero_add,Sl.mk.injEq,true_and]
    funext i
    have:Nat.blt i 0=false:=by rw [<- Bool.not_eq_true,Nat.blt_eq]; omega
    simp [this]
   cases rw with
   | true =>
    cases he
    have key:=EI (P:=P) (Q:=Q) hG h hd hop hu hi hz c1 c2 c3 hzs c5 (r:=⟨0,y.g⟩) (y:=y) hy (by simpa using hb)
     (id:=bJ) (cur':=0) hlo (.inl hn) (xs:=[]) (by simp) (fun j hj=>absurd hj (Nat.not_lt_zero _)) (p:=true) (.inl ⟨rfl,⟨a0,alW⟩,rfl⟩) (rh:=[bJ])
    rw [avz] at key
    exact key
   | false =>
   cases he
   have key:=xD (P:=P) (Q:=Q) hG h hd hop hu hi hz c1 c2 c3 hzs c5 (r:=⟨0,y.g⟩) (y:=y) (by rw [alW]; exact .inl ⟨rfl,_,_,rfl⟩) hy (by simpa using hb)
    (id:=bJ) (cur':=0) (.inl ⟨hn,hlo⟩) (p:=true) (.inl ⟨rfl,⟨a0,alW⟩,rfl⟩) (rh:=[bJ])
   rw [avz,Nat.zero_add] at key
   exact key
 ·rename_i id bG e' r hc
  simp only [Bool.and_eq_true,Nat.blt_eq] at hc
  obtain ⟨⟨⟨⟨c1,c2⟩,c3⟩,c4⟩,c5⟩:=hc
  have c1:=Nat.eq_of_beq_eq_true c1
  obtain ⟨z,hz,hzs⟩:∃ z,i.zero=some z/\z.cells.size=i.size:=by
   have c4:=of_decide_eq_true c4
   cases hq:i.zero with
   | none=>rw [hq] at c4; cases c4
   | some z=>rw [hq] at c4; exact ⟨z,rfl,by simpa using c4⟩
  split at he
  case h_2=>cases he
  rename_i Ld E' k n r' ho hcast
  obtain ⟨heq,hr'⟩:=bY hcast
  have he':e'=τ:=by injection heq
  subst he'
  obtain rfl:r'=r:=hr'
  split at he
  case h_2=>cases he
  rename_i zm
  simp only [Bool.and_eq_true] at zm
  obtain ⟨⟨d1,d2⟩,d3⟩:=zm
  have d1:=Nat.eq_of_beq_eq_true d1
  have d2:=Nat.eq_of_beq_eq_true d2
  have d3:=Nat.eq_of_beq_eq_true d3
  subst d1 d2 d3
  simp only [Br.run,er,bad] at he
  cases hb:decide ((r'.n + y.n) * i.bytes<=140737488355328) with
  | false=>simp only [hb,cond_false] at he; cases he
  | true =>
   simp only [hb,cond_true,_root_.id] at he
   cases he
   have hb:=of_decide_eq_true hb
   have hy:=nT hx hrow
   obtain ⟨hr,hf,cur,T',k',n',q1,q2,q3⟩:=hs
   rw [ho] at q1
   cases q1
   obtain ⟨p0,p1,p3⟩:=q3 rfl
   subst p0
   have cK:=h.obj id
   rw [ho] at cK
   rcases p3 with ⟨p3,p4,a0,p5⟩ | ⟨b,cap,cur,p3,p4,p5,p6,p7,p8⟩
   ·exact xD (P:=P) (Q:=Q) hG h hd hop hu hi hz c1 c2 c3 hzs c5 (r:=r') (y:=y) hr hy hb (id:=id) (cur':=bG + 1) (.inr ⟨bG,_,ho,by omega⟩) (p:=true) (.inl ⟨rfl,⟨a0,p5⟩,p4⟩)
   ·rcases cK with ⟨hn,_⟩ | ⟨b',hb',hb2,hb3,_,hb4⟩
    ·rw [p3] at hn; cases hn
    ·rw [p3] at hb'; cases hb'
     exact xD (P:=P) (Q:=Q) hG h hd hop hu hi hz c1 c2 c3 hzs c5 (r:=r') (y:=y) hr hy hb (id:=id) (cur':=bG + 1) (.inr ⟨bG,_,ho,by omega⟩) (p:=false)
      (.inr ⟨rfl,b,cap,cur,by rw [ho]; trivial,p3,p4,p5,p6,p7,p8,hb4⟩)
 ·-- a row that may be written
  rename_i id bG hc
  simp only [Bool.and_eq_true,Nat.blt_eq] at hc
  obtain ⟨⟨⟨⟨c1,c2⟩,c3⟩,c4⟩,c5⟩:=hc
  have c1:=Nat.eq_of_beq_eq_true c1
  obtain ⟨z,hz,hzs⟩:∃ z,i.zero=some z/\z.cells.size=i.size:=by
   have c4:=of_decide_eq_true c4
   cases hq:i.zero with
   | none=>rw [hq] at c4; cases c4
   | some z=>rw [hq] at c4; exact ⟨z,rfl,by simpa using c4⟩
  split at he
  case h_2=>cases he
  rename_i Ld E' e' r ho
  split at he
  case h_2=>cases he
  rename_i r' hcast
  obtain ⟨heq,hr'⟩:=bY hcast
  have he':e'=τ:=by injection heq
  subst he'
  obtain rfl:r'=r:=hr'
  split at he
  case h_2=>cases he
  rename_i zm
  simp only [Bool.and_eq_true] at zm
  obtain ⟨⟨d0,d1⟩,d2⟩:=zm
  have d1:=Nat.eq_of_beq_eq_true d1
  have d2:=Nat.eq_of_beq_eq_true d2
  subst d1 d2
  simp only [Br.run,er,bad] at he
  cases hb:decide ((r'.n + y.n) * i.bytes<=140737488355328) with
  | false=>simp only [hb,cond_false] at he; cases he
  | true =>
   simp only [hb,cond_true,_root_.id] at he
   cases he
   have hb:=of_decide_eq_true hb
   have hy:=nT hx hrow
   obtain ⟨_,_,h3⟩:=hs
   have cK:=h.obj id
   rw [ho] at cK
   obtain ⟨⟨hfl,hpos⟩,cK⟩:=cK
   rcases (h3 _ _ _ _ ho).2 rfl with ⟨p2,a0,p3⟩ | ⟨b,cap,p1,p2,p3,p4,_,p5⟩
   ·exact EI (P:=P) (Q:=Q) hG h hd hop hu hi hz c1 c2 c3 hzs c5 (r:=r') (y:=y) hy hb (id:=id) (cur':=bG + 1) (Nat.le_of_ble_eq_true d0) (.inr ⟨bG,_,ho,by omega⟩)
     (xs:=[]) (by rw [p2]; simp) (fun j hj=>by omega) (p:=true) (.inl ⟨rfl,⟨a0,p3⟩,p2⟩)
   ·rcases cK with ⟨q1,_⟩ | ⟨b',arr,q1,q2,q3,q4,q5,q6⟩
    ·rw [p1] at q1; cases q1
    rw [p1] at q1; cases q1
    have hlen:(arr.toList.take (r'.n * e'.cells)).length=r'.n * e'.cells:=by simp; omega
    refine EI (P:=P) (Q:=Q) hG h hd hop hu hi hz c1 c2 c3 hzs c5 (r:=r') (y:=y) hy hb (id:=id) (cur':=bG + 1) (Nat.le_of_ble_eq_true d0) (.inr ⟨bG,_,ho,by omega⟩)
     (xs:=arr.toList.take (r'.n * e'.cells)) hlen (fun j hj=>?_) (p:=false) (.inr ⟨rfl,b,cap,arr,by rw [ho]; trivial,p1,q6,p2,p3,p4,q3,p5 _ _ _ q3,rfl⟩)
    obtain ⟨us,u1,u2,u3⟩:=q5 j hj
    have aX7:j * e'.cells + e'.cells<=r'.n * e'.cells:=by rw [<- Nat.succ_mul]; exact Nat.mul_le_mul_right _ hj
    have:chunk e'.cells j (arr.toList.take (r'.n * e'.cells))=us:=by
     apply List.ext_getElem?
     intro q
     unfold chunk
     rw [List.getElem?_take]
     split
     ·rename_i hq
      rw [List.getElem?_drop,List.getElem?_take,if_pos (by omega),Array.getElem?_toList]
      rw [u3 q us[q] (List.getElem?_eq_getElem (by omega)),List.getElem?_eq_getElem (by omega)]
     ·rw [List.getElem?_eq_none (by omega)]
    rw [this]; exact u1
 ·cases he
theorem vM {o:Oper} {Q:Exit->Act->World->Prop} (h:SR P N G s a w ρ S F) (hd:o.dst.all (Nat.blt · N)=true) {x y:Operand} {least:Bool}
  {sx sy:Slot} (hx:RS P G.Y S w s.heap ρ sx (a.eval x)) (hy:RS P G.Y S w s.heap ρ sy (a.eval y))
  (hrun:∀ k k' (m n:Int),a.eval x = .int k m->a.eval y = .int k' n->(execOp a.eval o).run P w = .ok (.value (.int k (match least with | true=>if n < m then n else m | false=>if n > m then n else m))) w)
  {e:mV} (he:(zK least sx sy).run id=some e) :
  o.wp P a w (sZ P N G o s e) Q:=by
 unfold zK at he
 split at he
 ·rename_i k m k' n
  cases he
  exact bt h hd (hrun _ _ _ _ (ij hx) (ij hy)) (fX _ _)
 ·cases he
theorem DP (hΓ:Sound P Γ) (hE:fB P E.eq) (hKS:dN P E.key) (hG:G.Ok P) {o:Oper} {Q:Exit->Act->World->Prop} (h:SR P N G s a w ρ S F) (hd:o.dst.all (Nat.blt · N)=true)
  {base:Nat} {e:mV} (he:(vm P E Γ G.lo base o s.env s.heap).run id=some e) :
  o.wp P a w (sZ P N G o s e) Q:=by
 have hv:=xB hΓ h
 unfold vm at he
 dsimp only at he
 split at he
 ·rename_i x hop
  cases he
  exact bt h hd (by simp only [execOp,hop]; rfl) (hv x)
 ·rename_i x hop
  cases he
  exact bt h hd (by simp only [execOp,hop]; rfl) (hv x)
 ·rename_i c x y hop
  split at he
  case h_2=>cases he
  rename_i t hc
  have Vk:=hv c
  rw [hc] at Vk
  have Vk:=nU Vk
  cases t with
  | true =>
   simp only [Br.run,cV,er,cond_true,id] at he
   cases he
   exact bt h hd (v:=a.eval x) (by simp [execOp,hop,Vk,asBool]) (hv x)
  | false =>
   simp only [Br.run,cV,er,cond_false,id] at he
   cases he
   exact bt h hd (v:=a.eval y) (by simp [execOp,hop,Vk,asBool]) (hv y)
 ·rename_i t x hop
  split at he
  case h_2=>cases he
  rename_i cs hlo hcs hn
  cases he
  exact Pu hG h hd hn (Nat.le_of_ble_eq_true hlo) (arr:=(a.eval x).cells) (T:=t) (gq G.jS (hv x) hcs) (by simp [execOp,hop,Instr.box,newVar,newRow])
 ·rename_i t hop
  split at he
  case h_2=>cases he
  rename_i cs hlo hcs hn
  cases he
  obtain ⟨i,z,hi,hz,hr⟩:=qK hcs
  exact Pu hG h hd hn (Nat.le_of_ble_eq_true hlo) (arr:=z.cells) (T:=t) (hr G.jS) (by simp [execOp,hop,Instr.alloc,zeroValue,typeInfo,hi,hz,newVar,newRow])
 ·rename_i t ps hop
  split at he
  case h_2=>cases he
  rename_i cs hcs
  cases he
  obtain ⟨arr,hrun,hr⟩:=Sw (P:=P) (w:=w) (S:=S) (heap:=s.heap) (ρ:=ρ) G.jS (vs:=ps.map fun (i,x)=>(i,a.eval x)) (by simp) (Iq hΓ h ps) hcs
  exact bt h hd (v:=.agg arr) (by simp only [execOp,hop,Sem.run_bind,hrun,Result.andThen_ok,Sem.run_pure]) ⟨arr.toList,by simp,hr⟩
 ·rename_i t n ps hop
  split at he
  case h_2=>cases he
  rename_i hlo hno
  exact Bg hΓ hG h hd hop (Nat.le_of_ble_eq_true hlo) hno he
 ·rename_i t x hop
  have cP:=hv x
  unfold Vy at he
  have bx:∀ (id off:Nat),dS s.heap ρ id off (a.eval x)->(match s.heap id with | .box ds=>viewAt P t ds off [id] | _=>bad).run _root_.id=some e->o.wp P a w (sZ P N G o s e) Q:=by
   intro id off cP he
   split at he
   case h_2=>cases he
   rename_i ds ho
   obtain ⟨b,arr,T,hb,jm,hh,hr⟩:=vI h ho cP
   exact qJ h hd hop jm hr (b0:=0) (by simp) (fun j v hj=>by rw [Nat.zero_add]; exact qI hh j v hj) he
  split at he
  ·rename_i id off hx
   rw [hx] at cP
   exact bx id off cP he
  ·rename_i id off hx
   rw [hx] at cP
   exact bx id off cP he
  ·rename_i id bG i off hx
   rw [hx] at cP
   split at he
   case h_2=>cases he
   rename_i cur T el sl ho
   split at he
   case h_2=>cases he
   rename_i td
   cases Nat.eq_of_beq_eq_true td
   obtain ⟨b,us,jm,hr,hm⟩:=VS h cP ho
   exact qJ h hd hop jm hr rfl hm he
  ·rename_i id i hx
   rw [hx] at cP
   split at he
   case h_2=>cases he
   rename_i cur T el d ho
   obtain ⟨b,us,jm,hr,hm⟩:=VT h cP ho
   exact qJ h hd hop jm hr rfl hm he
  ·rename_i id bG i j off hx
   rw [hx] at cP
   split at he
   case h_2=>cases he
   rename_i cur T el d ho
   split at he
   case h_2=>cases he
   rename_i td
   cases Nat.eq_of_beq_eq_true td
   obtain ⟨b,us,jm,hr,hm⟩:=SC h cP ho
   exact qJ h hd hop jm hr rfl hm he
  ·rename_i el x' hx
   rw [hx] at cP
   split at he
   case h_2=>cases he
   rename_i hf
   obtain ⟨b,off,us,jm,u1,u2,u3⟩:=nW cP
   have jm:a.eval x = .pointer (some ⟨b,off,none⟩):=by simpa using jm
   exact qJ h hd hop jm (eH hf u1) (b0:=off) (by simp) (fun j v hj=>(u3 j v hj).2) he
  ·cases he
 ·rename_i t x y hop
  split at he
  case h_2=>cases he
  rename_i cs hcs
  have cP:=hv x
  unfold Le at he
  split at he
  ·rename_i id off hx
   rw [hx] at cP
   split at he
   case h_2=>cases he
   rename_i ds n ho hn
   simp only [Br.run,er,bad] at he
   cases hb:decide (cs.length=n/\off + cs.length<=ds.length) with
   | false=>simp only [hb,cond_false] at he; cases he
   | true =>
    simp only [hb,cond_true,_root_.id] at he
    cases he
    obtain ⟨h1,h2⟩:=of_decide_eq_true hb
    exact yB hG h hd hop cP (hv y) hcs ho hn h1 h2 (fun hr hc=>hr.splice hc off)
  ·rename_i id off hx
   rw [hx] at cP
   split at he
   case h_2=>cases he
   rename_i ds n ho hn
   simp only [Br.run,er,bad] at he
   cases hb:decide (cs.length=n/\off + cs.length<=ds.length) with
   | false=>simp only [hb,cond_false] at he; cases he
   | true =>
    simp only [hb,cond_true,_root_.id] at he
    cases he
    obtain ⟨h1,h2⟩:=of_decide_eq_true hb
    exact yB hG h hd hop cP (hv y) hcs ho hn h1 h2 (fun hr hc=>hr.vu hc h2)
  ·rename_i id bG i off hx
   rw [hx] at cP
   split at he
   case h_2=>cases he
   rename_i cur T el sl n ho hn
   split at he
   case h_2=>cases he
   rename_i x' hx'
   simp only [Br.run,er,bad] at he
   cases hb:(Nat.beq bG cur && decide (cs.length=n/\off + cs.length<=el.cells)) with
   | false=>simp only [hb,cond_false] at he; cases he
   | true =>
    simp only [hb,cond_true,_root_.id] at he
    cases he
    simp only [Bool.and_eq_true] at hb
    cases Nat.eq_of_beq_eq_true hb.1
    obtain ⟨h1,h2⟩:=of_decide_eq_true hb.2
    exact Bj hG h hd hop cP (hv y) hcs ho hn hx' h1 h2
  ·rename_i id bG i j off hx
   rw [hx] at cP
   split at he
   case h_2=>cases he
   rename_i cur T el sl n ho hn
   split at he
   case h_2=>cases he
   rename_i x' hx'
   simp only [Br.run,er,bad] at he
   cases hb:(Nat.beq bG cur && decide (cs.length=n/\off + cs.length<=el.cells)) with
   | false=>simp only [hb,cond_false] at he; cases he
   | true =>
    simp only [hb,cond_true,_root_.id] at he
    cases he
    simp only [Bool.and_eq_true] at hb
    cases Nat.eq_of_beq_eq_true hb.1
    obtain ⟨h1,h2⟩:=of_decide_eq_true hb.2
    exact zq hG h hd hop cP (hv y) hcs ho hn hx' h1 h2
  ·rename_i id i hx
   rw [hx] at cP
   split at he
   case h_2=>cases he
   rename_i tS bG cur T el d n ho hn
   split at he
   case h_2=>cases he
   rename_i Sq T2 e2 s2 Bm
   split at he
   case h_2=>cases he
   rename_i s3 hcast zm
   simp only [Bool.and_eq_true] at zm
   obtain ⟨⟨d1,d2⟩,d3⟩:=zm
   cases Nat.eq_of_beq_eq_true d1
   cases Nat.eq_of_beq_eq_true d2
   cases Nat.eq_of_beq_eq_true d3
   obtain ⟨heq,hr'⟩:=bY hcast
   have he':e2=el:=by injection heq
   subst he'
   obtain rfl:s3=s2:=hr'
   cases he
   have hyv:=hv y
   have hsy:∃ sl,val Γ s.env y=sl/\dI sl=some [.row tS bG]:=⟨_,rfl,hcs⟩
   obtain ⟨sl,e1,e2'⟩:=hsy
   rw [e1] at hyv
   cases sl with
   | v dd =>
    cases e2'
    exact qN hG h hd hop cP hyv (vE (RC.jV (P:=P) (S:=S) G.jS (d:=.row tS bG) hyv)) ho Bm hn
   | agg ds =>
    cases e2'
    obtain ⟨us,hev,hrl⟩:=hyv
    cases us with
    | nil=>have:=hrl.1; cases this
    | cons u us =>
     obtain ⟨r1,r2⟩:=hrl.of_cons
     have:=r2.1
     cases us with
     | cons _ _=>cases this
     | nil=>exact qN hG h hd hop cP r1 (by rw [hev]; rfl) ho Bm hn
   | _=>cases e2'
  ·cases he
 ·rename_i t x f hop
  split at he
  case h_2=>cases he
  rename_i fs hu
  split at he
  case h_2=>cases he
  rename_i fd hf
  split at he
  case h_2=>cases he
  rename_i n hn
  exact zn h hd hop hu hf hn (hv x) he
 ·rename_i t x f hop
  split at he
  case h_2=>cases he
  rename_i fs hu
  split at he
  case h_2=>cases he
  rename_i fd ds hf hx
  have cP:=hv x
  rw [hx] at cP
  exact ID h hd hop hu hf cP he
 ·rename_i t x i hop
  exact zk h hd hop (hv x) (hv i) he
 ·rename_i t x i hop
  split at he
  case h_2=>cases he
  rename_i len el ds k n hu hx hi
  have cP:=hv x
  rw [hx] at cP
  have hiv:=hv i
  rw [hi] at hiv
  split at he
  case h_2=>cases he
  rename_i c hsz
  simp only [Br.run,bad] at he
  cases hb:decide ((show Int from n) < len/\0<=(show Int from n)) with
  | false=>simp only [hb,cond_false] at he; cases he
  | true =>
   simp only [hb,cond_true] at he
   obtain ⟨b1,b2⟩:=of_decide_eq_true hb
   exact IC h hd hop hu cP (ij hiv) hsz ⟨b2,b1⟩ he
 ·rename_i t n hop
  split at he
  ·rename_i τ x ht
   have htv:=hv t
   rw [ht] at htv
   obtain ⟨us,sB,hr⟩:=htv
   cases hu:us[n]? with
   | some u =>
    split at he
    ·cases he
     exact bt h hd (v:=u) (by simp [execOp,hop,sB,Instr.extract,hu]) (Ll hr hu)
    ·cases he
   | none =>
    have hnt:=EE hr hu
    rw [hnt] at he
    cases he
  ·rename_i b ht
   have htv:=hv t
   rw [ht] at htv
   obtain ⟨u,sB⟩:=htv
   split at he
   ·cases he
    exact bt h hd (v:=u) (by simp [execOp,hop,sB,Instr.extract]) trivial
   ·cases he
    exact bt h hd (v:=.bool b) (by simp [execOp,hop,sB,Instr.extract]) (dQ _)
   ·cases he
  ·rename_i ds τ x ht
   have htv:=hv t
   rw [ht] at htv
   obtain ⟨us,us2,sB,hrl,hr⟩:=htv
   split at he
   ·cases he
    exact bt h hd (v:=.agg us.toArray) (by simp [execOp,hop,sB,Instr.extract]) ⟨us,rfl,hrl⟩
   ·rename_i n
    cases hu:us2[n]? with
    | some u =>
     split at he
     ·cases he
      exact bt h hd (v:=u) (by simp [execOp,hop,sB,Instr.extract,hu]) (Ll hr hu)
     ·cases he
    | none =>
     have hnt:=EE hr hu
     rw [hnt] at he
     cases he
  ·cases he
 ·rename_i op t x y t' hop
  exact Iw hE h hd hop (hv x) (hv y) he
 ·rename_i op t x hop
  have cP:=hv x
  unfold ail at he
  split at he
  ·rename_i k n hx
   rw [hx] at cP
   cases he
   exact bt h hd (v:=.int k (k.wrap (0 - n))) (by simp [execOp,hop,ij cP,Op.unary,Op.intArith]) (fX _ _)
  ·rename_i b hx
   rw [hx] at cP
   cases he
   exact bt h hd (v:=.bool (!b)) (by simp [execOp,hop,nU cP,Op.unary]) (dQ _)
  ·cases he
 ·rename_i src dst x hop
  split at he
  case h_2=>cases he
  rename_i d k k' n hs hu hx
  have cP:=hv x
  rw [hx] at cP
  cases he
  refine bt h hd (v:=.int k (k.wrap n)) ?_ (fX _ _)
  have hc:(convert src dst (.int k' n)).run P w = .ok (.int k (k.wrap n)) w:=by
   unfold convert
   simp only [Sem.run_bind,run_underlying hs,run_underlying hu,Result.andThen_ok]
   cases d <;> simp [Conv.intToInt]
  simp only [execOp,hop,ij cP,Sem.run_bind,hc,Result.andThen_ok,Sem.run_pure]
 ·rename_i t l c hop
  split at he
  case h_2=>cases he
  rename_i hlo
  exact zo hG h hd hop (Nat.le_of_ble_eq_true hlo) (hv l) he
 ·rename_i t r hop
  split at he
  case h_2=>cases he
  rename_i hlo
  exact Di hG h hd hop (Nat.le_of_ble_eq_true hlo) he
 ·rename_i t x l hi m hop
  split at he
  case h_2=>cases he
  split at he
  ·rename_i id bG i n hx
   have cP:=hv x
   rw [hx] at cP
   exact Bl h hd hop cP hv he
  ·exact IE h hd hop (hv x) hv he
 ·rename_i t x i ok hop
  exact EJ hKS h hd hop (hv x) (hv i) he
 ·rename_i t x i y hop
  exact zu hKS hG h hd hop (hv x) (hv i) (hv y) he
 ·rename_i t x hop
  split at he
  ·cases he
  ·rename_i dsc hni hu
   split at he
   case h_2=>cases he
   rename_i τ hτ
   split at he
   case h_2=>cases he
   rename_i d hd'
   cases he
   refine bt h hd (v:=.iface t (a.eval x)) ?_ ⟨_,rfl,kO (hv x) hd'⟩
   simp only [execOp,hop,Instr.makeInterface,Sem.run_bind,run_underlying hu,Result.andThen_ok]
   cases dsc <;> first | rfl | (exact absurd rfl (hni _))
  ·cases he
 ·rename_i x hop
  have cP:=hv x
  unfold DH at he
  split at he
  ·rename_i el d hx
   rw [hx] at cP
   cases he
   obtain ⟨b,off,us,jm,_⟩:=nW cP
   have jm:a.eval x = .pointer (some ⟨b,off,none⟩):=by simpa using jm
   exact bt h hd (v:=.pointer (some ⟨b,off,none⟩)) (by simp [execOp,hop,jm]) (jm ▸ cP)
  ·rename_i a' r d hx
   rw [hx] at cP
   cases he
   obtain ⟨f,first,caps,jm,_⟩:=nW cP
   have jm:a.eval x = .func (.func f) first caps:=by simpa using jm
   exact bt h hd (v:=.func (.func f) first caps) (by simp [execOp,hop,jm]) (jm ▸ cP)
  ·rename_i el d hx
   rw [hx] at cP
   cases he
   obtain ⟨f,first,caps,jm,_⟩:=nW cP
   have jm:a.eval x = .func (.func f) first caps:=by simpa using jm
   exact bt h hd (v:=.func (.func f) first caps) (by simp [execOp,hop,jm]) (jm ▸ cP)
  ·rename_i id off hx
   rw [hx] at cP
   cases he
   obtain ⟨_,⟨ad,jm⟩,_⟩:=cP
   have cP:=hv x
   rw [hx] at cP
   exact bt h hd (v:=.pointer (some ad)) (by simp [execOp,hop,jm]) (jm ▸ cP)
  ·rename_i id off hx
   rw [hx] at cP
   cases he
   obtain ⟨_,⟨ad,jm⟩,_⟩:=cP
   have cP:=hv x
   rw [hx] at cP
   exact bt h hd (v:=.pointer (some ad)) (by simp [execOp,hop,jm]) (jm ▸ cP)
  ·rename_i id i off hx
   rw [hx] at cP
   cases he
   obtain ⟨_,⟨ad,jm⟩,_⟩:=cP
   have cP:=hv x
   rw [hx] at cP
   exact bt h hd (v:=.pointer (some ad)) (by simp [execOp,hop,jm]) (jm ▸ cP)
  ·rename_i f ids hx
   rw [hx] at cP
   cases he
   obtain ⟨_,us,jm,_⟩:=cP
   have cP:=hv x
   rw [hx] at cP
   exact bt h hd (v:=.func (.func f) #[] us.toArray) (by simp [execOp,hop,jm]) (jm ▸ cP)
  ·rename_i f τ y ids hx
   rw [hx] at cP
   cases he
   obtain ⟨_,u,us,jm,_⟩:=cP
   have cP:=hv x
   rw [hx] at cP
   exact bt h hd (v:=.func (.func f) #[] (u :: us).toArray) (by simp [execOp,hop,jm]) (jm ▸ cP)
  ·cases he
 ·rename_i x xt as ok hop
  have cP:=hv x
  unfold yw at he
  split at he
  ·cases he
  ·rename_i dsc z hni hu hz
   obtain ⟨ti,hti,hiz⟩:=Option.bind_eq_some_iff.1 hz
   split at he
   ·rename_i T τ d hx
    rw [hx] at cP
    obtain ⟨u,jm,hr⟩:=cP
    split at he
    ·rename_i hT
     have hT:=Nat.eq_of_beq_eq_true hT
     subst hT
     cases he
     refine bt h hd (v:=.tuple #[u,.bool true]) ?_ ⟨[_,_],rfl,_,_,rfl,hr,_,_,rfl,rfl,rfl⟩
     simp only [execOp,hop,jm,Instr.typeAssert,Sem.run_bind,run_underlying hu,Result.andThen_ok]
     cases dsc <;> first | (exact absurd rfl (hni _)) | simp
    ·rename_i hT
     have hT:¬ T=as:=fun e=>by rw [e,Nat.beq_refl] at hT; cases hT
     cases he
     refine bt h hd (v:=.tuple #[z,.bool false]) ?_ ⟨_,rfl⟩
     simp only [execOp,hop,jm,Instr.typeAssert,Sem.run_bind,run_underlying hu,Result.andThen_ok]
     cases dsc <;> first | (exact absurd rfl (hni _)) | simp [hT,zeroValue,typeInfo,hti,hiz]
   ·rename_i hx
    rw [hx] at cP
    have jm:a.eval x = .nilIface:=cP
    cases he
    refine bt h hd (v:=.tuple #[z,.bool false]) ?_ ⟨_,rfl⟩
    simp only [execOp,hop,jm,Instr.typeAssert,Sem.run_bind,run_underlying hu,Result.andThen_ok]
    cases dsc <;> first | (exact absurd rfl (hni _)) | simp [zeroValue,typeInfo,hti,hiz]
   ·cases he
  ·cases he
 ·rename_i c hop
  obtain ⟨callee,args,argTypes⟩:=c
  simp only at he
  split at he
  ·-- len
   split at he
   case h_2=>cases he
   rename_i x ha
   split at he
   case h_2=>cases he
   rename_i t hT
   split at he
   case h_2=>cases he
   rename_i el hu
   obtain ⟨args⟩:=args
   obtain ⟨argTypes⟩:=argTypes
   simp only at ha hT
   subst ha hT
   have cP:=hv x
   have run:∀ ad n c,a.eval x = .slice ad n c->(execOp a.eval o).run P w = .ok (.value (.int .i64 n)) w:=fun ad n c hx=>by
    simp only [execOp,hop,resolve,invoke,builtin,Sem.run_bind,Sem.run_pure,Result.andThen_ok,List.map_toArray,List.map_cons,List.map_nil,hx,ads hu]
   unfold alp at he
   split at he
   ·rename_i hx
    rw [hx] at cP
    cases he
    obtain ⟨a0,cP⟩:=cP
    exact bt h hd (run a0 0 0 cP) (fX _ _)
   ·rename_i id bG hx
    rw [hx] at cP
    split at he
    case h_2=>cases he
    rename_i cur T el' sl ho
    split at he
    case h_2=>cases he
    rename_i td
    cases he
    obtain ⟨_,_,h3⟩:=cP
    rcases (h3 _ _ _ _ ho).2 (Nat.eq_of_beq_eq_true td) with ⟨hn,a0,jm⟩ | ⟨b,cap,_,jm,_⟩
    ·refine bt h hd (run _ _ _ jm) ?_
     rw [hn]; exact fX _ _
    ·exact bt h hd (run _ _ _ jm) (fX _ _)
   ·rename_i id hx
    rw [hx] at cP
    split at he
    case h_2=>cases he
    rename_i cur T el' d ho
    cases he
    obtain ⟨_,_,h3⟩:=cP
    obtain ⟨b,cap,_,jm,_⟩:=h3 _ _ _ _ ho
    exact bt h hd (run _ _ _ jm) (fX _ _)
   ·rename_i id bG i n hx
    rw [hx] at cP
    split at he
    case h_2=>cases he
    rename_i cur T el' d ho
    split at he
    case h_2=>cases he
    rename_i td
    cases he
    cases Nat.eq_of_beq_eq_true td
    obtain ⟨_,_,ad,cap,_,jm,_⟩:=vJ h cP ho
    exact bt h hd (run _ _ _ jm) (fX _ _)
   ·split at he
    case h_2=>cases he
    rename_i τ r hr
    cases he
    obtain ⟨ad,c,hx⟩:=VL (nT cP hr)
    exact bt h hd (run _ _ _ hx) (fX _ _)
  ·-- append
   split at he
   case h_2=>cases he
   rename_i sx x T T' ha hT
   split at he
   case h_2=>cases he
   rename_i hTT
   simp only [Bool.and_eq_true] at hTT
   have hlo:=Nat.le_of_ble_eq_true hTT.1.1
   have hTT:=Nat.eq_of_beq_eq_true hTT.1.2
   subst hTT
   obtain ⟨args⟩:=args
   obtain ⟨argTypes⟩:=argTypes
   simp only at ha hT
   subst ha hT
   exact EL hG h hd hop hlo (hv sx) (hv x) he
  ·split at he
   case h_2=>cases he
   rename_i x y ha
   obtain ⟨args⟩:=args
   simp only at ha
   subst ha
   exact vM (least:=true) h hd (hv x) (hv y) (fun k k' m n hx hy=>by
    simp [execOp,hop,resolve,invoke,builtin,hx,hy,Builtin.min_,Builtin.min2]) he
  ·split at he
   case h_2=>cases he
   rename_i x y ha
   obtain ⟨args⟩:=args
   simp only at ha
   subst ha
   exact vM (least:=false) h hd (hv x) (hv y) (fun k k' m n hx hy=>by
    simp [execOp,hop,resolve,invoke,builtin,hx,hy,Builtin.max_,Builtin.max2]) he
  ·rename_i x
   unfold AS at he
   split at he
   ·rename_i f
    split at he
    case h_4=>cases he
    case h_3 =>
     rename_i ids app hf
     obtain ⟨gY,IG⟩:=hΓ f _ hf
     split at he
     case h_2=>cases he
     rename_i hlo
     have hlo:=Nat.le_of_ble_eq_true hlo
     have hfx:=Br.zI he
     have Wc:=Br.AI he
     have kP:=IG N G s a w ρ S F hG h (args.toList.map (val Γ s.env)) (args.toList.map a.eval) (base + o.dst.getD 0) (by simp) (eX hΓ h args.toList) hlo (fun r hr=>by rw [Wc r hr]; simp) (fun e' hr=>by cases Wc _ hr)
     have hrun:=ig (P:=P) a.eval ⟨.value (.func f),args,argTypes⟩ o.type (x:=.func f) rfl (f:=f) (first:=#[]) (caps:=#[]) rfl gY w
     unfold Oper.wp
     have hex:(execOp a.eval o)=(do let d <- resolve a.eval ⟨.value (.func f),args,argTypes⟩ o.type; invoke d.target d.args:Sem Next):=by simp only [execOp,hop]
     rw [hex,hrun]
     rw [show (#[] ++ (⟨.value (.func f),args,argTypes⟩:Call).args.map a.eval ++ #[])=(args.toList.map a.eval).toArray by apply Array.ext'; simp]
     refine kP.mono ?_
     rintro en w1 ⟨rr,yD,SE⟩
     rw [Wc rr yD] at SE
     obtain ⟨v,ρ',S',F',rfl,q1,q2⟩:=SE
     exact ⟨hfx.2.1,ρ',S',F',(q1.put hd q2).of_eq rfl rfl rfl rfl⟩
    case h_2 =>
     rename_i wr n τa T el R hf
     obtain ⟨gY,IG⟩:=hΓ f _ hf
     split at he
     case h_2=>cases he
     rename_i hlo
     have hlo:=Nat.le_of_ble_eq_true hlo
     split at he
     ·unfold AR at he
      split at he
      case h_2=>cases he
      rename_i x0 τh R0 hpn hargs hno
      split at he
      case h_2=>cases he
      rename_i τy y0 hle
      split at he
      case h_2=>cases he
      rename_i y hcast
      simp only [Br.run,er,bad] at he
      cases hs:(R0 (y,())).isSome with
      | false=>simp only [hs,cond_false] at he; cases he
      | true =>
       simp only [hs,cond_true,id] at he
       cases he
       obtain ⟨sl,hsl⟩:=Option.isSome_iff_exists.1 hs
       simp only [Bool.and_eq_true] at hpn
       obtain ⟨⟨ql,hfl⟩,hn⟩:=hpn
       obtain ⟨c0,cl,hc0,hc1,hc2⟩:=List.map_eq_cons_iff.1 hargs
       have aFM:cl=[]:=by cases cl with
        | nil=>rfl
        | cons _ _=>cases hc2
       subst aFM
       have hrs:=IF h (eX hΓ h args.toList 0 x0 (a.eval c0) (by rw [hargs]; rfl) (by rw [hc0]; rfl))
       rw [hle] at hrs
       obtain ⟨ho1,yD⟩:=hrs
       obtain ⟨hty,hyy⟩:=bY hcast
       cases hty
       have hyy:y=y0:=hyy
       subst hyy
       have kP:=Dk hG h IG hlo hno ql hfl ho1 yD (by rw [hargs] at hn; exact hn) hsl
       have hrun:=ig (P:=P) a.eval ⟨.value (.func f),args,argTypes⟩ o.type (x:=.func f) rfl (f:=f) (first:=#[]) (caps:=#[]) rfl gY w
       unfold Oper.wp
       have hex:(execOp a.eval o)=(do let d <- resolve a.eval ⟨.value (.func f),args,argTypes⟩ o.type; invoke d.target d.args:Sem Next):=by simp only [execOp,hop]
       rw [hex,hrun]
       rw [show (#[] ++ (⟨.value (.func f),args,argTypes⟩:Call).args.map a.eval ++ #[]) = #[a.eval c0] by apply Array.ext'; simp [hc0]]
       refine kP.mono ?_
       rintro en w1 ⟨v,ρ',S',rfl,q1,q2⟩
       rw [hsl]
       exact ⟨rfl,ρ',S',F,(q1.put hd q2).of_eq rfl rfl rfl rfl⟩
     unfold AQ at he
     split at he
     case h_2=>cases he
     rename_i y h1 h2 h3
     simp only [Br.run,er,bad] at he
     cases hs:(R y).isSome with
     | false=>simp only [hs,cond_false] at he; cases he
     | true =>
      simp only [hs,cond_true,id] at he
      cases he
      have oc:nQ wr n τa T el R (args.toList.map (val Γ s.env)) s.heap s.tr (base + o.dst.getD 0) = .br true (.leaf (.ok ⟨some (tT wr (base + o.dst.getD 0) el ((R y).getD ⟨0,fun _=>el.dflt⟩)),[(base + o.dst.getD 0,dJ wr T el ((R y).getD ⟨0,fun _=>el.dflt⟩))],[base + o.dst.getD 0],false,none⟩)) (.leaf .bad):=by
       unfold nQ
       simp only [h1,h2,h3,hs]
      have kP:=IG N G s a w ρ S F hG h (args.toList.map (val Γ s.env)) (args.toList.map a.eval) (base + o.dst.getD 0) (by simp) (eX hΓ h args.toList) hlo (by rw [oc]; intro r hr; rw [show r=_ from hr]; simp) (by rw [oc]; intro e he; cases (show OR.bP .jI e=_ from he))
      have hrun:=ig (P:=P) a.eval ⟨.value (.func f),args,argTypes⟩ o.type (x:=.func f) rfl (f:=f) (first:=#[]) (caps:=#[]) rfl gY w
      unfold Oper.wp
      have hex:(execOp a.eval o)=(do let d <- resolve a.eval ⟨.value (.func f),args,argTypes⟩ o.type; invoke d.target d.args:Sem Next):=by simp only [execOp,hop]
      rw [hex,hrun]
      rw [show (#[] ++ (⟨.value (.func f),args,argTypes⟩:Call).args.map a.eval ++ #[])=(args.toList.map a.eval).toArray by apply Array.ext'; simp]
      refine kP.mono ?_
      rintro en w1 ⟨rr,yD,SE⟩
      rw [oc] at yD
      have yD:rr=_:=yD
      subst yD
      obtain ⟨v,ρ',S',F',rfl,q1,q2⟩:=SE
      exact ⟨rfl,ρ',S',F',(q1.put hd q2).of_eq rfl rfl rfl rfl⟩
    rename_i c' hf
    obtain ⟨gY,IG⟩:=hΓ f _ hf
    split at he
    ·unfold Vz at he
     split at he
     case h_2=>cases he
     rename_i x ql hx
     simp only [kN,Br.run,er,bad] at he
     cases hp:c'.pre x with
     | false=>simp only [hp,cond_false] at he; cases he
     | true =>
      simp only [hp,cond_true,id] at he
      cases he
      have hargs:=fO (us:=args.toList.map a.eval) (by simp) (SD h (eX hΓ h args.toList)) hx
      refine Be hG h hd hop (c:=⟨.value (.func f),args,argTypes⟩) rfl (f:=f) (first:=#[]) (caps:=#[]) rfl gY (y:=c'.fn x) ?_
      have:=Lo h IG ql hp hargs
      rw [show (args.map a.eval)=(args.toList.map a.eval).toArray by apply Array.ext'; simp]
      simpa using this
    unfold ain at he
    split at he
    case h_2=>cases he
    rename_i x hx
    simp only [kN,Br.run,er,bad] at he
    cases hp:c'.pre x with
    | false=>simp only [hp,cond_false] at he; cases he
    | true =>
     simp only [hp,cond_true,id] at he
     cases he
     have hargs:=fO (us:=args.toList.map a.eval) (by simp) (eX hΓ h args.toList) hx
     refine Be hG h hd hop (c:=⟨.value (.func f),args,argTypes⟩) rfl (f:=f) (first:=#[]) (caps:=#[]) rfl gY (y:=c'.fn x) ?_
     have:=IG S w h.bd x _ hp hargs
     rw [show (args.map a.eval)=(args.toList.map a.eval).toArray by apply Array.ext'; simp]
     simpa using this
   ·split at he
    case h_2=>cases he
    rename_i hnf _ at' rt F hx
    have cP:=hv x
    rw [hx] at cP
    obtain ⟨f,first,caps,hfv,gY,hF⟩:=nW cP
    unfold fnD at he
    split at he
    case h_2=>cases he
    rename_i y hy
    simp only [kN,Br.run,er,bad] at he
    cases hp:(F y).1 with
    | false=>simp only [hp,cond_false] at he; cases he
    | true =>
     simp only [hp,cond_true,id] at he
     cases he
     have hargs:=fO (us:=args.toList.map a.eval) (by simp) (eX hΓ h args.toList) hy
     refine Be hG h hd hop (c:=⟨.value x,args,argTypes⟩) rfl (by simpa using hfv) gY (y:=(F y).2) ?_
     have:=hF S w (Ext0.refl h.bd) y _ hp hargs
     rw [show (args.map a.eval)=(args.toList.map a.eval).toArray by apply Array.ext'; simp]
     exact this
  ·cases he
 ·rename_i fn first caps hop
  split at he
  case h_2=>cases he
  exact Bq hΓ h hd hop he
 ·cases he
end Go.Dm

/-
 The framework: an interpreter over typed data,and why what it says of a call is true.
-/
import Derived.Test.YtadkaccpacpklaaFwA
set_option linter.unusedVariables false
set_option linter.unusedSimpArgs false
namespace Go.Dm
open Go.RowKit
variable {P:Program} {N:Nat} {G:Gh} {S S':CS} {w w':World} {s:St} {a:Act} {ρ ρ':fV} {F F':Nat->Prop} {heap heap':Nat->aN} {Y:Value} {E:cO} {Γ:Ctx}
def qt (P:Program) (rec:TypeId->Option (List Ty)):Nat->List Field->Option (List Ty)
 | _,[]=>some []
 | off,f :: fs=>match rec f.type with
  | some l=>match f.name != "_" && Nat.beq f.offset off && decide (dg P f.type=some l.length) with
   | true=>(qt P rec (off + l.length) fs).map (l ++ ·)
   | false=>none
  | none=>none
def mV (P:Program):Nat->TypeId->Option (List Ty)
 | 0,_=>none
 | m + 1,t=>match P.underlying t with
  | some (.int k)=>some [.int k]
  | some .bool=>some [.bool]
  | some (.struct fs)=>match P.stoodInHeld t with
   | true=>none
   | false=>qt P (mV P m) 0 fs.toList
  | some (.array len e)=>match mV P m e with
   | some l=>match decide (dg P e=some l.length) with
    | true=>some (List.replicate len l).flatten
    | false=>none
   | none=>none
  | _=>none
def MY (P:Program) (t:TypeId) (us:List Value) (x:Value):Prop:=(cU P t=some true/\x = .agg us.toArray)\/(cU P t=some false/\us=[x])
theorem vS:∀ {us vs us' vs':List Value},us.length=vs.length->eo (us ++ us') (vs ++ vs')=(eo us vs).bind fun b=>(eo us' vs').map (b && ·)
 | [],[],us',vs',_=>by simp [eo]
 | [],_ :: _,_,_,h=>by simp at h
 | _ :: _,[],_,_,h=>by simp at h
 | u :: us,v :: vs,us',vs',h=>by
  have ih:=vS (us:=us) (vs:=vs) (us':=us') (vs':=vs') (by simpa using h)
  simp only [List.cons_append]
  cases u <;> cases v <;> simp only [eo,Option.bind_none] <;> try rfl
  ·rw [ih]
   cases eo us vs with
   | none=>rfl
   | some b=>cases eo us' vs' <;> simp [Bool.and_assoc]
  ·split
   ·rw [ih]
    cases eo us vs with
    | none=>rfl
    | some b=>cases eo us' vs' <;> simp [Bool.and_assoc]
   ·rfl
theorem MZ {t:TypeId} {n:Nat} (hn:dg P t=some n) (ha:∃ b,cU P t=some b) (h1:cU P t=some false->n=1) (us:List Value) (off:Nat) (hle:off + n<=us.length) :
  ∃ x,(part t us.toArray off).run P w = .ok x w/\MY P t ((us.drop off).take n) x:=by
 obtain ⟨b,ha⟩:=ha
 cases b with
 | true=>exact ⟨_,EL ha hn,.inl ⟨ha,rfl⟩⟩
 | false =>
  have:=h1 ha
  subst this
  have hlt:off < us.length:=by omega
  refine ⟨us[off],yj ha (List.getElem?_eq_getElem hlt),.inr ⟨ha,?_⟩⟩
  rw [List.drop_eq_getElem_cons hlt]; rfl
theorem Bg {m:Nat} {l:List Ty} {t:TypeId} (h:mV P m t=some l):∃ b,cU P t=some b/\(b=false->l.length=1):=by
 cases m with
 | zero=>cases h
 | succ m =>
  unfold mV at h
  unfold cU
  split at h
  ·rename_i hu; rw [hu]; cases h; exact ⟨false,rfl,fun _=>rfl⟩
  ·rename_i hu; rw [hu]; cases h; exact ⟨false,rfl,fun _=>rfl⟩
  ·rename_i hu; rw [hu]; exact ⟨true,rfl,fun e=>by cases e⟩
  ·rename_i hu; rw [hu]; exact ⟨true,rfl,fun e=>by cases e⟩
  ·cases h
def ac1 (P:Program) (d:Nat) (t:TypeId) (l:List Ty):Prop:=
 ∀ (w:World) (us vs:List Value) (x y:Value) (b:Bool),Typed l us->Typed l vs->MY P t us x->MY P t vs y->eo us vs=some b->(Op.equalIn d t x y).run P w = .ok b w
theorem Sv {d:Nat} {t:TypeId} {l:List Ty} (hok:ac1 P d t l) (hsz:dg P t=some l.length) (hagg:∃ b,cU P t=some b/\(b=false->l.length=1)) {l':List Ty} {us vs:List Value} {off:Nat}
  (hou:off<=us.length) (hov:off<=vs.length) (hu:Typed (l ++ l') (us.drop off)) (hv:Typed (l ++ l') (vs.drop off)) {b:Bool} (hb:eo (us.drop off) (vs.drop off)=some b) :
  ∃ x y b1 b2,(part t us.toArray off).run P w = .ok x w/\(part t vs.toArray off).run P w = .ok y w/\(Op.equalIn d t x y).run P w = .ok b1 w /\
   off + l.length<=us.length/\off + l.length<=vs.length/\Typed l' (us.drop (off + l.length))/\Typed l' (vs.drop (off + l.length))/\eo (us.drop (off + l.length)) (vs.drop (off + l.length))=some b2/\b=(b1 && b2):=by
 obtain ⟨bb,hagg,h1⟩:=hagg
 have h1':cU P t=some false->l.length=1:=fun e=>h1 (by rw [hagg] at e; simpa using e)
 have lu:=hu.1
 have lv:=hv.1
 simp only [List.length_drop,List.length_append] at lu lv
 obtain ⟨u1,u2⟩:=hu.split
 obtain ⟨v1,v2⟩:=hv.split
 rw [List.drop_drop] at u2 v2
 obtain ⟨x,px,vx⟩:=MZ (w:=w) hsz ⟨bb,hagg⟩ h1' us off (by omega)
 obtain ⟨y,py,vy⟩:=MZ (w:=w) hsz ⟨bb,hagg⟩ h1' vs off (by omega)
 have ajb:us.drop off=(us.drop off).take l.length ++ us.drop (off + l.length):=by rw [<- List.drop_drop,List.take_append_drop]
 have ajc:vs.drop off=(vs.drop off).take l.length ++ vs.drop (off + l.length):=by rw [<- List.drop_drop,List.take_append_drop]
 rw [ajb,ajc,vS (by rw [u1.1,v1.1])] at hb
 cases he1:eo ((us.drop off).take l.length) ((vs.drop off).take l.length) with
 | none=>rw [he1] at hb; cases hb
 | some b1 =>
  rw [he1] at hb
  simp only [Option.bind_some] at hb
  cases he2:eo (us.drop (off + l.length)) (vs.drop (off + l.length)) with
  | none=>rw [he2] at hb; cases hb
  | some b2 =>
   rw [he2] at hb
   simp only [Option.map_some,Option.some.injEq] at hb
   exact ⟨x,y,b1,b2,px,py,hok w _ _ x y b1 u1 v1 vx vy he1,by omega,by omega,u2,v2,rfl,hb.symm⟩
theorem yu {d:Nat} {rec:TypeId->Option (List Ty)} (Cp:∀ t l,rec t=some l->ac1 P d t l/\∃ b,cU P t=some b/\(b=false->l.length=1)) {us vs:List Value} :
  ∀ (fs:List Field) (off:Nat) (l:List Ty),qt P rec off fs=some l->off<=us.length->off<=vs.length->Typed l (us.drop off)->Typed l (vs.drop off)->∀ b,eo (us.drop off) (vs.drop off)=some b ->
   (Op.eqFields d us.toArray vs.toArray fs).run P w = .ok b w
 | [],off,l,h,hou,hov,hu,hv,b,hb=>by
  simp only [qt,Option.some.injEq] at h
  subst h
  rw [List.eq_nil_of_length_eq_zero hu.1,List.eq_nil_of_length_eq_zero hv.1] at hb
  cases hb
  rfl
 | f :: fs,off,l,h,hou,hov,hu,hv,b,hb=>by
  simp only [qt] at h
  cases hr:rec f.type with
  | none=>rw [hr] at h; cases h
  | some k =>
   rw [hr] at h
   simp only at h
   cases hc:(f.name != "_" && Nat.beq f.offset off && decide (dg P f.type=some k.length)) with
   | false=>rw [hc] at h; cases h
   | true =>
    rw [hc] at h
    simp only [Option.map_eq_some_iff] at h
    obtain ⟨l',hl',rfl⟩:=h
    simp only [Bool.and_eq_true,bne_iff_ne,ne_eq,decide_eq_true_eq] at hc
    obtain ⟨⟨hname,ho⟩,hsz⟩:=hc
    have ho:=Nat.eq_of_beq_eq_true ho
    obtain ⟨hok,hagg⟩:=Cp _ _ hr
    obtain ⟨x,y,b1,b2,px,py,hq,o1,o2,t1,t2,he2,rfl⟩:=Sv (w:=w) hok hsz hagg hou hov hu hv hb
    have ih:=yu Cp fs (off + k.length) l' hl' o1 o2 t1 t2 b2 he2
    have hnm:f.name ≠ "_" := hname
    simp only [Op.eqFields,if_pos hnm,ho,Sem.run_bind,px,py,hq,Result.andThen_ok,Sem.run_ite]
    cases b1 with
    | true=>simpa using ih
    | false=>simp
theorem Bh {d:Nat} {e:TypeId} {k:List Ty} (hok:ac1 P d e k) (hsz:dg P e=some k.length) (hagg:∃ b,cU P e=some b/\(b=false->k.length=1)) {us vs:List Value} :
  ∀ (m i:Nat),i * k.length<=us.length->i * k.length<=vs.length->Typed (List.replicate m k).flatten (us.drop (i * k.length))->Typed (List.replicate m k).flatten (vs.drop (i * k.length))->∀ b,eo (us.drop (i * k.length)) (vs.drop (i * k.length))=some b ->
   (Op.eqItems d e k.length us.toArray vs.toArray (List.range' i m)).run P w = .ok b w
 | 0,i,hou,hov,hu,hv,b,hb=>by
  rw [List.eq_nil_of_length_eq_zero hu.1,List.eq_nil_of_length_eq_zero hv.1] at hb
  cases hb
  rfl
 | m + 1,i,hou,hov,hu,hv,b,hb=>by
  rw [List.replicate_succ,List.flatten_cons] at hu hv
  obtain ⟨x,y,b1,b2,px,py,hq,o1,o2,t1,t2,he2,rfl⟩:=Sv (w:=w) hok hsz hagg hou hov hu hv hb
  rw [<- Nat.succ_mul] at o1 o2 t1 t2 he2
  have ih:=Bh hok hsz hagg m (i + 1) o1 o2 t1 t2 b2 he2
  rw [List.range'_succ]
  simp only [Op.eqItems,Sem.run_bind,px,py,hq,Result.andThen_ok,Sem.run_ite]
  cases b1 with
  | true=>simpa using ih
  | false=>simp
theorem um:∀ (m:Nat) (t:TypeId) (l:List Ty),mV P m t=some l->∀ d,ac1 P (d + m) t l
 | 0,_,_,h,_=>by cases h
 | m + 1,t,l,h,d=>by
  intro w us vs x y b hu hv hx hy hb
  have ih:=fun t l h=>um m t l h d
  unfold mV at h
  have one:∀ {x:Value} {us:List Value},cU P t=some false->MY P t us x->us=[x]:=fun ha hx=>by
   rcases hx with ⟨q,_⟩ | ⟨_,q⟩
   ·rw [ha] at q; cases q
   ·exact q
  have agg:∀ {x:Value} {us:List Value},cU P t=some true->MY P t us x->x = .agg us.toArray:=fun ha hx=>by
   rcases hx with ⟨_,q⟩ | ⟨q,_⟩
   ·exact q
   ·rw [ha] at q; cases q
  split at h
  ·rename_i k Na
   cases h
   have ha:cU P t=some false:=by simp [cU,Na]
   obtain rfl:=one ha hx
   obtain rfl:=one ha hy
   obtain ⟨n1,rfl⟩:=hu.2 0 _ _ rfl rfl
   obtain ⟨n2,rfl⟩:=hv.2 0 _ _ rfl rfl
   simp only [eo,if_pos,Option.map_some,Bool.and_true,Option.some.injEq] at hb
   subst hb
   rw [show d + (m + 1)=(d + m) + 1 from rfl,run_equalIn_int w (d + m) t k k n1 n2 Na]
   congr 1
  ·rename_i Na
   cases h
   have ha:cU P t=some false:=by simp [cU,Na]
   obtain rfl:=one ha hx
   obtain rfl:=one ha hy
   obtain ⟨n1,rfl⟩:=hu.2 0 _ _ rfl rfl
   obtain ⟨n2,rfl⟩:=hv.2 0 _ _ rfl rfl
   simp only [eo,Option.map_some,Bool.and_true,Option.some.injEq] at hb
   subst hb
   rw [show d + (m + 1)=(d + m) + 1 from rfl,run_equalIn_bool w (d + m) t n1 n2 Na]
  ·rename_i fs Na
   have ha:cU P t=some true:=by simp [cU,Na]
   obtain rfl:=agg ha hx
   obtain rfl:=agg ha hy
   split at h
   ·cases h
   ·rename_i hst
    have Vf:P.fieldsOf t=fs:=by simp [Program.fieldsOf,Na]
    rw [show d + (m + 1)=(d + m) + 1 from rfl,run_equalIn_struct w (d + m) t _ _ (by rw [Vf]; exact Na) hst,Vf]
    exact yu (d:=d + m) (rec:=mV P m) (fun t l h=>⟨ih t l h,Bg h⟩) fs.toList 0 l h (Nat.zero_le _) (Nat.zero_le _) (by simpa using hu) (by simpa using hv) b (by simpa using hb)
  ·rename_i len e Na
   have ha:cU P t=some true:=by simp [cU,Na]
   obtain rfl:=agg ha hx
   obtain rfl:=agg ha hy
   split at h
   ·rename_i k hk
    split at h
    ·rename_i hsz
     have hsz:=of_decide_eq_true hsz
     simp only [Option.some.injEq] at h
     subst h
     obtain ⟨i,hi⟩:∃ i,P.info? e=some i:=by
      unfold dg at hsz
      cases hq:P.info? e with
      | none=>rw [hq] at hsz; cases hsz
      | some i=>exact ⟨i,rfl⟩
     have hco:P.cellsOf e=k.length:=by
      unfold dg at hsz
      unfold Program.cellsOf
      rw [hi] at hsz ⊢
      simpa using hsz
     rw [show d + (m + 1)=(d + m) + 1 from rfl,run_equalIn_array w (d + m) _ _ Na hi,hco,List.range_eq_range']
     exact Bh (ih e k hk) hsz (Bg hk) len 0 (by simp) (by simp) (by simpa using hu) (by simpa using hv) b (by simpa using hb)
    ·cases h
   ·cases h
  ·cases h
def eqTy (P:Program) (t:TypeId):Option Ty:=
 match mV P 8 t with
 | some l=>match cU P t,P.eqGuardType P.depth t,l.all fun σ=>match σ with | .int _ | .bool=>true | _=>false with
  | some true,false,true=>some (cR l)
  | _,_,_=>none
 | none=>none
theorem aB:fI P (eqTy P):=by
 intro t τ h
 unfold eqTy at h
 split at h
 case h_2=>cases h
 rename_i l hl
 split at h
 case h_2=>cases h
 rename_i ha hg hall
 simp only [Option.some.injEq] at h
 subst h
 refine ⟨l,rfl,fun σ hm=>?_,fun us vs b x y w hu hv hb=>?_⟩
 ·rw [List.all_eq_true] at hall
  have:=hall σ hm
  cases σ with
  | int k=>exact .inr ⟨k,rfl⟩
  | bool=>exact .inl rfl
  | _=>cases this
 ·have hq:(Op.equalIn 10000 t (.agg us.toArray) (.agg vs.toArray)).run P w = .ok b w:=um 8 t l hl 9992 w us vs _ _ b hu hv (.inl ⟨ha,rfl⟩) (.inl ⟨ha,rfl⟩) hb
  constructor
  ·simp only [Sem.run_bind,run_eqGuard_agg w .eql t x y _ _ hg,Result.andThen_ok,run_eql_struct,hq]
  ·simp only [Sem.run_bind,run_eqGuard_agg w .neq t x y _ _ hg,Result.andThen_ok,run_neq_struct,hq]
end Go.Dm
namespace Go.Dm
open Go.RowKit
variable {P:Program} {N:Nat} {G:Gh} {S S':CS} {w w':World} {s:St} {a:Act} {ρ ρ':fV} {F F':Nat->Prop} {heap heap':Nat->aN} {Y:Value} {E:cO} {Γ:Ctx}
theorem rI {τ:Ty} {x:τ.den} {v:Value} (h:RS P Y S w heap ρ (.v (.pc τ x)) v):R P τ S w x [v]:=h.2
theorem Dr (h:SR P N G s a w ρ S F) {id:Nat} {ds:List DC} (ho:s.heap id = .box ds) {off:Nat} {v:Value} (hp:eR s.heap ρ id off v) :
  ∃ b arr T,ρ id=some b/\v = .pointer (some ⟨b,off,none⟩)/\w.heap[b]? = some (.cells arr T (0,0))/\RL (RC P G.Y S w s.heap ρ) ds arr.toList:=by
 obtain ⟨_,_,h3⟩:=hp
 obtain ⟨b,hb,hv⟩:=h3 ds ho
 have:=h.obj id
 rw [ho] at this
 obtain ⟨b',arr,T,q1,_,q3,q4,_⟩:=this
 rw [hb] at q1
 cases q1
 exact ⟨b,arr,T,hb,hv,q3,q4⟩
theorem eR.add {id off:Nat} {v:Value} (h:eR heap ρ id off v) (m:Nat):∃ ad,v = .pointer (some ad)/\eR heap ρ id (off + m) (.pointer (some (ad.add m))):=by
 obtain ⟨h1,⟨ad,hv⟩,h3⟩:=h
 refine ⟨ad,hv,h1,⟨_,rfl⟩,fun ds hd=>?_⟩
 obtain ⟨b,Sw,Sx⟩:=h3 ds hd
 rw [hv] at Sx
 cases Sx
 exact ⟨b,Sw,by rw [Addr.add_lit]⟩
theorem yw (h:SR P N G s a w ρ S F) {id bB i n:Nat} {v:Value} (hx:RC P G.Y S w s.heap ρ (.sub id bB i n) v) {T:TypeId} {e:Ty} {d:Sl (Sl e.den)} (ho:s.heap id = .rows bB T e d) :
  i < d.n/\n<=(d.g i).n/\∃ ad cap,yd w ρ id i ad (d.g i).n cap/\v = .slice ad n cap/\(d.g i).n<=cap + (d.g i).n/\n<=cap/\(0 < n->∃ b',ad=some ⟨b',0,none⟩):=by
 obtain ⟨_,_,h3⟩:=hx
 obtain ⟨h4,h5,ad,cap,h6,h7⟩:=(h3 _ _ _ _ ho).2 rfl
 have dn:=h.obj id
 rw [ho] at dn
 obtain ⟨_,b,arr,T',q1,q2,q3,q4,q5,q6,q7⟩:=dn
 obtain ⟨b0,sW,T0,p1,p2,p3⟩:=h6
 rw [q1] at p1; cases p1
 rw [q3] at p2; cases p2
 obtain ⟨ad',cap',z1,z2⟩:=q7 i h4
 rw [p3] at z1
 simp only [Option.some.injEq,Value.slice.injEq,true_and] at z1
 obtain ⟨z1,z3⟩:=z1
 subst z1 z3
 refine ⟨h4,h5,ad,cap,⟨b,arr,_,q1,q3,p3⟩,h7,by omega,?_,fun hn=>?_⟩
 ·rcases z2 with z2 | ⟨_,_,_,_,_,_,_,_,z2,_⟩ <;> omega
 ·rcases z2 with z2 | ⟨_,b',_,_,z2,_⟩
  ·omega
  ·exact ⟨b',z2⟩
theorem Cq {o:Oper} {Q:Exit->Act->World->Prop} (h:SR P N G s a w ρ S F) (hd:o.dst.all (Nat.blt · N)=true) {t:TypeId} {x i:Operand} (hop:o.op = .indexAddr t x i)
  {sx si:Slot} (hx:RS P G.Y S w s.heap ρ sx (a.eval x)) (hi:RS P G.Y S w s.heap ρ si (a.eval i)) {e:rj} (he:(ry P t s.heap sx si).run id=some e) :
  o.wp P a w (vR P N G o s e) Q:=by
 unfold ry at he
 split at he
 case h_2=>cases he
 rename_i k n
 have ei:=jP hi
 split at he
 ·rename_i el hu
  split at he
  ·-- a row that may be written
   rename_i id bB
   split at he
   case h_2=>cases he
   rename_i cur T τ sl c ho hsz
   split at he
   case h_2=>cases he
   rename_i hc
   simp only [Bool.and_eq_true] at hc
   have Qr:=Nat.eq_of_beq_eq_true hc.2
   have hc:=Nat.eq_of_beq_eq_true hc.1
   simp only [Br.run,fG,bad] at he
   cases hb:decide (0<=(show Int from n)/\(show Int from n) < sl.n) with
   | false=>simp only [hb,cond_false] at he; cases he
   | true =>
    simp only [hb,cond_true,_root_.id] at he
    cases he
    have uk:0<=(show Int from n)/\(show Int from n) < sl.n:=of_decide_eq_true hb
    obtain ⟨h1,_,h3⟩:=hx
    have hnn:(show Int from n).toNat < sl.n:=by omega
    obtain ⟨h0,_⟩ | ⟨b,cap,Sw,hv,_,_⟩:=(h3 _ _ _ _ ho).2 Qr
    ·omega
    refine aP h hd (v:=.pointer (some ⟨b,(show Int from n).toNat * τ.cells,none⟩)) ?_ ⟨h1,⟨_,rfl⟩,fun cu' T' e' s' ho'=>?_⟩
    ·simp only [execOp,hop,ei,hv,Instr.indexAt,asIntOf,Sem.run_bind,Sem.run_pure,Result.andThen_ok,run_underlying hu,if_pos uk,fM hsz,Addr.add_lit,hc,Nat.zero_add]
    ·rw [ho] at ho'; cases ho'
     exact ⟨by omega,fun _=>⟨b,Sw,rfl,hnn⟩⟩
  ·-- a row of rows
   rename_i id
   split at he
   case h_2=>cases he
   rename_i cur T τ d c ho hsz
   split at he
   case h_2=>cases he
   rename_i hc
   have hc:=Nat.eq_of_beq_eq_true hc
   simp only [Br.run,fG,bad] at he
   cases hb:decide (0<=(show Int from n)/\(show Int from n) < d.n) with
   | false=>simp only [hb,cond_false] at he; cases he
   | true =>
    simp only [hb,cond_true,_root_.id] at he
    cases he
    have uk:0<=(show Int from n)/\(show Int from n) < d.n:=of_decide_eq_true hb
    obtain ⟨h1,_,h3⟩:=hx
    obtain ⟨b,cap,Sw,hv,_,_⟩:=h3 _ _ _ _ ho
    have hnn:(show Int from n).toNat < d.n:=by omega
    refine aP h hd (v:=.pointer (some ⟨b,(show Int from n).toNat,none⟩)) ?_ ⟨h1,⟨_,rfl⟩,fun cu' T' e' s' ho'=>?_⟩
    ·simp only [execOp,hop,ei,hv,Instr.indexAt,asIntOf,Sem.run_bind,Sem.run_pure,Result.andThen_ok,run_underlying hu,if_pos uk,fM hsz,Addr.add_lit,hc,Nat.zero_add,Nat.mul_one]
    ·rw [ho] at ho'; cases ho'
     exact ⟨b,Sw,rfl,hnn⟩
  ·-- a row of these
   rename_i id bB i m
   split at he
   case h_2=>cases he
   rename_i cur T τ d c ho hsz
   split at he
   case h_2=>cases he
   rename_i hc
   simp only [Bool.and_eq_true] at hc
   have Qr:=Nat.eq_of_beq_eq_true hc.2
   have Cr:=Nat.eq_of_beq_eq_true hc.1
   subst Qr
   subst Cr
   simp only [Br.run,fG,bad] at he
   cases hb:decide (0<=(show Int from n)/\(show Int from n) < m) with
   | false=>simp only [hb,cond_false] at he; cases he
   | true =>
    simp only [hb,cond_true,_root_.id] at he
    cases he
    have uk:0<=(show Int from n)/\(show Int from n) < m:=of_decide_eq_true hb
    have h1:=hx.1
    obtain ⟨q1,q2,ad,cap,q3,q4,_,_,q5⟩:=yw h hx ho
    obtain ⟨b',rfl⟩:=q5 (by omega)
    have hnn:(show Int from n).toNat < (d.g i).n:=by omega
    refine aP h hd (v:=.pointer (some ⟨b',(show Int from n).toNat * τ.cells,none⟩)) ?_ ⟨h1,⟨_,rfl⟩,fun cu' T' e' s' ho'=>?_⟩
    ·simp only [execOp,hop,ei,q4,Instr.indexAt,asIntOf,Sem.run_bind,Sem.run_pure,Result.andThen_ok,run_underlying hu,if_pos uk,fM hsz,Addr.add_lit,Nat.zero_add]
    ·rw [ho] at ho'; cases ho'
     exact ⟨Nat.le_refl _,fun _=>⟨q1,hnn,b',cap,q3,rfl⟩⟩
  split at he
  case h_2=>cases he
  rename_i τ sl c hrow hsz
  split at he
  case h_2=>cases he
  rename_i hc
  have hc:=Nat.eq_of_beq_eq_true hc
  simp only [nR,Br.run,fG,bad] at he
  cases hb:decide (0<=(show Int from n)/\(show Int from n) < sl.n) with
  | false=>simp only [hb,cond_false] at he; cases he
  | true =>
   simp only [hb,cond_true,id] at he
   cases he
   have uk:0<=(show Int from n)/\(show Int from n) < sl.n:=of_decide_eq_true hb
   have hR:=rE hx hrow
   have hnn:(show Int from n).toNat < sl.n:=by omega
   rcases hR with ⟨hv,h0⟩ | ⟨b,off,cap,hv,h1,h2,h3⟩
   ·omega
   ·obtain ⟨us,u1,u2,u3⟩:=h3 _ hnn
    have hv:a.eval x = .slice (some ⟨b,off,none⟩) sl.n cap:=by simpa using hv
    refine aP h hd (v:=.pointer (some ⟨b,off + (show Int from n).toNat * τ.cells,none⟩)) ?_ ⟨rfl,b,_,us,rfl,u1,u2,u3⟩
    simp only [execOp,hop,ei,hv,Instr.indexAt,asIntOf,Sem.run_bind,Sem.run_pure,Result.andThen_ok,run_underlying hu,if_pos uk,fM hsz,Addr.add_lit,hc]
 ·rename_i len el hu
  have key:∀ (id off c:Nat),eR s.heap ρ id off (a.eval x)->dg P el=some c->(nR (decide (0<=(show Int from n)/\(show Int from n) < len)) (.v (.Pp id (off + (show Int from n).toNat * c))) []).run _root_.id=some e ->
    o.wp P a w (vR P N G o s e) Q:=by
   intro id off c hx hsz he
   simp only [nR,Br.run,fG,bad] at he
   cases hb:decide (0<=(show Int from n)/\(show Int from n) < len) with
   | false=>simp only [hb,cond_false] at he; cases he
   | true =>
    simp only [hb,cond_true,_root_.id] at he
    cases he
    have uk:0<=(show Int from n)/\(show Int from n) < len:=of_decide_eq_true hb
    obtain ⟨ad,hv,hp⟩:=hx.add ((show Int from n).toNat * c)
    refine aP h hd (v:=.pointer (some (ad.add ((show Int from n).toNat * c)))) ?_ hp
    simp only [execOp,hop,ei,hv,Instr.indexAt,asIntOf,Sem.run_bind,Sem.run_pure,Result.andThen_ok,run_underlying hu,if_pos uk,fM hsz,Instr.sureAddr]
  split at he
  ·rename_i id off c hsz; exact key id off c hx hsz he
  ·rename_i id off c hsz; exact key id off c hx hsz he
  ·rename_i τ x' c hsz
   split at he
   case h_2=>cases he
   rename_i hc
   simp only [Bool.and_eq_true,Nat.blt_eq] at hc
   obtain ⟨mm,YX⟩:∃ mm,mm=(show Int from n).toNat * c:=⟨_,rfl⟩
   rw [<- YX] at hc he
   simp only [nR,Br.run,fG,bad] at he
   cases hb:decide (0<=(show Int from n)/\(show Int from n) < len) with
   | false=>simp only [hb,cond_false] at he; cases he
   | true =>
    simp only [hb,cond_true,_root_.id] at he
    cases he
    have uk:0<=(show Int from n)/\(show Int from n) < len:=of_decide_eq_true hb
    obtain ⟨b,off,us,hv,u1,u2,u3⟩:=rI hx
    have hv:a.eval x = .pointer (some ⟨b,off,none⟩):=by simpa using hv
    have aA2:Int.toNat n * c=mm:=YX.symm
    obtain ⟨q1,q2,q3⟩:=Ky (n:=mm) hc.1 (by omega) u1
    refine aP h hd (v:=.pointer (some ⟨b,off + mm,none⟩)) ?_ ⟨rfl,b,off + mm,us.drop mm,rfl,q1,by simp; omega,fun j v hj=>?_⟩
    ·simp only [execOp,hop,ei,hv,Instr.indexAt,asIntOf,Sem.run_bind,Sem.run_pure,Result.andThen_ok,run_underlying hu,if_pos uk,fM hsz,Instr.sureAddr,Addr.add_lit,aA2]
    ·rw [List.getElem?_drop] at hj
     have:=u3 _ _ hj
     rwa [<- Nat.add_assoc] at this
  ·cases he
 ·cases he
theorem Cs {o:Oper} {Q:Exit->Act->World->Prop} (h:SR P N G s a w ρ S F) (hd:o.dst.all (Nat.blt · N)=true) {t:TypeId} {x:Operand} {f:Nat} (hop:o.op = .fieldAddr t x f)
  {fs:Array Field} (hu:P.underlying t=some (.struct fs)) {fd:Field} (hf:fs[f]? = some fd) {n:Nat} (hn:dg P fd.type=some (n + 1))
  {sx:Slot} (hx:RS P G.Y S w s.heap ρ sx (a.eval x)) {e:rj}
  (he:(wF fd.offset sx).run id=some e) :
  o.wp P a w (vR P N G o s e) Q:=by
 have hrun:∀ ad,a.eval x = .pointer (some ad)->(execOp a.eval o).run P w = .ok (.value (.pointer (some (ad.add fd.offset)))) w:=fun ad hv=>by
  simp only [execOp,hop,hv,Sem.run_bind,MU hu hf hn,Result.andThen_ok,Sem.run_pure]
 cases sx with
 | v d =>
  cases d with
  | ptr id off =>
   cases he
   obtain ⟨ad,hv,hp⟩:=eR.add hx fd.offset
   exact aP h hd (hrun ad hv) hp
  | Pp id off =>
   cases he
   obtain ⟨ad,hv,hp⟩:=eR.add hx fd.offset
   exact aP h hd (hrun ad hv) hp
  | Qd id bB i off =>
   cases he
   obtain ⟨h1,⟨ad,hv⟩,h3⟩:=hx
   refine aP h hd (hrun ad hv) ⟨h1,⟨_,rfl⟩,fun cu T e s' ho=>?_⟩
   obtain ⟨q0,h3⟩:=h3 _ _ _ _ ho
   refine ⟨q0,fun vh=>?_⟩
   obtain ⟨b,q1,q2,q3⟩:=h3 vh
   rw [hv] at q2
   cases q2
   exact ⟨b,q1,by rw [Addr.add_lit,Nat.add_assoc],q3⟩
  | zU id bB i j off =>
   cases he
   obtain ⟨h1,⟨ad,hv⟩,h3⟩:=hx
   refine aP h hd (hrun ad hv) ⟨h1,⟨_,rfl⟩,fun cu T e s' ho=>?_⟩
   obtain ⟨q0,h3⟩:=h3 _ _ _ _ ho
   refine ⟨q0,fun vh=>?_⟩
   obtain ⟨q1,q2,b,cap,q3,q4⟩:=h3 vh
   rw [hv] at q4
   cases q4
   exact ⟨q1,q2,b,cap,q3,by rw [Addr.add_lit,Nat.add_assoc]⟩
  | pc τ x' =>
   cases τ with
   | ptr el =>
    simp only [wF] at he
    cases hc:(Nat.blt fd.offset el.cells && el.flat) with
    | false=>rw [hc] at he; cases he
    | true =>
    rw [hc] at he
    cases he
    simp only [Bool.and_eq_true,Nat.blt_eq] at hc
    obtain ⟨b,off,us,hv,u1,u2,u3⟩:=rI hx
    have hv:a.eval x = .pointer (some ⟨b,off,none⟩):=by simpa using hv
    obtain ⟨q1,q2,q3⟩:=Ky (n:=fd.offset) hc.2 (by omega) u1
    refine aP h hd (hrun _ hv) ⟨rfl,b,off + fd.offset,us.drop fd.offset,by rw [Addr.add_lit],q1,by simp; omega,fun j v hj=>?_⟩
    rw [List.getElem?_drop] at hj
    have:=u3 _ _ hj
    rwa [<- Nat.add_assoc] at this
   | _=>cases he
  | _=>cases he
 | _=>cases he
theorem Nb {o:Oper} {Q:Exit->Act->World->Prop} (h:SR P N G s a w ρ S F) (hd:o.dst.all (Nat.blt · N)=true) {t:TypeId} {x i:Operand} (hop:o.op = .index t x i)
  {len:Nat} {el:TypeId} (hu:P.underlying t=some (.array len el)) {ds:List DC} (hx:RS P G.Y S w s.heap ρ (.agg ds) (a.eval x)) {k:IntKind} {n:Int} (hi:a.eval i = .int k n)
  {c:Nat} (hsz:dg P el=some c) (hb:0<=n/\n < len) {e:rj} (he:(viewAt P el ds (n.toNat * c) []).run id=some e) :
  o.wp P a w (vR P N G o s e) Q:=by
 obtain ⟨us,hv,hr⟩:=hx
 have hrun:∀ v,(part el us.toArray (n.toNat * c)).run P w = .ok v w->(execOp a.eval o).run P w = .ok (.value v) w:=fun v hp=>by
  simp only [execOp,hop,hv,hi,Instr.index,asIntOf,Sem.run_bind,Sem.run_pure,Result.andThen_ok,run_underlying hu,if_pos hb,fM hsz,hp]
 obtain ⟨sl,rfl,m,hm,⟨ha,_,hs⟩ | ⟨ha,u,Pt,hs⟩⟩:=uf hr he
 ·exact aP h hd (hrun _ (EL ha hm)) hs
 ·exact aP h hd (hrun _ (yj ha Pt)) hs
theorem Nc {o:Oper} {Q:Exit->Act->World->Prop} (h:SR P N G s a w ρ S F) (hd:o.dst.all (Nat.blt · N)=true) {t:TypeId} {x:Operand} {f:Nat} (hop:o.op = .field t x f)
  {fs:Array Field} (hu:P.underlying t=some (.struct fs)) {fd:Field} (hf:fs[f]? = some fd) {ds:List DC} (hx:RS P G.Y S w s.heap ρ (.agg ds) (a.eval x)) {e:rj}
  (he:(viewAt P fd.type ds fd.offset []).run id=some e) :
  o.wp P a w (vR P N G o s e) Q:=by
 obtain ⟨us,hv,hr⟩:=hx
 have hrun:∀ v,(part fd.type us.toArray fd.offset).run P w = .ok v w->(execOp a.eval o).run P w = .ok (.value v) w:=fun v hp=>by
  simp only [execOp,hop,hv,Instr.field,asAgg,Sem.run_bind,Sem.run_pure,Result.andThen_ok,run_underlying hu,hf,hp]
 obtain ⟨sl,rfl,m,hm,⟨ha,_,hs⟩ | ⟨ha,u,Pt,hs⟩⟩:=uf hr he
 ·exact aP h hd (hrun _ (EL ha hm)) hs
 ·exact aP h hd (hrun _ (yj ha Pt)) hs
theorem kW {α:Type} {L vs:List α} {p:Nat} (h:p + vs.length<=L.length) (k:Nat) :
  (L.take p ++ vs ++ L.drop (p + vs.length))[k]? = if k < p then L[k]? else if k < p + vs.length then vs[k - p]? else L[k]? := by
 have hl:(L.take p).length=p:=by simp; omega
 split
 ·rename_i hk
  rw [List.append_assoc,List.getElem?_append_left (by omega),List.getElem?_take,if_pos hk]
 ·rename_i hk
  rw [List.append_assoc,List.getElem?_append_right (by omega),hl]
  split
  ·rename_i hk2
   rw [List.getElem?_append_left (by omega)]
  ·rename_i hk2
   rw [List.getElem?_append_right (by omega),List.getElem?_drop]
   congr 1; omega
theorem RL.splice {rc:DC->Value->Prop} {ds cs:List DC} {us vs:List Value} (h:RL rc ds us) (hc:RL rc cs vs) (off:Nat) :
  RL rc (splice ds off cs) (us.take off ++ vs ++ us.drop (off + vs.length)):=by
 unfold Go.Dm.splice
 rw [hc.1]
 exact ((h.take off).append hc).append (h.drop _)
theorem RL.xZ {rc:DC->Value->Prop} {ds cs:List DC} {us vs:List Value} (h:RL rc ds us) (hc:RL rc cs vs) {off:Nat} (hle:off + cs.length<=ds.length) :
  RL rc (xZ ds off cs) (us.take off ++ vs ++ us.drop (off + vs.length)):=by
 unfold Go.Dm.xZ
 split
 ·rename_i τ x r
  split
  ·rename_i xs ys hxs hys
   refine ⟨by have:=h.1; have:=hc.1; simp at *; omega,fun j d u h1 h2=>?_⟩
   have hle':off + vs.length<=us.length:=by rw [<- h.1,<- hc.1]; exact hle
   rw [kW hle'] at h2
   rw [List.getElem?_map] at h1
   cases hr:(List.range (DC.pc τ x :: r).length)[j]? with
   | none=>rw [hr] at h1; cases h1
   | some j' =>
    rw [hr] at h1
    obtain ⟨hj,rfl⟩:j < (DC.pc τ x :: r).length/\j'=j:=by
     by_cases hj:j < (DC.pc τ x :: r).length
     ·rw [List.getElem?_range hj] at hr; cases hr; exact ⟨hj,rfl⟩
     ·rw [List.getElem?_eq_none (by simp at hj ⊢; omega)] at hr; cases hr
    simp only [Option.map_some,Option.some.injEq] at h1
    subst h1
    by_cases c1:j' < off
    ·rw [if_pos c1] at h2
     have hb:Nat.ble off j'=false:=by rw [<- Bool.not_eq_true,Nat.ble_eq]; omega
     simp only [hb,Bool.false_and,cond_false]
     exact h.2 j' _ _ (yh hxs j' hj x) h2
    ·rw [if_neg c1] at h2
     have hb:Nat.ble off j'=true:=by rw [Nat.ble_eq]; omega
     by_cases c2:j' < off + vs.length
     ·rw [if_pos c2] at h2
      have Sx:Nat.blt j' (off + cs.length)=true:=by rw [Nat.blt_eq,hc.1]; exact c2
      simp only [hb,Sx,Bool.and_self,cond_true]
      exact hc.2 (j' - off) _ _ (yh hys (j' - off) (by rw [hc.1]; omega) x) h2
     ·rw [if_neg c2] at h2
      have Sx:Nat.blt j' (off + cs.length)=false:=by rw [<- Bool.not_eq_true,Nat.blt_eq,hc.1]; exact c2
      simp only [hb,Sx,Bool.and_false,cond_false]
      exact h.2 j' _ _ (yh hxs j' hj x) h2
  ·exact h.splice hc off
 ·exact h.splice hc off
theorem vi {o:Oper} {t:TypeId} {x y:Operand} (hop:o.op = .store t x y) {b off:Nat} (hv:a.eval x = .pointer (some ⟨b,off,none⟩)) {arr:Array Value} {T:TypeId}
  (hh:w.heap[b]? = some (.cells arr T (0,0))) {n:Nat} (hn:dg P t=some n) (jK:(a.eval y).cells.size=n) (hle:off + n<=arr.size) (ho1:∀ v∈(a.eval y).cells.toList,v.oneCell'=true) :
  (execOp a.eval o).run P w = .ok .skip (w.setRow b (arr.toList.take off ++ (a.eval y).cells.toList ++ arr.toList.drop (off + (a.eval y).cells.toList.length)).toArray):=by
 have hrun:=run_storeCells_at (P:=P) b off T (a.eval y).cells.toList 0 arr w hh (by simp; omega) ho1
 have hne:¬ (a.eval y).cells.size≠n:=by simp [jK]
 simp only [execOp,hop,hv,Instr.storeAt,Instr.sureAddr,storeVar,Sem.run_bind,Sem.run_pure,Result.andThen_ok,fM hn,Sem.run_ite,if_neg hne,Nat.add_zero] at hrun ⊢
 rw [hrun]; rfl
theorem Bi (hG:G.Ok P) {o:Oper} {Q:Exit->Act->World->Prop} (h:SR P N G s a w ρ S F) (hd:o.dst.all (Nat.blt · N)=true) {t:TypeId} {x y:Operand} (hop:o.op = .store t x y)
  {id off:Nat} (hx:eR s.heap ρ id off (a.eval x)) {sy:Slot} (hy:RS P G.Y S w s.heap ρ sy (a.eval y)) {cs ds ds':List DC} (hc:eA sy=some cs)
  (ho:s.heap id = .box ds) {n:Nat} (hn:dg P t=some n) (hl:cs.length=n) (hle:off + cs.length<=ds.length)
  (hds:∀ {us vs:List Value},RL (RC P G.Y S w s.heap ρ) ds us->RL (RC P G.Y S w s.heap ρ) cs vs->RL (RC P G.Y S w s.heap ρ) ds' (us.take off ++ vs ++ us.drop (off + vs.length))) {rh:List Nat} :
  o.wp P a w (vR P N G o s ⟨some .top,[(id,.box ds')],rh,true,none⟩) Q:=by
 obtain ⟨b,arr,T,hb,hv,hh,hr⟩:=Dr h ho hx
 have Vg:=iU G.mI hy hc
 have jK:(a.eval y).cells.size=n:=by rw [<- hl,Vg.1]; simp
 have hex:=vi (P:=P) hop hv hh hn jK (by have:=hr.1; have:=Vg.1; simp at *; omega) (RL.mS G.mI Vg)
 unfold Oper.wp
 rw [hex]
 have q:=h.store hG ho hb hh (by have:=hr.1; have:=Vg.1; simp at *; omega) (ds':=ds') (gC:=(arr.toList.take off ++ (a.eval y).cells.toList ++ arr.toList.drop (off + (a.eval y).cells.toList.length)).toArray) (by simpa using hds hr Vg)
 exact ⟨rfl,ρ,S,F,(q.qo hd).of_eq rfl rfl rfl rfl⟩
theorem EU (hG:G.Ok P) {o:Oper} {Q:Exit->Act->World->Prop} (h:SR P N G s a w ρ S F) (hd:o.dst.all (Nat.blt · N)=true) {t:TypeId} {x y:Operand} (hop:o.op = .store t x y)
  {id bB i off:Nat} (hx:RC P G.Y S w s.heap ρ (.Qd id bB i off) (a.eval x)) {sy:Slot} (hy:RS P G.Y S w s.heap ρ sy (a.eval y)) {cs:List DC} (hc:eA sy=some cs)
  {T:TypeId} {e:Ty} {sl:Sl e.den} (ho:s.heap id = .row bB T e sl) {n:Nat} (hn:dg P t=some n) {x':e.den} (hx':gi e (splice (gE e (sl.g i)) off cs)=some x')
  (hl:cs.length=n) (hle:off + cs.length<=e.cells) {rh:List Nat} :
  o.wp P a w (vR P N G o s ⟨some .top,[(id,.row bB T e (bO sl i x'))],rh,true,none⟩) Q:=by
 have dn:=h.obj id
 rw [ho] at dn
 obtain ⟨_,_,h3⟩:=hx
 obtain ⟨b',hb',hv,hi⟩:=(h3 _ _ _ _ ho).2 rfl
 obtain ⟨⟨hfl,hpos⟩,⟨hb,_⟩ | ⟨b,arr,hb,kV,hh,hsz,hcells,hS⟩⟩:=dn
 ·rw [hb] at hb'; cases hb'
 have uk:b=b':=by rw [hb] at hb'; injection hb'
 subst uk
 have Vg:=iU G.mI hy hc
 have jK:(a.eval y).cells.size=n:=by rw [<- hl,Vg.1]; simp
 obtain ⟨Vh,wM,hel,YY⟩:=hcells i hi
 have aje:i * e.cells + e.cells<=sl.n * e.cells:=by rw [<- Nat.succ_mul]; exact Nat.mul_le_mul_right _ hi
 have hvl:(a.eval y).cells.toList.length=n:=by simpa using jK
 have hex:=vi (P:=P) hop hv hh hn jK (by omega) (RL.mS G.mI Vg)
 unfold Oper.wp
 rw [hex]
 -- the new element
 have hR:R P e S w x' (Vh.take off ++ (a.eval y).cells.toList ++ Vh.drop (off + (a.eval y).cells.toList.length)):=
  iS (Y:=G.Y) (heap:=s.heap) (ρ:=ρ) (RL.splice (ij hfl wM) Vg off) hx'
 have hlt:=(Array.getElem?_eq_some_iff.1 hh).1
 generalize hL:(arr.toList.take (i * e.cells + off) ++ (a.eval y).cells.toList ++ arr.toList.drop (i * e.cells + off + (a.eval y).cells.toList.length))=L
 have hLg:∀ k,L[k]? = if k < i * e.cells + off then arr.toList[k]? else if k < i * e.cells + off + (a.eval y).cells.toList.length then (a.eval y).cells.toList[k - (i * e.cells + off)]? else arr.toList[k]? := fun k=>by
  rw [<- hL]; exact kW (by simp; omega) k
 have hLl:L.length=arr.size:=by rw [<- hL]; simp; omega
 have gO:∀ k,k≠b->(w.setRow b L.toArray).heap[k]? = w.heap[k]? := fun k hk=>setRow_other w b k _ hk
 have EO:(w.setRow b L.toArray).heap.size=w.heap.size:=by simp [World.setRow]
 have ex:Ext0 S w S (w.setRow b L.toArray):=⟨by omega,fun _ _ x=>x,fun b' o Co=>World.cell?_of_block (a:=⟨b',o,none⟩) (gO b' (fun e=>hS o (e ▸ Co))),fun b' o es c Co hm=>(gO b' (fun e=>hS o (e ▸ Co))).trans hm,fun b' o Co=>by rw [EO]; exact h.bd b' o Co,.setRow hh (by simp [hLl])⟩
 have WO:=setRow_heap w b arr L.toArray T _ hh
 have q:=h.MP hG (id:=id) (o:=.row bB T e (bO sl i x')) (by rw [ho]; trivial) hb ex ⟨rfl,rfl,rfl,by omega,fun k hk=>gO k hk.2⟩ EO (fun _ _ q=>.inl q)
  (by rw [ho]; exact .inr ⟨_,_,rfl,Nat.le_refl _,fun _=>⟨rfl,.inl rfl⟩⟩)
  ⟨⟨hfl,hpos⟩,.inr ⟨b,L.toArray,hb,kV,WO,by simpa [hLl,bO] using hsz,fun k hk=>by
   have hk:k < sl.n:=hk
   by_cases hki:k=i
   ·subst hki
    refine ⟨Vh.take off ++ (a.eval y).cells.toList ++ Vh.drop (off + (a.eval y).cells.toList.length),by simp only [bO,Nat.beq_refl,cond_true]; exact hR.mono ex,by simp; omega,fun j v hj=>?_⟩
    have hjl:j < e.cells:=by
     have:=(List.getElem?_eq_some_iff.1 hj).1
     simp at this; omega
    rw [List.getElem?_toArray,hLg]
    rw [kW (by omega)] at hj
    by_cases c1:j < off
    ·rw [if_pos (by omega),Array.getElem?_toList]
     rw [if_pos c1] at hj
     exact YY j v hj
    ·rw [if_neg c1] at hj
     rw [if_neg (by omega)]
     by_cases c2:j < off + (a.eval y).cells.toList.length
     ·rw [if_pos c2] at hj
      rw [if_pos (by omega),show k * e.cells + j - (k * e.cells + off)=j - off by omega]
      exact hj
     ·rw [if_neg c2] at hj
      rw [if_neg (by omega),Array.getElem?_toList]
      exact YY j v hj
   ·obtain ⟨us1,v1,v2,v3⟩:=hcells k hk
    refine ⟨us1,by simp only [bO,bC hki,cond_false]; exact v1.mono ex,v2,fun j v hj=>?_⟩
    have hjl:j < e.cells:=by
     have:=(List.getElem?_eq_some_iff.1 hj).1
     omega
    rw [List.getElem?_toArray,hLg]
    rcases Nat.lt_or_gt_of_ne hki with hlt' | hgt
    ·have:k * e.cells + e.cells<=i * e.cells:=by rw [<- Nat.succ_mul]; exact Nat.mul_le_mul_right _ hlt'
     rw [if_pos (by omega),Array.getElem?_toList]; exact v3 j v hj
    ·have:i * e.cells + e.cells<=k * e.cells:=by rw [<- Nat.succ_mul]; exact Nat.mul_le_mul_right _ hgt
     rw [if_neg (by omega),if_neg (by omega),Array.getElem?_toList]; exact v3 j v hj,hS⟩⟩
 exact ⟨rfl,ρ,S,F,(q.qo hd).of_eq rfl rfl rfl rfl⟩
theorem YZ (h:SR P N G s a w ρ S F) {id bB i off:Nat} {v:Value} (hx:RC P G.Y S w s.heap ρ (.Qd id bB i off) v) {T:TypeId} {e:Ty} {sl:Sl e.den} (ho:s.heap id = .row bB T e sl) :
  ∃ b us,v = .pointer (some ⟨b,i * e.cells + off,none⟩)/\RL (RC P G.Y S w s.heap ρ) (gE e (sl.g i)) us /\
   ∀ (j:Nat) (u:Value),us[j]? = some u->w.cell? ⟨b,i * e.cells + j,none⟩=some u:=by
 have dn:=h.obj id
 rw [ho] at dn
 obtain ⟨_,_,h3⟩:=hx
 obtain ⟨b',hb',hv,hi⟩:=(h3 _ _ _ _ ho).2 rfl
 obtain ⟨⟨hfl,hpos⟩,⟨hb,_⟩ | ⟨b,arr,hb,kV,hh,hsz,hcells,hS⟩⟩:=dn
 ·rw [hb] at hb'; cases hb'
 have uk:b=b':=by rw [hb] at hb'; injection hb'
 subst uk
 obtain ⟨us,u1,u2,u3⟩:=hcells i hi
 exact ⟨b,us,hv,ij hfl u1,fun j u hj=>by rw [cell_of_row w b _ arr T _ hh]; exact u3 j u hj⟩
theorem Za (h:SR P N G s a w ρ S F) {id i:Nat} {v:Value} (hx:RC P G.Y S w s.heap ρ (.LX id i) v) {cur:Nat} {T:TypeId} {e:Ty} {d:Sl (Sl e.den)} (ho:s.heap id = .rows cur T e d) :
  ∃ b us,v = .pointer (some ⟨b,i + 0,none⟩)/\RL (RC P G.Y S w s.heap ρ) [.sub id cur i (d.g i).n] us/\∀ (j:Nat) (u:Value),us[j]? = some u->w.cell? ⟨b,i + j,none⟩=some u:=by
 have dn:=h.obj id
 rw [ho] at dn
 obtain ⟨_,_,h3⟩:=hx
 obtain ⟨b',hb',hv,hi⟩:=h3 _ _ _ _ ho
 obtain ⟨_,b,arr,T',q1,q2,q3,q4,q5,q6,q7⟩:=dn
 rw [q1] at hb'; cases hb'
 obtain ⟨ad,cap,z1,z2⟩:=q7 i hi
 refine ⟨b',[.slice ad (d.g i).n cap],hv,.cons ⟨by rw [ho]; simp,⟨_,_,_,rfl⟩,fun cu1 T1 e1 d1 h1=>?_⟩ .nil,fun j u hj=>?_⟩
 ·rw [ho] at h1; cases h1
  exact ⟨Nat.le_refl _,fun _=>⟨hi,Nat.le_refl _,ad,cap,⟨b',arr,T',q1,q3,z1⟩,rfl⟩⟩
 ·cases j with
  | zero=>cases hj; rw [cell_of_row w b' _ arr T' _ q3]; exact z1
  | succ j=>simp at hj
theorem Vi (h:SR P N G s a w ρ S F) {id bB i j off:Nat} {v:Value} (hx:RC P G.Y S w s.heap ρ (.zU id bB i j off) v) {T:TypeId} {e:Ty} {d:Sl (Sl e.den)} (ho:s.heap id = .rows bB T e d) :
  ∃ b us,v = .pointer (some ⟨b,j * e.cells + off,none⟩)/\RL (RC P G.Y S w s.heap ρ) (gE e ((d.g i).g j)) us /\
   ∀ (k:Nat) (u:Value),us[k]? = some u->w.cell? ⟨b,j * e.cells + k,none⟩=some u:=by
 have dn:=h.obj id
 rw [ho] at dn
 obtain ⟨_,_,h3⟩:=hx
 obtain ⟨hi,hj,b',cap',⟨b0,sW,T0,p1,p2,p3⟩,hv⟩:=(h3 _ _ _ _ ho).2 rfl
 obtain ⟨⟨hfl,_⟩,b,arr,T',q1,q2,q3,q4,q5,q6,q7⟩:=dn
 rw [q1] at p1; cases p1
 rw [q3] at p2; cases p2
 obtain ⟨ad,cap,z1,z2⟩:=q7 i hi
 rw [p3] at z1
 simp only [Option.some.injEq,Value.slice.injEq,true_and] at z1
 obtain ⟨z1,z3⟩:=z1
 rcases z2 with z2 | ⟨_,b2,mW,T2,y1,y2,y3,y4,y5,y6,y7,y8,y9⟩
 ·omega
 rw [<- z1] at y1; cases y1
 obtain ⟨us,u1,u2,u3⟩:=y8 j hj
 exact ⟨b',us,hv,ij hfl u1,fun k u hk=>by rw [cell_of_row w b' _ mW T2 _ y4]; exact u3 k u hk⟩
end Go.Dm
namespace Go.Dm
open Go.RowKit
variable {P:Program} {N:Nat} {G:Gh} {S S':CS} {w w':World} {s:St} {a:Act} {ρ ρ':fV} {F F':Nat->Prop} {heap heap':Nat->aN} {Y:Value} {E:cO} {Γ:Ctx}
structure Jk (P:Program) (kt:TypeId) (k:Ty):Prop where
 eq:∀ (x y:k.den) (w:World),(Op.equal kt (pack (encs k x)) (pack (encs k y))).run P w = .ok (nP k x y) w
 check:∀ (em:Bool) (x:k.den) (w:World),(Instr.checkKey em 10000 kt (pack (encs k x))).run P w = .ok () w
 wide:∃ fs,P.underlying kt=some (.struct fs)
 same:∀ x y:k.den,nP k x y=true↔x=y
 bits:∀ x:k.den,Instr.sameBits 10000 (pack (encs k x)) (pack (encs k x))=true
def ez (P:Program) (K:TypeId->Bool):Prop:=∀ kt k,K kt=true->lH P kt=some k->Jk P kt k
theorem BY:∀ {τ:Ty},τ.plain=true->∀ x y:τ.den,nP τ x y=true↔x=y
 | .int _,_,x,y=>by simp [nP]
 | .bool,_,x,y=>by simp [nP]
 | .nil,_,x,y=>by simp [nP]
 | .agg e,h,x,y=>BY (τ:=e) h x y
 | .cons a b,h,x,y=>by
  simp only [Ty.plain,Bool.and_eq_true] at h
  obtain ⟨x1,x2⟩:=x
  obtain ⟨y1,y2⟩:=y
  simp only [nP,Bool.and_eq_true,BY h.2.1,BY h.2.2,Prod.mk.injEq]
def IB (σ:Ty):Prop:=σ = .bool\/∃ k,σ = .int k
theorem rJ:∀ {l:List Ty},(∀ σ∈l,IB σ)->∀ x:(cR l).den,Typed l (encs (cR l) x)
 | [],_,_=>⟨rfl,fun j τ u q=>by simp at q⟩
 | σ :: l,h,x=>by
  have ih:=rJ (l:=l) (fun σ hm=>h σ (List.mem_cons_of_mem _ hm)) x.2
  rcases h σ (List.mem_cons_self ..) with rfl | ⟨k,rfl⟩
  ·exact ih.cons ⟨_,rfl⟩
  ·exact ih.cons ⟨_,rfl⟩
theorem Bj:∀ {l:List Ty},(∀ σ∈l,IB σ)->∀ x y:(cR l).den,eo (encs (cR l) x) (encs (cR l) y)=some (nP (cR l) x y)
 | [],_,_,_=>rfl
 | σ :: l,h,x,y=>by
  have ih:=Bj (l:=l) (fun σ hm=>h σ (List.mem_cons_of_mem _ hm)) x.2 y.2
  rcases h σ (List.mem_cons_self ..) with rfl | ⟨k,rfl⟩
  ·show (eo (encs (cR l) x.2) (encs (cR l) y.2)).map _=_
   rw [ih]; rfl
  ·show (if k=k then (eo (encs (cR l) x.2) (encs (cR l) y.2)).map _ else none)=_
   rw [if_pos rfl,ih]; rfl
theorem uo (n:Nat):∀ {l:List Ty},(∀ σ∈l,IB σ)->∀ x:(cR l).den,((encs (cR l) x).zip (encs (cR l) x)).all (fun (p:Value×Value)=>Instr.sameBits n p.1 p.2)=true
 | [],_,_=>rfl
 | σ :: l,h,x=>by
  have ih:=uo n (l:=l) (fun σ hm=>h σ (List.mem_cons_of_mem _ hm)) x.2
  rcases h σ (List.mem_cons_self ..) with rfl | ⟨k,rfl⟩
  ·have h0:∀ b:Bool,Instr.sameBits n (.bool b) (.bool b)=true:=fun b=>by cases n <;> simp [Instr.sameBits]
   exact Bool.and_eq_true_iff.2 ⟨h0 _,ih⟩
  ·have h0:∀ b:Int,Instr.sameBits n (.int k b) (.int k b)=true:=fun b=>by cases n <;> simp [Instr.sameBits]
   exact Bool.and_eq_true_iff.2 ⟨h0 _,ih⟩
theorem sD {em:Bool} {n:Nat} {cs:Array Value}:∀ (fs:List Field),(∀ f∈fs,(∃ d,P.underlying f.type=some d/\((∃ k,d = .int k)\/d = .bool))/\∃ v,cs.toList[f.offset]? = some v) ->
    (forIn fs PUnit.unit (fun f _=>if f.name ≠ "_" then do
        Instr.checkKey em (n + 1) f.type (<- part f.type cs f.offset)
        pure (ForInStep.yield PUnit.unit) else pure (ForInStep.yield PUnit.unit)):Sem PUnit).run P w = .ok PUnit.unit w
  | [],_=>rfl
  | f :: fs,h=>by
    obtain ⟨⟨d,hu,hd⟩,v,hv⟩:=h f (List.mem_cons_self ..)
    have ih:=sD (em:=em) (n:=n) (cs:=cs) fs (fun f hm=>h f (List.mem_cons_of_mem _ hm))
    have ha:cU P f.type=some false:=by
      rcases hd with ⟨k,rfl⟩ | rfl <;> simp [cU,hu]
    have hp:(part f.type cs f.offset).run P w = .ok v w:=yj (cs:=cs.toList) ha hv
    have hck:(Instr.checkKey em (n + 1) f.type v).run P w = .ok () w:=by
      unfold Instr.checkKey
      rw [Sem.run_bind,run_underlying hu]
      rcases hd with ⟨k,rfl⟩ | rfl <;> rfl
    simp only [List.forIn_cons,Sem.run_bind,Sem.run_ite]
    split
    · simp only [Sem.run_bind,hp,hck,Result.andThen_ok,Sem.run_pure]
      exact ih
    · simp only [Sem.run_pure,Result.andThen_ok]
      exact ih
def Zb (P:Program) (kt:TypeId):Bool:=
 match mV P 8 kt,P.underlying kt with
 | some l,some (.struct fs)=>decide (lH P kt=some (.agg (cR l))) && (l.all fun σ=>match σ with | .int _ | .bool=>true | _=>false) &&
  fs.toList.all (fun f=>Nat.blt f.offset l.length && match P.underlying f.type with | some (.int _) | some .bool=>true | _=>false)
 | _,_=>false
theorem au:ez P (Zb P):=by
 intro kt k hK hk
 unfold Zb at hK
 split at hK
 case h_2=>cases hK
 rename_i l fs hl hu
 simp only [Bool.and_eq_true,decide_eq_true_eq] at hK
 obtain ⟨⟨h1,h2⟩,h3⟩:=hK
 rw [h1] at hk
 cases hk
 have hib:∀ σ∈l,IB σ:=fun σ hm=>by
  rw [List.all_eq_true] at h2
  have:=h2 σ hm
  cases σ with
  | int k=>exact .inr ⟨k,rfl⟩
  | bool=>exact .inl rfl
  | _=>cases this
 have ha:cU P kt=some true:=by simp [cU,hu]
 have sC:(Ty.agg (cR l)).plain=true:=by
  show (cR l).plain=true
  clear h1 hl h3 h2 ha
  induction l with
  | nil=>rfl
  | cons σ l ih =>
   have:=ih fun σ hm=>hib σ (List.mem_cons_of_mem _ hm)
   rcases hib σ (List.mem_cons_self ..) with rfl | ⟨k,rfl⟩ <;> exact this
 refine ⟨fun x y w=>?_,fun em x w=>?_,⟨fs,hu⟩,BY sC,fun x=>?_⟩
 ·exact um 8 kt l hl 9992 w _ _ _ _ _ (rJ hib x) (rJ hib y) (.inl ⟨ha,rfl⟩) (.inl ⟨ha,rfl⟩) (Bj hib x y)
 ·show (Instr.checkKey em (9998 + 1 + 1) kt (.agg (encs (cR l) x).toArray)).run P w=_
  rw [Instr.checkKey]
  simp only [Sem.run_bind,run_underlying hu,Result.andThen_ok]
  rw [<- Array.forIn_toList]
  have:=sD (P:=P) (w:=w) (em:=em) (n:=9998) (cs:=(encs (cR l) x).toArray) fs.toList (fun f hf=>by
   rw [List.all_eq_true] at h3
   have:=h3 f hf
   simp only [Bool.and_eq_true,Nat.blt_eq] at this
   refine ⟨?_,_,List.getElem?_eq_getElem (by simpa [(rJ hib x).1] using this.1)⟩
   split at this
   ·rename_i k hk; exact ⟨_,hk,.inl ⟨k,rfl⟩⟩
   ·rename_i hk; exact ⟨_,hk,.inr rfl⟩
   ·exact absurd this.2 (by simp))
  rw [this]; rfl
 ·have:=uo 9999 hib x
  show Instr.sameBits (9999 + 1) (.agg _) (.agg _)=true
  simp only [Instr.sameBits]
  simpa using this
def qu {k v:Ty} (x:k.den):List (k.den×v.den)->Nat->Option (Nat×v.den)
 | [],_=>none
 | p :: l,i=>bif nP k x p.1 then some (i,p.2) else qu x l (i + 1)
theorem uq {kt:TypeId} {k v:Ty} (hK:Jk P kt k) (x:k.den):∀ (l:List (k.den×v.den)) (es:List MapEntry) (i:Nat),
  es.map (fun e=>(e.key,e.val))=l.map (fun p=>(pack (encs k p.1),pack (encs v p.2))) ->
  (Instr.findAsking kt (pack (encs k x)) es i).run P w = .ok ((qu x l i).map fun r=>(r.1,pack (encs v r.2))) w
 | [],[],i,_=>rfl
 | [],_ :: _,_,h=>by simp at h
 | _ :: _,[],_,h=>by simp at h
 | p :: l,e :: es,i,h=>by
  simp only [List.map_cons,List.cons.injEq,Prod.mk.injEq] at h
  obtain ⟨⟨h1,h2⟩,h3⟩:=h
  simp only [Instr.findAsking,Sem.run_bind,h1,hK.eq x p.1 w,Result.andThen_ok,qu,Sem.run_ite]
  cases he:nP k x p.1 with
  | true=>simp [h2]
  | false=>simpa using uq hK x l es (i + 1) h3
theorem pn {kt:TypeId} {k v:Ty} (hK:Jk P kt k) (x:k.den) (l:List (k.den×v.den)) (es:List MapEntry)
  (h:es.map (fun e=>(e.key,e.val))=l.map (fun p=>(pack (encs k p.1),pack (encs v p.2)))) :
  (Instr.findKey kt (pack (encs k x)) es).run P w = .ok ((qu x l 0).map fun r=>(r.1,pack (encs v r.2))) w:=by
 obtain ⟨fs,hu⟩:=hK.wide
 unfold Instr.findKey
 simp only [Sem.run_bind,run_underlying hu,Result.andThen_ok]
 cases es with
 | nil =>
  cases l with
  | nil=>rfl
  | cons p l=>simp at h
 | cons e es =>
  have:Instr.findNow (.struct fs) (pack (encs k x)) (e :: es) 0=none:=by
   simp [Instr.findNow,Instr.sameNow]
  rw [this]
  exact uq hK x l (e :: es) 0 h
theorem wO {k v:Ty} (hs:∀ x y:k.den,nP k x y=true↔x=y) {x:k.den}:∀ {l:List (k.den×v.den)} {i:Nat},qu x l i=none->∀ p∈l,p.1≠x
 | [],_,_,p,hp=>by simp at hp
 | q :: l,i,h,p,hp=>by
  simp only [qu] at h
  cases he:nP k x q.1 with
  | true=>rw [he] at h; cases h
  | false =>
   rw [he] at h
   rcases List.mem_cons.1 hp with rfl | hp
   ·intro e
    have:=(hs x p.1).2 e.symm
    rw [he] at this; cases this
   ·exact wO hs h p hp
theorem rK {k v:Ty} (hs:∀ x y:k.den,nP k x y=true↔x=y) {x:k.den}:∀ {l:List (k.den×v.den)} {i j:Nat} {y:v.den},qu x l i=some (j,y)->i<=j/\l[j - i]? = some (x,y)
 | [],_,_,_,h=>by cases h
 | q :: l,i,j,y,h=>by
  simp only [qu] at h
  cases he:nP k x q.1 with
  | true =>
   rw [he] at h
   simp only [cond_true,Option.some.injEq,Prod.mk.injEq] at h
   obtain ⟨rfl,rfl⟩:=h
   have:=(hs x q.1).1 he
   exact ⟨Nat.le_refl _,by rw [Nat.sub_self,this]; rfl⟩
  | false =>
   rw [he] at h
   simp only [cond_false] at h
   obtain ⟨h1,h2⟩:=rK hs h
   refine ⟨by omega,?_⟩
   rw [show j - i=(j - (i + 1)) + 1 by omega]
   simpa using h2
theorem ri.at {k v:Ty} (hs:∀ x y:k.den,nP k x y=true↔x=y) {m:k.den->Option v.den} {l:List (k.den×v.den)} (h1:∀ p∈l,m p.1=some p.2) (h2:∀ x y,m x=some y->(x,y)∈l) (x:k.den) :
  m x=(qu x l 0).map (·.2):=by
 cases hf:qu x l 0 with
 | none =>
  cases hm:m x with
  | none=>rfl
  | some y=>exact absurd rfl (wO hs hf _ (h2 _ _ hm))
 | some r =>
  obtain ⟨j,y⟩:=r
  obtain ⟨_,h⟩:=rK hs hf
  exact h1 _ (List.mem_of_getElem? h)
theorem mX {τ:Ty} (hp:τ.plain=true) (hs:τ.single=true) {sl:Slot} {v:Value} {x:τ.den} (h:RS P Y S w heap ρ sl v) (hx:fK τ sl=some x):v=pack (encs τ x):=by
 have:=(R.plain hp).1 (qp h hx)
 rw [<- this]; rfl
theorem Nd {τ:Ty} (hp:τ.plain=true) (hs:τ.single=true) (x:τ.den):R P τ S w x [pack (encs τ x)]:=by
 have hl:=jO τ x hp
 have hc:τ.cells=1:=by cases τ <;> first | rfl | cases hs
 rw [hc] at hl
 obtain ⟨u,hu⟩:=List.length_eq_one_iff.1 hl
 rw [R.plain hp,hu]; rfl
theorem wP {t kt vt:TypeId} {k v:Ty} (hu:P.underlying t=some (.map kt vt)) (hK:Jk P kt k) {m:k.den->Option v.den} {x:Value} {es:Array MapEntry}
    (hx:(x = .map none/\es = #[])\/∃ b c,x = .map (some b)/\w.heap[b]? = some (.map es c)) (hm:ri k v m es) (key:k.den) {i:TypeInfo} (hi:P.info? vt=some i) {zv:Value} (hz:i.zero=some zv) {z:v.den} (LZ:zv=pack (encs v z)) (ok:Bool) :
    (Instr.lookup t x (pack (encs k key)) ok).run P w = .ok (match ok with | true=>.tuple #[pack (encs v ((m key).getD z)),.bool (m key).isSome] | false=>pack (encs v ((m key).getD z))) w:=by
  obtain ⟨l,h1,h2,h3,h4⟩:=hm
  have WQ:=ri.at hK.same h3 h4 key
  have fin:∀ r:Option (Nat×v.den),qu key l 0=r -> 
      ((match r.map fun r=>(r.1,pack (encs v r.2)) with
        | some (_,v)=>(do let __x <- pure (v,true); pure (if ok=true then Value.tuple #[__x.fst,Value.bool __x.snd] else __x.fst):Sem Value)
        | none=>do let __do_lift <- zeroValue vt; let __x <- pure (__do_lift,false); pure (if ok=true then Value.tuple #[__x.fst,Value.bool __x.snd] else __x.fst)):Sem Value).run P w =
      .ok (match ok with | true=>.tuple #[pack (encs v ((m key).getD z)),.bool (m key).isSome] | false=>pack (encs v ((m key).getD z))) w:=by
    intro r hf
    rw [hf] at WQ
    cases r with
    | none =>
      simp only [Option.map_none] at WQ ⊢
      simp only [Sem.run_bind,Sem.run_pure,Result.andThen_ok,zeroValue,typeInfo,run_program,hi,hz,LZ,WQ]
      cases ok <;> rfl
    | some r =>
      simp only [Option.map_some] at WQ ⊢
      simp only [Sem.run_bind,Sem.run_pure,Result.andThen_ok,WQ]
      cases ok <;> rfl
  unfold Instr.lookup
  rcases hx with ⟨rfl,rfl⟩ | ⟨b,c,rfl,hb⟩
  · simp only [Sem.run_bind,run_underlying hu,Result.andThen_ok,Sem.run_pure,hK.check,pn hK key l _ h1]
    exact fin _ rfl
  · have hg:(getObj b).run P w = .ok (.map es c) w:=by simp [getObj,Sem.run,hb]
    simp only [Sem.run_bind,run_underlying hu,Result.andThen_ok,Sem.run_pure,hg,hK.check,pn hK key l _ h1]
    exact fin _ rfl
theorem EV {t:TypeId} {τ:Ty} (hp:τ.plain=true) (hs:τ.single=true) {d:DC} {z:τ.den} (hz:yb P t=some d) (hd:xX τ d=some z):∃ i zv,P.info? t=some i/\i.zero=some zv/\zv=pack (encs τ z):=by
 unfold yb at hz
 split at hz
 case h_2=>cases hz
 rename_i zv LZ
 split at hz
 case h_2=>cases hz
 rename_i hone
 cases hz
 obtain ⟨i,hi,hiz⟩:=Option.bind_eq_some_iff.1 LZ
 have:=(R.plain (P:=P) (S:=fun _ _=>False) (w:=default) hp).1 (Kx (Y:=.nilFunc) (heap:=fun _=>.none) (ρ:=fun _=>none) (wJ zv hone) hd)
 exact ⟨i,zv,hi,hiz,by rw [<- this]; rfl⟩
theorem lI {τ:Ty} (h:τ.one=true):τ.single=true:=by cases τ <;> first | rfl | cases h
theorem KB {K:TypeId->Bool} (hKS:ez P K) {o:Oper} {Q:Exit->Act->World->Prop} (h:SR P N G s a w ρ S F) (hd:o.dst.all (Nat.blt · N)=true) {t:TypeId} {x i:Operand} {ok:Bool} (hop:o.op = .lookup t x i ok)
  {sx si:Slot} (hx:RS P G.Y S w s.heap ρ sx (a.eval x)) (hi:RS P G.Y S w s.heap ρ si (a.eval i)) {e:rj} (he:(Dn P K t s.heap sx si ok).run id=some e) :
  o.wp P a w (vR P N G o s e) Q:=by
 unfold Dn at he
 split at he
 case h_2=>cases he
 rename_i kt vt hu
 split at he
 case h_2=>cases he
 rename_i k v z hK hk hv hz
 split at he
 case h_2=>cases he
 rename_i key zd hvo hkey hzd
 have hKA:=hKS kt k hK hk
 have fin:∀ (m:k.den->Option v.den) (rh:List Nat) (es:Array MapEntry),(k.plain=true/\v.plain=true/\k.single=true)->((a.eval x = .map none/\es = #[])\/∃ b c,a.eval x = .map (some b)/\w.heap[b]? = some (.map es c))->ri k v m es ->
   o.wp P a w (vR P N G o s ⟨some (Sm v ok (m key) zd),[],rh,true,none⟩) Q:=by
  intro m rh es ⟨hkp,hvp,hks⟩ hxm hm
  obtain ⟨ti,zv,hti,htz,LZ⟩:=EV hvp (lI hvo) hz hzd
  have hkv:=mX hkp hks hi hkey
  have hrun:=wP (P:=P) (w:=w) hu hKA hxm hm key hti htz LZ ok
  cases ok with
  | true =>
   refine aP h hd (v:=.tuple #[pack (encs v ((m key).getD zd)),.bool (m key).isSome]) ?_ ⟨[_,_],rfl,_,_,rfl,Nd hvp (lI hvo) _,_,_,rfl,rfl,rfl⟩
   simp only [execOp,hop,hkv,Sem.run_bind,hrun,Result.andThen_ok,Sem.run_pure]
  | false =>
   refine aP h hd (v:=pack (encs v ((m key).getD zd))) ?_ ⟨hvo,Nd hvp (lI hvo) _⟩
   simp only [execOp,hop,hkv,Sem.run_bind,hrun,Result.andThen_ok,Sem.run_pure]
 simp only at he
 split at he
 ·rename_i id
  cases ho:s.heap id <;> rw [ho] at he <;> try (cases he; done)
  rename_i k' v' m'
  simp only at he
  cases hcast:cZ (σ:=.map k' v') (.map k v) m' <;> rw [hcast] at he <;> try (cases he; done)
  rename_i m
  simp only [Br.run,fG,_root_.id,Option.some.injEq] at he
  subst he
  obtain ⟨e1,hm'⟩:=bK hcast
  obtain ⟨rfl,rfl⟩:k'=k/\v'=v:=by injection e1 with a b; exact ⟨a,b⟩
  obtain rfl:m=m':=hm'
  have dn:=h.obj id
  rw [ho] at dn
  obtain ⟨b,es,c,q1,q2,q3,⟨p1,p2,p3,p4⟩,q5,q6⟩:=dn
  obtain ⟨_,_,hx3⟩:=hx
  obtain ⟨b',hb',dJ⟩:=hx3 _ _ _ ho
  rw [q1] at hb'; cases hb'
  exact fin m [id] es ⟨p1,p2,p3⟩ (.inr ⟨b,c,dJ,q3⟩) q5.1
 ·rename_i k' v' m'
  cases hcast:cZ (σ:=.map k' v') (.map k v) m' <;> rw [hcast] at he <;> try (cases he; done)
  rename_i m
  simp only [Br.run,fG,_root_.id,Option.some.injEq] at he
  subst he
  obtain ⟨e1,hm'⟩:=bK hcast
  obtain ⟨rfl,rfl⟩:k'=k/\v'=v:=by injection e1 with a b; exact ⟨a,b⟩
  obtain rfl:m=m':=hm'
  obtain ⟨_,p1,p2,p3,p4,hr⟩:=hx
  rcases hr with ⟨r,tY,hr2,hr3⟩ | ⟨b,es,c,tY,hr2,hr3,hr4⟩
  ·subst hr2
   exact fin m [] #[] ⟨p1,p2,p3⟩ (.inl ⟨by simpa using tY,rfl⟩) ⟨[],rfl,by simp,by simp,fun x y q=>by rw [show m x=none from hr3 x] at q; cases q⟩
  ·exact fin m [] es ⟨p1,p2,p3⟩ (.inr ⟨b,c,by simpa using tY,hr3⟩) hr4
 ·cases he
theorem nT {α:Type} (es:Array α) (i j:Nat) (f:α->α):(es.modify i f).toList[j]? = if i=j then es.toList[j]?.map f else es.toList[j]? := by
 rw [Array.getElem?_toList,Array.getElem?_toList,Array.getElem?_modify]
theorem Nf {es:Array MapEntry} {c:Nat} {x y:Value} (h1:∀ e∈es.toList,e.born < c) (h2:(es.toList.map (·.born)).Nodup):Stm (es.push { key:=x,val:=y,born:=c }) (c + 1):=by
 refine ⟨fun e he=>?_,?_⟩
 ·rw [Array.toList_push,List.mem_append,List.mem_singleton] at he
  rcases he with he | rfl
  ·have:=h1 e he; omega
  ·exact Nat.lt_succ_self _
 ·rw [Array.toList_push,List.map_append,List.nodup_append]
  refine ⟨h2,by simp,fun b hb b' hb'=>?_⟩
  simp only [List.map_cons,List.map_nil,List.mem_singleton] at hb'
  obtain ⟨e,he,rfl⟩:=List.mem_map.1 hb
  have:=h1 e he
  omega
theorem Qs {es:Array MapEntry} {c i:Nat} {f:MapEntry->MapEntry} (h1:∀ e∈es.toList,e.born < c) (h2:(es.toList.map (·.born)).Nodup) (hf:∀ e,(f e).born=e.born):Stm (es.modify i f) c:=by
 have key:(es.modify i f).toList.map (·.born)=es.toList.map (·.born):=by
  apply List.ext_getElem?
  intro j
  rw [List.getElem?_map,List.getElem?_map,nT]
  split
  ·cases es.toList[j]? with
   | none=>rfl
   | some e=>simp [hf]
  ·rfl
 refine ⟨fun e he=>?_,by rw [key]; exact h2⟩
 have:e.born∈(es.modify i f).toList.map (·.born):=List.mem_map.2 ⟨e,he,rfl⟩
 rw [key] at this
 obtain ⟨e',he',q⟩:=List.mem_map.1 this
 rw [<- q]; exact h1 e' he'
theorem pP {t kt vt:TypeId} {k v:Ty} (hu:P.underlying t=some (.map kt vt)) (hK:Jk P kt k) {m:k.den->Option v.den} {b c:Nat} {es:Array MapEntry}
  (hb:w.heap[b]? = some (.map es c)) (hm:acU k v m es c) (key:k.den) (val:v.den) :
  ∃ es' c',(Instr.mapUpdate t (.map (some b)) (pack (encs k key)) (pack (encs v val))).run P w = .ok () (w.putObj b (.map es' c'))/\acU k v (ek (nP k) m key val) es' c':=by
 obtain ⟨hm,ac3,Zc⟩:=hm
 obtain ⟨l,h1,h2,h3,h4⟩:=hm
 have WQ:=ri.at hK.same h3 h4 key
 have hg:(getObj b).run P w = .ok (.map es c) w:=by simp [getObj,Sem.run,hb]
 have EW:∀ o,(setObj b o).run P w = .ok () (w.putObj b o):=fun o=>by simp [setObj,Sem.run,hb,World.putObj]
 have Ng:=pn (P:=P) (w:=w) hK key l es.toList h1
 have heq:∀ z,nP k z key=true↔z=key:=fun z=>hK.same z key
 cases hf:qu key l 0 with
 | none =>
  have aqm:=wO hK.same hf
  rw [hf] at Ng WQ
  refine ⟨es.push { key:=pack (encs k key),val:=pack (encs v val),born:=c },c + 1,?_,⟨l ++ [(key,val)],by simp [h1],?_,?_,?_⟩,Nf ac3 Zc⟩
  ·unfold Instr.mapUpdate
   simp only [Sem.run_bind,run_underlying hu,Result.andThen_ok,hg,hK.check,Ng,Option.map_none,EW]
  ·rw [List.map_append,List.nodup_append]
   refine ⟨h2,by simp,fun a ha b' hb'=>?_⟩
   obtain ⟨p,hp,rfl⟩:=List.mem_map.1 ha
   simp at hb'
   subst hb'
   exact aqm p hp
  ·intro p hp
   rcases List.mem_append.1 hp with hp | hp
   ·have hne:=aqm p hp
    have:nP k p.1 key=false:=by rw [<- Bool.not_eq_true,heq]; exact hne
    simp only [ek,this,cond_false]; exact h3 p hp
   ·simp at hp
    subst hp
    have:nP k key key=true:=(heq key).2 rfl
    simp only [ek,this,cond_true]
  ·intro x y hx
   simp only [ek] at hx
   cases he:nP k x key with
   | true =>
    rw [he] at hx
    simp only [cond_true,Option.some.injEq] at hx
    rw [(heq x).1 he,<- hx]; simp
   | false=>rw [he] at hx; exact List.mem_append.2 (.inl (h4 x y hx))
 | some r =>
  obtain ⟨i,y0⟩:=r
  obtain ⟨_,rL⟩:=rK hK.same hf
  rw [Nat.sub_zero] at rL
  rw [hf] at Ng
  have hei:∃ e,es.toList[i]? = some e/\e.key=pack (encs k key)/\e.val=pack (encs v y0):=by
   have:=congrArg (fun z=>z[i]?) h1
   simp only [List.getElem?_map,rL,Option.map_some] at this
   cases he:es.toList[i]? with
   | none=>rw [he] at this; cases this
   | some e =>
    rw [he] at this
    simp only [Option.map_some,Option.some.injEq,Prod.mk.injEq] at this
    exact ⟨e,rfl,this.1,this.2⟩
  obtain ⟨e,he,hek,hev⟩:=hei
  have he':es[i]? = some e:=by simpa using he
  refine ⟨es.modify i fun e=>{ e with key:=pack (encs k key),val:=pack (encs v val) },c,?_,⟨l.set i (key,val),?_,?_,?_,?_⟩,Qs ac3 Zc fun _=>rfl⟩
  ·unfold Instr.mapUpdate
   simp only [Sem.run_bind,run_underlying hu,Result.andThen_ok,hg,hK.check,Ng,Option.map_some,he',Option.getD_some,hek,Instr.keyThatStays,hK.bits,if_true,Sem.run_pure,EW]
  ·apply List.ext_getElem?
   intro j
   rw [List.getElem?_map,List.getElem?_map,nT,List.getElem?_set]
   have hj:=congrArg (fun z=>z[j]?) h1
   simp only [List.getElem?_map] at hj
   have hlen:i < l.length:=(List.getElem?_eq_some_iff.1 rL).1
   by_cases hij:i=j
   ·subst hij
    rw [if_pos rfl,if_pos rfl,if_pos hlen,he]
    rfl
   ·rw [if_neg hij,if_neg hij]; exact hj
  ·have:(l.set i (key,val)).map (·.1)=l.map (·.1):=by
    apply List.ext_getElem?
    intro j
    rw [List.getElem?_map,List.getElem?_map,List.getElem?_set]
    by_cases hij:i=j
    ·subst hij
     have hlen:i < l.length:=(List.getElem?_eq_some_iff.1 rL).1
     rw [if_pos rfl,if_pos hlen,rL]; rfl
    ·rw [if_neg hij]
   rw [this]; exact h2
  ·intro p hp
   obtain ⟨j,hj,hpj⟩:=List.getElem_of_mem hp
   have EX:(l.set i (key,val))[j]? = some p:=by rw [List.getElem?_eq_getElem hj,hpj]
   rw [List.getElem?_set] at EX
   by_cases hij:i=j
   ·subst hij
    have hlen:i < l.length:=(List.getElem?_eq_some_iff.1 rL).1
    rw [if_pos rfl,if_pos hlen] at EX
    simp only [Option.some.injEq] at EX
    subst EX
    have:nP k key key=true:=(heq key).2 rfl
    simp only [ek,this,cond_true]
   ·rw [if_neg hij] at EX
    have hne:p.1≠key:=fun e=>by
     have hj1:(l.map (·.1))[j]? = some key:=by rw [List.getElem?_map,EX,<- e]; rfl
     have hi1:(l.map (·.1))[i]? = some key:=by rw [List.getElem?_map,rL]; rfl
     have hlj:=(List.getElem?_eq_some_iff.1 hj1).1
     rw [List.getElem?_eq_some_iff] at hi1 hj1
     obtain ⟨l1,q1⟩:=hi1
     obtain ⟨l2,q2⟩:=hj1
     have hpw:=List.pairwise_iff_getElem.1 h2
     rcases Nat.lt_or_gt_of_ne hij with hlt | hgt
     ·exact hpw i j l1 l2 hlt (by rw [q1,q2])
     ·exact hpw j i l2 l1 hgt (by rw [q1,q2])
    have:nP k p.1 key=false:=by rw [<- Bool.not_eq_true,heq]; exact hne
    simp only [ek,this,cond_false]; exact h3 p (List.mem_of_getElem? EX)
  ·intro x y hx
   simp only [ek] at hx
   have hlen:i < l.length:=(List.getElem?_eq_some_iff.1 rL).1
   cases Zd:nP k x key with
   | true =>
    rw [Zd] at hx
    simp only [cond_true,Option.some.injEq] at hx
    rw [(heq x).1 Zd,<- hx]
    exact List.mem_of_getElem? (i:=i) (by rw [List.getElem?_set,if_pos rfl,if_pos hlen])
   | false =>
    rw [Zd] at hx
    obtain ⟨j,hj,hpj⟩:=List.getElem_of_mem (h4 x y hx)
    have EX:l[j]? = some (x,y):=by rw [List.getElem?_eq_getElem hj,hpj]
    refine List.mem_of_getElem? (i:=j) ?_
    have hij:i≠j:=fun e=>by
     subst e
     rw [rL] at EX
     cases EX
     rw [(heq _).2 rfl] at Zd; cases Zd
    rw [List.getElem?_set,if_neg hij]; exact EX
theorem Vj {t kt vt:TypeId} {k v:Ty} (hu:P.underlying t=some (.map kt vt)) (hK:Jk P kt k) {m:k.den->Option v.den} {b c:Nat} {es:Array MapEntry}
  (hb:w.heap[b]? = some (.map es c)) (hm:acU k v m es c) (key:k.den) {ti:TypeInfo} (hti:P.info? vt=some ti) {zv:Value} (htz:ti.zero=some zv) {z:v.den} (LZ:zv=pack (encs v z)) :
  ∃ es1 c1 st v0,∃ m1:k.den->Option v.den,(Instr.mapEntry t (.map (some b)) (pack (encs k key))).run P w = .ok (.tuple #[v0,goInt st]) (w.putObj b (.map es1 c1))/\ri k v m1 es1/\(m1 key).getD z=(m key).getD z /\
   ∀ val:v.den,∃ es' c',(∀ w2:World,w2.heap[b]? = some (.map es1 c1)->(Instr.entryStore t (.map (some b)) (goInt st) (pack (encs v val))).run P w2 = .ok () (w2.putObj b (.map es' c'))) /\
    (Instr.mapUpdate t (.map (some b)) (pack (encs k key)) (pack (encs v val))).run P w = .ok () (w.putObj b (.map es' c')):=by
 have hup:=fun val=>pP (P:=P) (w:=w) hu hK hb hm key val
 have hlt:=(Array.getElem?_eq_some_iff.1 hb).1
 obtain ⟨hm,ac3,Zc⟩:=hm
 have hm0:=hm
 obtain ⟨l,h1,h2,h3,h4⟩:=hm
 have WQ:=ri.at hK.same h3 h4 key
 have hg:(getObj b).run P w = .ok (.map es c) w:=by simp [getObj,Sem.run,hb]
 have EW:∀ o,(setObj b o).run P w = .ok () (w.putObj b o):=fun o=>by simp [setObj,Sem.run,hb,World.putObj]
 have Ng:=pn (P:=P) (w:=w) hK key l es.toList h1
 have heq:∀ z,nP k z key=true↔z=key:=fun z=>hK.same z key
 have hz:(zeroValue vt).run P w = .ok zv w:=by simp only [zeroValue,typeInfo,Sem.run_bind,run_program,Result.andThen_ok,hti,htz,Sem.run_pure]
 cases hf:qu key l 0 with
 | none =>
  rw [hf] at Ng WQ
  have hrun:∀ val,(Instr.mapUpdate t (.map (some b)) (pack (encs k key)) (pack (encs v val))).run P w = .ok () (w.putObj b (.map (es.push { key:=pack (encs k key),val:=pack (encs v val),born:=c }) (c + 1))):=fun val=>by
   unfold Instr.mapUpdate
   simp only [Sem.run_bind,run_underlying hu,Result.andThen_ok,hg,hK.check,Ng,Option.map_none,EW]
  refine ⟨es.push { key:=pack (encs k key),val:=zv,born:=c },c + 1,c,zv,ek (nP k) m key z,?_,?_,?_,fun val=>⟨es.push { key:=pack (encs k key),val:=pack (encs v val),born:=c },c + 1,fun w2 hw2=>?_,hrun val⟩⟩
  ·unfold Instr.mapEntry
   simp only [Sem.run_bind,run_underlying hu,Result.andThen_ok,hg,hK.check,Ng,Option.map_none,hz,EW,Sem.run_pure]
  ·obtain ⟨es',c',q1,q2,_⟩:=hup z
   have:=hrun z
   rw [q1] at this
   injection this with _ this
   have e1:(w.putObj b (.map es' c')).heap[b]? = some (.map es' c'):=World.putObj_heap_same hlt
   rw [this,World.putObj_heap_same hlt] at e1
   injection e1 with e1
   injection e1 with e1 _
   rw [LZ,e1]; exact q2
  ·have:nP k key key=true:=(heq key).2 rfl
   simp only [ek,this,cond_true,WQ,Option.map_none]
   rfl
  ·have hg2:(getObj b).run P w2 = .ok (.map (es.push { key:=pack (encs k key),val:=zv,born:=c }) (c + 1)) w2:=by simp [getObj,Sem.run,hw2]
   have Ze:∀ o,(setObj b o).run P w2 = .ok () (w2.putObj b o):=fun o=>by simp [setObj,Sem.run,hw2,World.putObj]
   have hidx:(es.push { key:=pack (encs k key),val:=zv,born:=c }).findIdx? (fun e=>((e.born:Nat):Int) == ((c:Nat):Int))=some es.size:=by
    rw [WideElems.findIdx_arr]
    exact WideElems.findIdx_born (l:=(es.push { key:=pack (encs k key),val:=zv,born:=c }).toList) (j:=es.size) (e0:={ key:=pack (encs k key),val:=zv,born:=c }) (Nf ac3 Zc).2 (by simp)
   have hmod:(es.push { key:=pack (encs k key),val:=zv,born:=c }).modify es.size (fun e=>{ e with val:=pack (encs v val) })=es.push { key:=pack (encs k key),val:=pack (encs v val),born:=c }:=by
    apply Array.ext'
    rw [Array.toList_modify,Array.toList_push,Array.toList_push,<- Array.length_toList,WideElems.modify_last]
   unfold Instr.entryStore
   simp only [Sem.run_bind,Result.andThen_ok,hg2,asInt,asIntOf,goInt,Sem.run_pure,hidx,hmod,Ze]
 | some r =>
  obtain ⟨i,y0⟩:=r
  obtain ⟨_,rL⟩:=rK hK.same hf
  rw [Nat.sub_zero] at rL
  rw [hf] at Ng
  have hei:∃ e,es.toList[i]? = some e/\e.key=pack (encs k key)/\e.val=pack (encs v y0):=by
   have:=congrArg (fun z=>z[i]?) h1
   simp only [List.getElem?_map,rL,Option.map_some] at this
   cases he:es.toList[i]? with
   | none=>rw [he] at this; cases this
   | some e =>
    rw [he] at this
    simp only [Option.map_some,Option.some.injEq,Prod.mk.injEq] at this
    exact ⟨e,rfl,this.1,this.2⟩
  obtain ⟨e,he,hek,hev⟩:=hei
  have he':es[i]? = some e:=by simpa using he
  have hsame:(es.modify i fun e=>{ e with key:=pack (encs k key) })=es:=by
   apply Array.ext'
   apply List.ext_getElem?
   intro j
   rw [nT]
   split
   ·rename_i hij
    subst hij
    rw [he,Option.map_some,<- hek]
   ·rfl
  refine ⟨es,c,e.born,pack (encs v y0),m,?_,hm0,rfl,fun val=>⟨es.modify i fun e=>{ e with key:=pack (encs k key),val:=pack (encs v val) },c,fun w2 hw2=>?_,?_⟩⟩
  ·unfold Instr.mapEntry
   simp only [Sem.run_bind,run_underlying hu,Result.andThen_ok,hg,hK.check,Ng,Option.map_some,he',Option.getD_some,hek,Instr.keyThatStays,hK.bits,if_true,Sem.run_pure,EW,hsame]
  ·have hg2:(getObj b).run P w2 = .ok (.map es c) w2:=by simp [getObj,Sem.run,hw2]
   have Ze:∀ o,(setObj b o).run P w2 = .ok () (w2.putObj b o):=fun o=>by simp [setObj,Sem.run,hw2,World.putObj]
   have hidx:es.findIdx? (fun e'=>((e'.born:Nat):Int) == ((e.born:Nat):Int))=some i:=by
    rw [WideElems.findIdx_arr]
    exact WideElems.findIdx_born Zc he
   have hmod:es.modify i (fun e'=>{ e' with val:=pack (encs v val) })=es.modify i (fun e'=>{ e' with key:=pack (encs k key),val:=pack (encs v val) }):=by
    apply Array.ext'
    apply List.ext_getElem?
    intro j
    rw [nT,nT]
    split
    ·rename_i hij
     subst hij
     rw [he,Option.map_some,Option.map_some,<- hek]
    ·rfl
   unfold Instr.entryStore
   simp only [Sem.run_bind,Result.andThen_ok,hg2,asInt,asIntOf,goInt,Sem.run_pure,hidx,hmod,Ze]
  ·unfold Instr.mapUpdate
   simp only [Sem.run_bind,run_underlying hu,Result.andThen_ok,hg,hK.check,Ng,Option.map_some,he',Option.getD_some,hek,Instr.keyThatStays,hK.bits,if_true,Sem.run_pure,EW]
theorem Ct {K:TypeId->Bool} (hKS:ez P K) (hG:G.Ok P) {o:Oper} {Q:Exit->Act->World->Prop} (h:SR P N G s a w ρ S F) (hd:o.dst.all (Nat.blt · N)=true) {t:TypeId} {x i y:Operand} (hop:o.op = .mapUpdate t x i y)
  {sx si sy:Slot} (hx:RS P G.Y S w s.heap ρ sx (a.eval x)) (hi:RS P G.Y S w s.heap ρ si (a.eval i)) (hy:RS P G.Y S w s.heap ρ sy (a.eval y)) {e:rj} (he:(rA P K t s.heap sx si sy).run id=some e) :
  o.wp P a w (vR P N G o s e) Q:=by
 unfold rA at he
 split at he
 case h_2=>cases he
 rename_i kt vt hu
 split at he
 case h_2=>cases he
 rename_i k v id hK hk hv
 split at he
 case h_2=>cases he
 rename_i k' v' m' ho
 split at he
 case h_2=>cases he
 rename_i m key val hcast hkey hval hvo
 cases he
 obtain ⟨e1,hm'⟩:=bK hcast
 obtain ⟨rfl,rfl⟩:k'=k/\v'=v:=by injection e1 with a b; exact ⟨a,b⟩
 obtain rfl:m=m':=hm'
 have dn:=h.obj id
 rw [ho] at dn
 obtain ⟨b,es,c,q1,q2,q3,⟨p1,p2,p3,p4⟩,q5,q6⟩:=dn
 obtain ⟨_,_,hx3⟩:=hx
 obtain ⟨b',hb',dJ⟩:=hx3 _ _ _ ho
 rw [q1] at hb'; cases hb'
 obtain ⟨es',c',hrun,aA8⟩:=pP (P:=P) hu (hKS kt _ hK hk) q3 q5 key val
 have hkv:=mX p1 p3 hi hkey
 have hvv:=mX p2 p4 hy hval
 have hlt:=(Array.getElem?_eq_some_iff.1 q3).1
 have hex:(execOp a.eval o).run P w = .ok .skip (w.putObj b (.map es' c')):=by
  simp only [execOp,hop,hkv,hvv,dJ,Sem.run_bind,hrun,Result.andThen_ok,Sem.run_pure]
 unfold Oper.wp
 rw [hex]
 have gO:∀ j,j≠b->(w.putObj b (.map es' c')).heap[j]? = w.heap[j]? := fun j hj=>World.putObj_heap_other hj
 have hsz:(w.putObj b (.map es' c')).heap.size=w.heap.size:=by simp [World.putObj]
 have ex:Ext0 S w S (w.putObj b (.map es' c')):=⟨by omega,fun _ _ x=>x,fun b' o hS=>World.cell?_of_block (a:=⟨b',o,none⟩) (gO b' (fun e=>q6 o (e ▸ hS))),fun b' o es c hS hm=>(gO b' (fun e=>q6 o (e ▸ hS))).trans hm,fun b' o hS=>by rw [hsz]; exact h.bd b' o hS,.putObj hlt (fun _ _ _=>by simp)⟩
 have q:=h.MP hG (id:=id) (o:=.mp k' v' (ek (nP k') m key val)) (by rw [ho]; trivial) q1 ex ⟨rfl,rfl,rfl,by omega,fun j hj=>gO j hj.2⟩ hsz (fun _ _ q=>.inl q) (by rw [ho]; exact .inr ⟨⟨_,rfl⟩,rfl⟩)
  ⟨b,es',c',q1,q2,World.putObj_heap_same hlt,⟨p1,p2,p3,p4⟩,aA8,q6⟩
 exact ⟨rfl,ρ,S,F,(q.qo hd).of_eq rfl rfl rfl rfl⟩
end Go.Dm
namespace Go.Dm
open Go.RowKit
variable {P:Program} {N:Nat} {G:Gh} {S S':CS} {w w':World} {s:St} {a:Act} {ρ ρ':fV} {F F':Nat->Prop} {heap heap':Nat->aN} {Y:Value} {E:cO} {Γ:Ctx}
theorem EY (hG:G.Ok P) {o:Oper} {Q:Exit->Act->World->Prop} (h:SR P N G s a w ρ S F) (hd:o.dst.all (Nat.blt · N)=true) {t:TypeId} {l c:Operand} (hop:o.op = .makeSlice t l c)
  {cv:Nat} (hlo:G.lo<=cv) {el:TypeId} {n:Int} (hl:RS P G.Y S w s.heap ρ (.v (.pc (.int .i64) n)) (a.eval l)) (hu:P.underlying t=some (.slice el)) (hsame:Dl l c=true) (hn:s.heap cv = .none)
  {i:TypeInfo} {cs:List DC} (hi:P.info? el=some i) (hz:ig P el=some cs) {e:rj} (he:(va P el cv i cs n).run id=some e) :
  o.wp P a w (vR P N G o s e) Q:=by
 unfold va at he
 split at he
 case h_2=>cases he
 rename_i el2 hu2
 split at he
 case h_2=>cases he
 rename_i τ k hτ hk
 split at he
 case h_2=>cases he
 rename_i Bf
 simp only [Bool.and_eq_true,Nat.blt_eq] at Bf
 obtain ⟨⟨⟨c1,c2⟩,c3⟩,c4⟩:=Bf
 have c1:=Nat.eq_of_beq_eq_true c1
 have c2:=Nat.eq_of_beq_eq_true c2
 simp only [Br.run,fG,bad] at he
 cases hb:decide (0 < n/\n<=281474976710656/\n * i.bytes<=281474976710656) with
 | false=>simp only [hb,cond_false] at he; cases he
 | true =>
  simp only [hb,cond_true,_root_.id] at he
  cases he
  obtain ⟨b1,b2,b3⟩:=of_decide_eq_true hb
  have el1:=jP hl
  have aA9:a.eval c = .int .i64 n:=by
   unfold Dl at hsame
   split at hsame
   ·have:=Nat.eq_of_beq_eq_true hsame
    subst this
    exact el1
   ·cases hsame
  obtain ⟨i',zv,hi',LZ,hzr⟩:=uh hz
  rw [hi] at hi'; cases hi'
  have hrun:=run_make (P:=P) w t el i zv hu hi LZ .i64 .i64 n n (by omega) (Int.le_refl _) (by rw [Int.mul_comm]; exact b3) (Int.le_trans b2 (by decide))
  have hex:(execOp a.eval o).run P w = .ok (.value (.slice (some ⟨w.heap.size,0,none⟩) n.toNat n.toNat)) (w.alloc (.cells (madeCells zv.cells (n.toNat * i.size)) el)):=by
   simp only [execOp,hop,el1,aA9,Sem.run_bind,hrun,Result.andThen_ok,Sem.run_pure]
  obtain ⟨za,hza⟩:∃ za,zv.cells.toList=[.slice za 0 0]:=by
   have:=hzr (w:=w) (S:=S) (heap:=s.heap) (ρ:=ρ) G.mI
   generalize zv.cells.toList=zl at this
   cases zl with
   | nil=>have:=this.1; cases this
   | cons u us =>
    obtain ⟨q1,q2⟩:=this.of_cons
    have:=q2.1
    cases us with
    | cons _ _=>cases this
    | nil=>obtain ⟨za,rfl⟩:=q1; exact ⟨za,rfl⟩
  have Qq:zv.cells.size=1:=by have:=congrArg List.length hza; simpa using this
  have hz0:zv.cells[0]? = some (.slice za 0 0):=by rw [<- Array.getElem?_toList,hza]; rfl
  have hsz:(madeCells zv.cells (n.toNat * i.size)).size=n.toNat:=by rw [size_madeCells,c1,Nat.mul_one]
  have dM:∀ k,k < n.toNat->(madeCells zv.cells (n.toNat * i.size))[k]? = some (.slice za 0 0):=fun k hk=>by
   unfold madeCells
   rw [Array.getElem?_map,Array.getElem?_range,if_pos (by rw [c1]; omega)]
   simp only [Option.map_some]
   rw [Qq,Nat.mod_one,getElem!_def,hz0]
  have agb:∀ (k:Nat) v,(madeCells zv.cells (n.toNat * i.size))[k]? = some v->v = .slice za 0 0:=fun k v hv=>by
   have:=(Array.getElem?_eq_some_iff.1 hv).1
   rw [dM k (by omega)] at hv
   exact (Option.some.inj hv).symm
  have hlen:n.toNat<=maxLen:=by unfold maxLen; omega
  refine vg hG h hd hn hlo (dc:=.rows cv) (v:=.slice (some ⟨w.heap.size,0,none⟩) n.toNat n.toNat) (dob:=.rows 0 el2 τ ⟨n.toNat,fun _=>⟨0,fun _=>τ.dflt⟩⟩)
   (fun h1 r1 w1 h2 h3 h4=>⟨by rw [h2]; simp,⟨_,_,_,rfl⟩,fun cu T e s' he=>?_⟩) ?_ hex (.inr fun b q=>?_)
  ·rw [h2] at he; cases he
   exact ⟨w.heap.size,_,h3,rfl,Nat.le_refl _,hlen⟩
  ·refine ⟨⟨c4,by omega⟩,w.heap.size,_,el,by simp,ve.new h,heap_alloc_new w _,hsz,fun o hS=>absurd (h.bd _ _ hS) (by omega),fun i j b' n m c c' q _=>?_,fun i hi=>⟨za,0,dM i hi,.inl rfl⟩⟩
   have:=agb i _ q
   cases this
  ·rcases q with q | ⟨i,n',cap,b0,arr,T,q1,q2,q3⟩
   ·have q:(if cv=cv then some w.heap.size else ρ cv)=some b:=q
    rw [if_pos rfl] at q; exact (Option.some.inj q).symm
   ·have q1:(if cv=cv then some w.heap.size else ρ cv)=some b0:=q1
    rw [if_pos rfl] at q1
    cases q1
    rw [heap_alloc_new] at q2
    cases q2
    have:=agb i _ q3
    cases this
theorem Cu (hG:G.Ok P) {o:Oper} {Q:Exit->Act->World->Prop} (h:SR P N G s a w ρ S F) (hd:o.dst.all (Nat.blt · N)=true) {t:TypeId} {l c:Operand} (hop:o.op = .makeSlice t l c)
  {cv:Nat} (hlo:G.lo<=cv) {ls:Slot} (hl:RS P G.Y S w s.heap ρ ls (a.eval l)) {e:rj} (he:(rz P t cv s.heap l c ls).run id=some e) :
  o.wp P a w (vR P N G o s e) Q:=by
 unfold rz at he
 split at he
 case h_2=>cases he
 rename_i el n hu hsame hn
 split at he
 case h_2=>cases he
 rename_i i cs hi hz
 split at he
 case h_2=>exact EY hG h hd hop hlo hl hu hsame hn hi hz he
 rename_i τ hτ
 split at he
 case h_2=>cases he
 rename_i z Vk
 split at he
 case h_2=>cases he
 rename_i Bf
 simp only [Bool.and_eq_true,Nat.blt_eq] at Bf
 obtain ⟨⟨⟨c1,c2⟩,c3⟩,c4⟩:=Bf
 have c1:=Nat.eq_of_beq_eq_true c1
 simp only [Br.run,fG,bad] at he
 cases hb:decide (0<=(show Int from n)/\(show Int from n)<=281474976710656/\(show Int from n) * i.bytes<=281474976710656) with
 | false=>simp only [hb,cond_false] at he; cases he
 | true =>
  simp only [hb,cond_true,_root_.id] at he
  cases he
  obtain ⟨b1,b2,b3⟩:=of_decide_eq_true hb
  have el1:=jP hl
  have el2:a.eval c = .int .i64 n:=by
   unfold Dl at hsame
   split at hsame
   ·rename_i t1 t2
    have:=Nat.eq_of_beq_eq_true hsame
    subst this
    exact el1
   ·cases hsame
  obtain ⟨i',zv,hi',LZ,hzr⟩:=uh hz
  rw [hi] at hi'; cases hi'
  have hrun:=run_make (P:=P) w t el i zv hu hi LZ .i64 .i64 n n b1 (Int.le_refl _) (by rw [Int.mul_comm]; exact b3) (Int.le_trans b2 (by decide))
  have hex:(execOp a.eval o).run P w = .ok (.value (.slice (some ⟨w.heap.size,0,none⟩) (show Int from n).toNat (show Int from n).toNat)) (w.alloc (.cells (madeCells zv.cells ((show Int from n).toNat * i.size)) el)):=by
   simp only [execOp,hop,el1,el2,Sem.run_bind,hrun,Result.andThen_ok,Sem.run_pure]
  have hzl:zv.cells.toList=encs τ z:=(R.plain (P:=P) (S:=S) (w:=w) c3).1 (iS (Y:=G.Y) (heap:=s.heap) (ρ:=ρ) (hzr G.mI) Vk)
  have aBa:zv.cells.size=τ.cells:=by have:=congrArg List.length hzl; rw [jO _ _ c3] at this; simpa using this
  have hlen:(show Int from n).toNat<=maxLen:=by unfold maxLen; omega
  refine vg hG h hd hn hlo (dc:=.row cv 0) (v:=.slice (some ⟨w.heap.size,0,none⟩) (show Int from n).toNat (show Int from n).toNat) (dob:=.row 0 el τ ⟨(show Int from n).toNat,fun _=>z⟩)
   (fun h1 r1 w1 h2 h3 h4=>⟨by rw [h2]; simp,⟨_,_,_,rfl⟩,fun cu T e s' he=>?_⟩) ?_ hex
  ·rw [h2] at he; cases he
   exact ⟨Nat.le_refl _,fun _=>.inr ⟨w.heap.size,_,h3,rfl,Nat.le_refl _,hlen,(Array.getElem?_eq_some_iff.1 h4).1,fun arr T f ha=>by rw [h4] at ha; cases ha; rw [size_madeCells,c1]⟩⟩
  ·refine ⟨⟨c4,by omega⟩,.inr ⟨w.heap.size,_,by simp,ve.new h,heap_alloc_new w _,by rw [size_madeCells,c1]; exact Nat.le_refl _,fun j hj=>⟨encs τ z,(R.plain c3).2 rfl,jO _ _ c3,fun k v hk=>?_⟩,fun o hS=>absurd (h.bd _ _ hS) (by omega)⟩⟩
   have hkl:k < τ.cells:=by
    have:=(List.getElem?_eq_some_iff.1 hk).1
    rwa [jO _ _ c3] at this
   have hjk:j * τ.cells + k < (show Int from n).toNat * i.size:=by
    rw [c1]
    have:j * τ.cells + τ.cells<=(show Int from n).toNat * τ.cells:=by rw [<- Nat.succ_mul]; exact Nat.mul_le_mul_right _ hj
    omega
   unfold madeCells
   rw [Array.getElem?_map,Array.getElem?_range,if_pos hjk]
   simp only [Option.map_some]
   have hmod:(j * τ.cells + k) % zv.cells.size=k:=by
    rw [aBa,Nat.add_comm,Nat.add_mul_mod_self_right,Nat.mod_eq_of_lt hkl]
   have hk':zv.cells.toList[k]? = some v:=by rw [hzl]; exact hk
   have hk2:zv.cells[k]? = some v:=by simpa using hk'
   rw [hmod]
   congr 1
   rw [getElem!_def,hk2]
theorem Iy (hG:G.Ok P) {o:Oper} {Q:Exit->Act->World->Prop} (h:SR P N G s a w ρ S F) (hd:o.dst.all (Nat.blt · N)=true) {t:TypeId} (hop:o.op = .makeMap t none)
  {cv:Nat} (hlo:G.lo<=cv) {e:rj} (he:(yc P t cv s.heap).run id=some e) :
  o.wp P a w (vR P N G o s e) Q:=by
 unfold yc at he
 split at he
 case h_2=>cases he
 rename_i kt vt hu hn
 split at he
 case h_2=>cases he
 rename_i k v hk hv
 split at he
 case h_2=>cases he
 rename_i hc
 simp only [Bool.and_eq_true] at hc
 cases he
 have hex:(execOp a.eval o).run P w = .ok (.value (.map (some w.heap.size))) (w.alloc (.map #[] 0)):=by
  simp only [execOp,hop,Instr.makeMap]
  rfl
 refine vg hG h hd hn hlo (dc:=.mp cv) (v:=.map (some w.heap.size)) (dob:=.mp k v fun _=>none)
  (fun h1 r1 w1 h2 h3 _=>⟨by rw [h2]; simp,⟨_,rfl⟩,fun k e m _=>⟨_,h3,rfl⟩⟩) ?_ hex
 exact ⟨w.heap.size,#[],0,by simp,ve.new h,heap_alloc_new w _,⟨hc.1.1.1,hc.1.1.2,hc.1.2,hc.2⟩,⟨⟨[],rfl,by simp,by simp,fun x y hx=>by cases hx⟩,by simp,by simp⟩,fun o hS=>absurd (h.bd _ _ hS) (by omega)⟩
theorem Af {t el:TypeId} (hu:P.underlying t=some (.slice el)) {sz:Nat} (hn:dg P el=some sz) (ad:Option Addr) (n cap:Nat) {lo hi:Option Value} {p q:Nat}
  (hlo:(lo=none/\p=0)\/∃ k,lo=some (.int k p)) (hhi:(hi=none/\q=n)\/∃ k,hi=some (.int k q)) (h1:p<=q) (h2:q<=n) (h3:n<=cap) :
  (Instr.sliceAt t (.slice ad n cap) lo hi none).run P w = .ok (.slice (if cap=p then ad else ad.map (·.add (p * sz))) (q - p) (cap - p)) w:=by
 have sb:∀ (k:IntKind) (i:Nat) (y:Nat) (code:BoundsCode),i<=y->(Instr.sliceBound (.int k (i:Int)) y code).run P w = .ok i w:=fun k i y code hle=>by
  simp [Instr.sliceBound,asIntOf,hle]
 have hb:(Instr.sliceBounds true n cap lo hi none).run P w = .ok (p,q,cap) w:=by
  rcases hlo with ⟨rfl,rfl⟩ | ⟨k,rfl⟩ <;> rcases hhi with ⟨rfl,rfl⟩ | ⟨k',rfl⟩
  ·simp [Instr.sliceBounds]
  ·simp [Instr.sliceBounds,sb k' q cap _ (by omega)]
  ·simp [Instr.sliceBounds,sb k p q _ h1]
  ·simp [Instr.sliceBounds,sb k' q cap _ (by omega),sb k p q _ h1]
 simp [Instr.sliceAt,Instr.slice,run_underlying hu,hb,fM hn]
theorem Nh {o:Oper} {Q:Exit->Act->World->Prop} (h:SR P N G s a w ρ S F) (hd:o.dst.all (Nat.blt · N)=true) {t:TypeId} {x:Operand} {lo hi:Option Operand} (hop:o.op = .slice t x lo hi none)
  {sx:Slot} (hx:RS P G.Y S w s.heap ρ sx (a.eval x)) (hv:∀ y:Operand,RS P G.Y S w s.heap ρ (val Γ s.env y) (a.eval y)) {e:rj} (he:(Qi P t sx (lo.map (val Γ s.env)) (hi.map (val Γ s.env))).run id=some e) :
  o.wp P a w (vR P N G o s e) Q:=by
 unfold Qi at he
 split at he
 case h_2=>cases he
 rename_i el el' sl hu hrow
 split at he
 case h_2=>cases he
 rename_i k hk
 split at he
 case h_2=>cases he
 rename_i hke
 have hke:=Nat.eq_of_beq_eq_true hke
 have key:∀ (p q:Int),((lo.map a.eval=none/\p=0)\/∃ k,lo.map a.eval=some (.int k p))->((hi.map a.eval=none/\q=sl.n)\/∃ k,hi.map a.eval=some (.int k q)) ->
   (nR (decide (0<=p/\p<=q/\q<=sl.n)) (.v (.pc (.sl el') ⟨(q - p).toNat,fun i=>sl.g (i + p.toNat)⟩)) []).run id=some e->o.wp P a w (vR P N G o s e) Q:=by
  intro p q hp hq he
  simp only [nR,Br.run,fG,bad] at he
  cases hb:decide (0<=p/\p<=q/\q<=sl.n) with
  | false=>simp only [hb,cond_false] at he; cases he
  | true =>
   simp only [hb,cond_true,id] at he
   cases he
   obtain ⟨b1,b2,b3⟩:=of_decide_eq_true hb
   obtain ⟨p,rfl⟩:=Int.eq_ofNat_of_zero_le b1
   obtain ⟨q,rfl⟩:=Int.eq_ofNat_of_zero_le (Int.le_trans b1 b2)
   have b2:p<=q:=by omega
   have b3:q<=sl.n:=by omega
   have Yw:(lo.map a.eval=none/\p=0)\/∃ k,lo.map a.eval=some (.int k (p:Int)):=hp.imp (fun x=>⟨x.1,by have:=x.2; omega⟩) (fun x=>x)
   have hq':(hi.map a.eval=none/\q=sl.n)\/∃ k,hi.map a.eval=some (.int k (q:Int)):=hq.imp (fun x=>⟨x.1,by have:=x.2; omega⟩) (fun x=>x)
   have hsub:((q:Int) - (p:Int)).toNat=q - p:=by omega
   rcases rE hx hrow with ⟨h0,ad,cap,vz⟩ | ⟨b,off,cap,vz,h1,h2,h3⟩
   ·have vz:a.eval x = .slice ad 0 cap:=by simpa using vz
    have hrun:=Af (P:=P) (w:=w) hu hk ad 0 cap Yw (by rw [h0] at hq'; exact hq') b2 (by omega) (Nat.zero_le _)
    refine aP h hd (v:=.slice (if cap=p then ad else ad.map (·.add (p * k))) (q - p) (cap - p)) ?_ ⟨rfl,.inl ⟨by show ((q:Int) - (p:Int)).toNat=0; omega,_,_,by rw [show q - p=0 by omega]⟩⟩
    simp only [execOp,hop,vz,Option.map_none,Sem.run_bind,hrun,Result.andThen_ok,Sem.run_pure]
   ·have vz:a.eval x = .slice (some ⟨b,off,none⟩) sl.n cap:=by simpa using vz
    have hrun:=Af (P:=P) (w:=w) hu hk (some ⟨b,off,none⟩) sl.n cap Yw hq' b2 b3 h1
    refine aP h hd (v:=.slice (if cap=p then some ⟨b,off,none⟩ else (some (⟨b,off,none⟩:Addr)).map (·.add (p * k))) (q - p) (cap - p)) ?_ ⟨rfl,?_⟩
    ·simp only [execOp,hop,vz,Option.map_none,Sem.run_bind,hrun,Result.andThen_ok,Sem.run_pure]
    ·by_cases hz:q - p=0
     ·exact .inl ⟨by show ((q:Int) - (p:Int)).toNat=0; omega,_,_,by rw [hz]⟩
     ·have hcp:¬ cap=p:=by omega
      rw [if_neg hcp]
      refine .inr ⟨b,off + p * k,cap - p,by simp only [Option.map_some,Addr.add_lit]; show _=[Value.slice _ ((q:Int) - (p:Int)).toNat _]; rw [hsub],by show ((q:Int) - (p:Int)).toNat<=_; omega,by omega,fun i hi=>?_⟩
      have hi:i < ((q:Int) - (p:Int)).toNat:=hi
      obtain ⟨us,r1,r2,r3⟩:=h3 (i + p) (by omega)
      refine ⟨us,r1,r2,?_⟩
      rw [hke] at *
      rwa [show off + p * el'.cells + i * el'.cells=off + (i + p) * el'.cells by rw [Nat.add_mul]; omega]
 have iv:∀ (y:Operand) (k:IntKind) (n:Int),val Γ s.env y = .v (.pc (.int k) n)->a.eval y = .int k n:=fun y k n hy=>by
  have:=hv y
  rw [hy] at this
  exact jP this
 simp only at he
 cases lo with
 | none =>
  cases hi with
  | none=>exact key 0 sl.n (.inl ⟨rfl,rfl⟩) (.inl ⟨rfl,rfl⟩) he
  | some y =>
   simp only [Option.map_none,Option.map_some] at he
   split at he
   ·rename_i h1 h2; cases h2
   ·rename_i h1 h2; cases h1
   ·rename_i k' n h1 h2
    exact key 0 n (.inl ⟨rfl,rfl⟩) (.inr ⟨k',by rw [Option.map_some,iv y k' n (by injection h2)]⟩) he
   ·rename_i h1 h2; cases h1
   ·cases he
 | some z =>
  cases hi with
  | none =>
   simp only [Option.map_none,Option.map_some] at he
   split at he
   ·rename_i h1 h2; cases h1
   ·rename_i k' n h1 h2
    exact key n sl.n (.inr ⟨k',by rw [Option.map_some,iv z k' n (by injection h1)]⟩) (.inl ⟨rfl,rfl⟩) he
   ·rename_i h1 h2; cases h2
   ·rename_i h1 h2; cases h2
   ·cases he
  | some y =>
   simp only [Option.map_some] at he
   split at he
   ·rename_i h1 h2; cases h1
   ·rename_i h1 h2; cases h2
   ·rename_i h1 h2; cases h1
   ·rename_i k1 n1 k2 n2 h1 h2
    exact key n1 n2 (.inr ⟨k1,by rw [Option.map_some,iv z k1 n1 (by injection h1)]⟩) (.inr ⟨k2,by rw [Option.map_some,iv y k2 n2 (by injection h2)]⟩) he
   ·cases he
theorem EZ {o:Oper} {Q:Exit->Act->World->Prop} (h:SR P N G s a w ρ S F) (hd:o.dst.all (Nat.blt · N)=true) {t:TypeId} {x:Operand} {lo hi:Option Operand} (hop:o.op = .slice t x lo hi none)
  {id bB i m:Nat} (hx:RC P G.Y S w s.heap ρ (.sub id bB i m) (a.eval x)) (hv:∀ y:Operand,RS P G.Y S w s.heap ρ (val Γ s.env y) (a.eval y)) {e:rj} (he:(vb P t s.heap id bB i m (lo.map (val Γ s.env)) (hi.map (val Γ s.env))).run _root_.id=some e) :
  o.wp P a w (vR P N G o s e) Q:=by
 unfold vb at he
 split at he
 case h_2=>cases he
 rename_i el k b cur T τ d hu hlo hhi ho
 split at he
 case h_2=>cases he
 rename_i sz hsz vh
 cases Nat.eq_of_beq_eq_true vh
 simp only [Br.run,fG,bad] at he
 cases hb:decide (0<=(show Int from b)/\(show Int from b)<=m) with
 | false=>simp only [hb,cond_false] at he; cases he
 | true =>
  simp only [hb,cond_true,_root_.id] at he
  cases he
  obtain ⟨b1,b2⟩:=of_decide_eq_true hb
  have h1:=hx.1
  obtain ⟨q1,q2,ad,cap,q3,q4,_,q5,_⟩:=yw h hx ho
  cases lo with
  | some y=>cases hlo
  | none =>
  cases hi with
  | none=>cases hhi
  | some y =>
  have hy:=hv y
  rw [show val Γ s.env y=_ from Option.some.inj hhi] at hy
  have hy:=jP hy
  obtain ⟨q,hq⟩:=Int.eq_ofNat_of_zero_le b1
  have hqe:(show Int from b).toNat=q:=by omega
  have hqm:q<=m:=by rw [hq] at b2; exact Int.ofNat_le.1 b2
  have hrun:=Af (w:=w) hu hsz ad m cap (lo:=none) (hi:=some (.int k q)) (p:=0) (q:=q) (.inl ⟨rfl,rfl⟩) (.inr ⟨k,rfl⟩) (Nat.zero_le _) (by omega) q5
  have had:(if cap=0 then ad else ad.map (·.add (0 * sz)))=ad:=by
   split
   ·rfl
   ·cases ad <;> simp [Addr.add]
  rw [had] at hrun
  have hex:(execOp a.eval o).run P w = .ok (.value (.slice ad q cap)) w:=by
   have hy':a.eval y = .int k q:=by rw [hy]; exact congrArg _ hq
   simp only [execOp,hop,q4,Option.map_some,Option.map_none,hy',Sem.run_bind,hrun,Result.andThen_ok,Sem.run_pure,Nat.sub_zero]
  refine aP h hd hex ⟨h1,⟨_,_,_,rfl⟩,fun cu' T' e' s' ho'=>?_⟩
  rw [ho] at ho'; cases ho'
  exact ⟨Nat.le_refl _,fun _=>⟨q1,Nat.le_trans (by rw [hqe]; exact hqm) q2,ad,cap,q3,by rw [hqe]⟩⟩
end Go.Dm
namespace Go.Dm
open Go.RowKit
variable {P:Program} {N:Nat} {G:Gh} {S S':CS} {w w':World} {s:St} {a:Act} {ρ ρ':fV} {F F':Nat->Prop} {heap heap':Nat->aN} {Y:Value} {E:cO} {Γ:Ctx}
theorem SR.drop (h:SR P N G s a w ρ S F) {id:Nat} (hc:dS (s.heap id)=false):SR P N G { s with heap:=ay s.heap id .gone } a w ρ S F:=by
 have hk:∀ j,Kept w w ρ ρ j (s.heap j) (ay s.heap id .gone j):=fun j=>by
  by_cases hj:j=id
  ·subst hj
   simp only [ay,Nat.beq_refl,cond_true]
   cases ho:s.heap j with
   | none=>trivial
   | gone=>rfl
   | chain _ _ _ _=>rw [ho] at hc; cases hc
   | box _=>exact .inl rfl
   | row _ _ _ _=>exact .inl rfl
   | mp _ _ _=>exact .inl rfl
   | rows _ _ _ _=>exact .inl rfl
  ·simp only [ay,bC hj,cond_false]
   exact .refl rfl fun b hb hl=>rfl
 refine ⟨h.size,h.aS.tr hk (fun D hF hD=>⟨hD,hF⟩),fun t=>(h.env t).tr (.refl h.bd) hk,fun j=>?_,h.vf (fun _ _=>rfl) (fun _ _ _ _ _=>rfl) (fun _ q=>q.elim),h.ext,h.new,h.same,h.tr,h.fb,h.f0,h.sub,h.fs,fun j b hj=>⟨(h.pins j b hj).1,?_⟩⟩
 ·by_cases hj:j=id
  ·subst hj; simp only [ay,Nat.beq_refl,cond_true]; trivial
  ·simp only [ay,bC hj,cond_false]
   exact (h.obj j).tr (.refl h.bd) hk rfl fun b hb=>⟨rfl,fun i q=>q,fun x=>x⟩
 ·by_cases zZ:j=id
  ·subst zZ; simp only [ay,Nat.beq_refl,cond_true]; rfl
  ·simp only [ay,bC zZ,cond_false]; exact (h.pins j b hj).2
theorem Qt {arr:Array Value} {e:Ty} {sl:Sl e.den} {i off:Nat} {vs:List Value} {x':e.den} (hi:i < sl.n) (hsz:sl.n * e.cells<=arr.size) (hle:off + vs.length<=e.cells) (ex:Ext0 S w S w')
  (hcells:∀ i,i < sl.n->∃ us,R P e S w (sl.g i) us/\us.length=e.cells/\∀ j v,us[j]? = some v->arr[i * e.cells + j]? = some v)
  (hR0:∀ Vh,R P e S w (sl.g i) Vh->R P e S w x' (Vh.take off ++ vs ++ Vh.drop (off + vs.length))) :
  (arr.toList.take (i * e.cells + off) ++ vs ++ arr.toList.drop (i * e.cells + off + vs.length)).length=arr.size /\
   ∀ k,k < sl.n->∃ us,R P e S w' ((bO sl i x').g k) us/\us.length=e.cells/\∀ j v,us[j]? = some v->(arr.toList.take (i * e.cells + off) ++ vs ++ arr.toList.drop (i * e.cells + off + vs.length)).toArray[k * e.cells + j]? = some v:=by
 obtain ⟨Vh,wM,hel,YY⟩:=hcells i hi
 have hR:=hR0 Vh wM
 have aje:i * e.cells + e.cells<=sl.n * e.cells:=by rw [<- Nat.succ_mul]; exact Nat.mul_le_mul_right _ hi
 generalize hL:(arr.toList.take (i * e.cells + off) ++ vs ++ arr.toList.drop (i * e.cells + off + vs.length))=L
 have hLg:∀ k,L[k]? = if k < i * e.cells + off then arr.toList[k]? else if k < i * e.cells + off + vs.length then vs[k - (i * e.cells + off)]? else arr.toList[k]? := fun k=>by
  rw [<- hL]; exact kW (by simp; omega) k
 have hLl:L.length=arr.size:=by rw [<- hL]; simp; omega
 refine ⟨hLl,fun k hk=>?_⟩
 by_cases hki:k=i
 ·subst hki
  refine ⟨Vh.take off ++ vs ++ Vh.drop (off + vs.length),by simp only [bO,Nat.beq_refl,cond_true]; exact hR.mono ex,by simp; omega,fun j v hj=>?_⟩
  have hjl:j < e.cells:=by
   have:=(List.getElem?_eq_some_iff.1 hj).1
   simp at this; omega
  rw [List.getElem?_toArray,hLg]
  rw [kW (by omega)] at hj
  by_cases c1:j < off
  ·rw [if_pos (by omega),Array.getElem?_toList]
   rw [if_pos c1] at hj
   exact YY j v hj
  ·rw [if_neg c1] at hj
   rw [if_neg (by omega)]
   by_cases c2:j < off + vs.length
   ·rw [if_pos c2] at hj
    rw [if_pos (by omega),show k * e.cells + j - (k * e.cells + off)=j - off by omega]
    exact hj
   ·rw [if_neg c2] at hj
    rw [if_neg (by omega),Array.getElem?_toList]
    exact YY j v hj
 ·obtain ⟨us1,v1,v2,v3⟩:=hcells k hk
  refine ⟨us1,by simp only [bO,bC hki,cond_false]; exact v1.mono ex,v2,fun j v hj=>?_⟩
  have hjl:j < e.cells:=by
   have:=(List.getElem?_eq_some_iff.1 hj).1
   omega
  rw [List.getElem?_toArray,hLg]
  rcases Nat.lt_or_gt_of_ne hki with hlt' | hgt
  ·have:k * e.cells + e.cells<=i * e.cells:=by rw [<- Nat.succ_mul]; exact Nat.mul_le_mul_right _ hlt'
   rw [if_pos (by omega),Array.getElem?_toList]; exact v3 j v hj
  ·have:i * e.cells + e.cells<=k * e.cells:=by rw [<- Nat.succ_mul]; exact Nat.mul_le_mul_right _ hgt
   rw [if_neg (by omega),if_neg (by omega),Array.getElem?_toList]; exact v3 j v hj
theorem Cv (hG:G.Ok P) {o:Oper} {Q:Exit->Act->World->Prop} (h:SR P N G s a w ρ S F) (hd:o.dst.all (Nat.blt · N)=true) {t:TypeId} {x y:Operand} (hop:o.op = .store t x y)
    {id bB i j off:Nat} (hx:RC P G.Y S w s.heap ρ (.zU id bB i j off) (a.eval x)) {sy:Slot} (hy:RS P G.Y S w s.heap ρ sy (a.eval y)) {cs:List DC} (hc:eA sy=some cs)
    {T:TypeId} {e:Ty} {d:Sl (Sl e.den)} (ho:s.heap id = .rows bB T e d) {n:Nat} (hn:dg P t=some n) {x':e.den} (hx':gi e (splice (gE e ((d.g i).g j)) off cs)=some x')
    (hl:cs.length=n) (hle:off + cs.length<=e.cells) {rh:List Nat} :
    o.wp P a w (vR P N G o s ⟨some .top,[(id,.rows bB T e (bO d i (bO (d.g i) j x')))],rh,true,none⟩) Q:=by
  have dn:=h.obj id
  rw [ho] at dn
  obtain ⟨_,_,h3⟩:=hx
  obtain ⟨hi,hj,b',cap',⟨b0,sW,T0,p1,p2,p3⟩,hv⟩:=(h3 _ _ _ _ ho).2 rfl
  obtain ⟨⟨hfl,hpos⟩,b,arr,T',q1,q2,q3,q4,q5,q6,q7⟩:=dn
  rw [q1] at p1; cases p1
  rw [q3] at p2; cases p2
  obtain ⟨ad,cap,z1,z2⟩:=q7 i hi
  have z1':=z1
  rw [p3] at z1
  simp only [Option.some.injEq,Value.slice.injEq,true_and] at z1
  obtain ⟨z1,z3⟩:=z1
  subst z1 z3
  rcases z2 with z2 | ⟨y0,b2,mW,T2,y1,y2,y3,y4,y5,y6,y7,y8,y9⟩
  · omega
  cases y1
  have Vg:=iU G.mI hy hc
  have jK:(a.eval y).cells.size=n:=by rw [<- hl,Vg.1]; simp
  have hvl:(a.eval y).cells.toList.length=n:=by simpa using jK
  have aje:j * e.cells + e.cells<=(d.g i).n * e.cells:=by rw [<- Nat.succ_mul]; exact Nat.mul_le_mul_right _ hj
  have hex:=vi (P:=P) hop hv y4 hn jK (by omega) (RL.mS G.mI Vg)
  unfold Oper.wp
  rw [hex]
  have hS2:∀ o,¬ S b' o:=y9
  have gO:∀ L:Array Value,∀ k,k≠b'->(w.setRow b' L).heap[k]? = w.heap[k]? := fun L k hk=>setRow_other w b' k _ hk
  have EO:∀ L:Array Value,(w.setRow b' L).heap.size=w.heap.size:=fun L=>by simp [World.setRow]
  have ex0:∀ L:Array Value,L.size=mW.size->Ext0 S w S (w.setRow b' L):=fun L hLs=>⟨by rw [EO]; exact Nat.le_refl _,fun _ _ x=>x,fun c o Co=>World.cell?_of_block (a:=⟨c,o,none⟩) (gO L c (fun e=>hS2 o (e ▸ Co))),fun c o es cc Co hm=>(gO L c (fun e=>hS2 o (e ▸ Co))).trans hm,fun c o Co=>by rw [EO]; exact h.bd c o Co,.setRow y4 hLs⟩
  have hlen:(mW.toList.take (j * e.cells + off) ++ (a.eval y).cells.toList ++ mW.toList.drop (j * e.cells + off + (a.eval y).cells.toList.length)).length=mW.size:=by simp; omega
  have ex:=ex0 (mW.toList.take (j * e.cells + off) ++ (a.eval y).cells.toList ++ mW.toList.drop (j * e.cells + off + (a.eval y).cells.toList.length)).toArray (by simpa using hlen)
  obtain ⟨_,hnew⟩:=Qt (w':=w.setRow b' (mW.toList.take (j * e.cells + off) ++ (a.eval y).cells.toList ++ mW.toList.drop (j * e.cells + off + (a.eval y).cells.toList.length)).toArray) (x':=x') hj y7 (by omega) ex y8
    (fun Vh wM=>iS (Y:=G.Y) (heap:=s.heap) (ρ:=ρ) (RL.splice (ij hfl wM) Vg off) hx')
  generalize hL:(mW.toList.take (j * e.cells + off) ++ (a.eval y).cells.toList ++ mW.toList.drop (j * e.cells + off + (a.eval y).cells.toList.length))=L at *
  have WO:=setRow_heap w b' mW L.toArray T2 _ y4
  have hown:Own w ρ id (s.heap id) b':=by
    rw [ho]; exact .inr ⟨i,(d.g i).n - 1,cap',b0,sW,T0,q1,q3,by rw [Nat.sub_add_cancel (by omega)]; exact z1'⟩
  have uk:b0≠b':=fun e=>y2 e.symm
  have hout:(w.setRow b' L.toArray).heap[b0]? = w.heap[b0]? := gO _ b0 uk
  have q:=h.YO hG (id:=id) (b:=b') (o:=.rows bB T e (bO d i (bO (d.g i) j x'))) hown
    (fun b'' q=>.inl (by
      rw [ho]
      rcases q with q | ⟨k,m,c,b1,It,T1,r1,r2,r3⟩
      · exact .inl q
      · exact .inr ⟨k,m,c,b1,It,T1,r1,by rw [q1] at r1; cases r1; exact hout.symm.trans r2,r3⟩))
    ex ⟨rfl,rfl,rfl,by rw [EO]; exact Nat.le_refl _,fun k hk=>gO _ k hk.2⟩ (EO _) (fun _ _ q=>.inl q)
    (by
      rw [ho]
      exact .inr ⟨_,_,rfl,Nat.le_refl _,rfl,rfl,fun _=>⟨fun k hk=>by
        show (bif Nat.beq k i then bO (d.g i) j x' else d.g k).n=(d.g k).n
        by_cases hki:k=i
        · subst hki; simp [bO]
        · simp [bC hki],fun b1 Sw=>by rw [q1] at Sw; cases Sw; exact hout⟩⟩)
    ⟨⟨hfl,hpos⟩,b0,sW,T0,q1,q2,hout.trans q3,q4,q5,q6,fun k hk=>by
      have hk:k < d.n:=hk
      show ∃ a cap,sW[k]? = some (Value.slice a (bif Nat.beq k i then bO (d.g i) j x' else d.g k).n cap)/\_
      by_cases hki:k=i
      · subst hki
        simp only [bO,Nat.beq_refl,cond_true]
        exact ⟨_,cap',z1',.inr ⟨y0,b',L.toArray,T2,rfl,y2,y3,WO,y5,y6,by simpa [hlen] using y7,hnew,y9⟩⟩
      · simp only [bO,bC hki,cond_false]
        obtain ⟨ad2,wL,g1,g2⟩:=q7 k hk
        refine ⟨ad2,wL,g1,g2.imp (fun x=>x) ?_⟩
        rintro ⟨g0,b3,aji,T3,g3,g4,g5,g6,g7,g8,g9,g10,g11⟩
        subst g3
        have hne:b3≠b':=fun e=>by
          subst e
          exact hki (q6 k i b3 ((d.g k).n - 1) ((d.g i).n - 1) wL cap' (by rw [Nat.sub_add_cancel (by omega)]; exact g1) (by rw [Nat.sub_add_cancel (by omega)]; exact z1'))
        exact ⟨g0,b3,aji,T3,rfl,g4,g5,(gO _ b3 hne).trans g6,g7,g8,g9,fun jj hjj=>let ⟨us,u1,u2,u3⟩:=g10 jj hjj; ⟨us,u1.mono ex,u2,u3⟩,g11⟩⟩
  exact ⟨rfl,ρ,S,F,(q.qo hd).of_eq rfl rfl rfl rfl⟩
theorem ur (hG:G.Ok P) {o:Oper} {Q:Exit->Act->World->Prop} (h:SR P N G s a w ρ S F) (hd:o.dst.all (Nat.blt · N)=true) {t:TypeId} {x y:Operand} (hop:o.op = .store t x y)
    {id i zw bB:Nat} (hx:RC P G.Y S w s.heap ρ (.LX id i) (a.eval x)) {u:Value} (hy:RC P G.Y S w s.heap ρ (.row zw bB) u) (hyc:(a.eval y).cells = #[u])
    {cur:Nat} {T:TypeId} {e:Ty} {d:Sl (Sl e.den)} (ho:s.heap id = .rows cur T e d) {s3:Sl e.den} (Jl:s.heap zw = .row bB T e s3) (hn:dg P t=some 1) {rh:List Nat} :
    o.wp P a w (vR P N G o s ⟨some .top,[(zw,.gone),(id,.rows (cur + 1) T e (bO d i s3))],rh,true,none⟩) Q:=by
  have hne:id≠zw:=fun e=>by rw [e,Jl] at ho; cases ho
  have dn:=h.obj id
  rw [ho] at dn
  obtain ⟨_,_,h3⟩:=hx
  obtain ⟨b,hb,hv,hi⟩:=h3 _ _ _ _ ho
  obtain ⟨⟨hfl,hpos⟩,b0,arr,T',q1,q2,q3,q4,q5,q6,q7⟩:=dn
  have uk:b0=b:=by rw [q1] at hb; injection hb
  subst uk
  -- the row
  obtain ⟨ad,wL,hval,hrow⟩:∃ ad wL,u = .slice ad s3.n wL/\(s3.n=0\/0 < s3.n/\∃ b2 mW T2,ρ zw=some b2/\ad=some ⟨b2,0,none⟩/\ve G F b2/\w.heap[b2]? = some (.cells mW T2 (0,0))/\s3.n<=wL/\wL<=maxLen/\s3.n * e.cells<=mW.size /\
      (∀ j,j < s3.n->∃ us,R P e S w (s3.g j) us/\us.length=e.cells/\∀ k v,us[k]? = some v->mW[j * e.cells + k]? = some v)/\∀ o,¬ S b2 o):=by
    have Sy:=h.obj zw
    rw [Jl] at Sy
    obtain ⟨_,Sy⟩:=Sy
    rcases (hy.2.2 _ _ _ _ Jl).2 rfl with ⟨g1,a0,g2⟩ | ⟨b2,wL,g1,g2,g3,g4,_,_⟩
    · exact ⟨a0,0,by rw [g2,g1],.inl g1⟩
    · by_cases h0:s3.n=0
      · exact ⟨_,wL,g2,.inl h0⟩
      rcases Sy with ⟨k1,k2⟩ | ⟨b3,mW,k1,k2,k3,k4,k5,k6⟩
      · omega
      rw [g1] at k1; cases k1
      exact ⟨_,wL,g2,.inr ⟨by omega,_,mW,_,g1,rfl,k2,k3,g3,g4,k4,k5,k6⟩⟩
  have hone:=RC.mS G.mI hy
  have jK:=hyc
  have hcs:(a.eval y).cells.size=1:=by rw [jK]; rfl
  have hilt:i < arr.size:=by omega
  have hex:=vi (P:=P) hop hv q3 hn hcs (by omega) (by rw [jK]; simpa using hone)
  unfold Oper.wp
  rw [hex,jK]
  have hLl:(arr.toList.take i ++ [u] ++ arr.toList.drop (i + [u].length)).length=arr.size:=by simp; omega
  have hLg:∀ k,(arr.toList.take i ++ [u] ++ arr.toList.drop (i + [u].length)).toArray[k]? = if k=i then some (u) else arr[k]? := fun k=>by
    rw [List.getElem?_toArray,kW (by simp; omega)]
    by_cases hki:k=i
    · subst hki; simp
    · rw [if_neg hki]
      by_cases hk:k < i
      · rw [if_pos hk,Array.getElem?_toList]
      · rw [if_neg hk,if_neg (by simp; omega),Array.getElem?_toList]
  generalize (arr.toList.take i ++ [u] ++ arr.toList.drop (i + [u].length))=L at *
  have gO:∀ k,k≠b0->(w.setRow b0 L.toArray).heap[k]? = w.heap[k]? := fun k hk=>setRow_other w b0 k _ hk
  have EO:(w.setRow b0 L.toArray).heap.size=w.heap.size:=by simp [World.setRow]
  have ex:Ext0 S w S (w.setRow b0 L.toArray):=⟨by omega,fun _ _ x=>x,fun c o Co=>World.cell?_of_block (a:=⟨c,o,none⟩) (gO c (fun e=>q5 o (e ▸ Co))),fun c o es cc Co hm=>(gO c (fun e=>q5 o (e ▸ Co))).trans hm,fun c o Co=>by rw [EO]; exact h.bd c o Co,.setRow q3 (by simp [hLl])⟩
  have WO:=setRow_heap w b0 arr L.toArray T' _ q3
  have h1:=h.drop (id:=zw) (by rw [Jl]; rfl)
  have ho1:ay s.heap zw .gone id = .rows cur T e d:=by simp only [ay,bC hne,cond_false]; exact ho
  have hold:∀ k m c b1,k≠i->arr[k]? = some (.slice (some ⟨b1,0,none⟩) (m + 1) c)->Own w ρ id (s.heap id) b1:=fun k m c b1 _ hk=>by
    rw [ho]; exact .inr ⟨k,m,c,b0,arr,T',q1,q3,hk⟩
  have hnew:∀ m c b1,u = .slice (some ⟨b1,0,none⟩) (m + 1) c->Own w ρ zw (s.heap zw) b1:=fun m c b1 hk=>by
    rw [hval] at hk
    injection hk with k1 k2 k3
    rcases hrow with hrow | ⟨_,b2,mW,T2,k4,k5,_⟩
    · omega
    · rw [k1] at k5; cases k5
      exact .of (by rw [Jl]; trivial) k4
  have q:=h1.YO hG (id:=id) (b:=b0) (o:=.rows (cur + 1) T e (bO d i s3)) (.of (by show live (ay s.heap zw .gone id); rw [ho1]; trivial) q1)
    (fun b'' q=>by
      rcases q with q | ⟨k,m,c,b1,It,T1,r1,r2,r3⟩
      · exact .inl (.of (by show live (ay s.heap zw .gone id); rw [ho1]; trivial) q)
      · rw [q1] at r1; cases r1
        rw [WO] at r2; cases r2
        rw [hLg] at r3
        by_cases hki:k=i
        · rw [if_pos hki] at r3
          refine .inr fun j hj hown=>?_
          have hw:=hnew m c b'' (Option.some.inj r3)
          have hown:Own w ρ j (ay s.heap zw .gone j) b'':=hown
          by_cases hj2:j=zw
          · subst hj2; simp only [ay,Nat.beq_refl,cond_true] at hown; exact hown
          · simp only [ay,bC hj2,cond_false] at hown
            exact hj2 (h.inj _ _ _ hown hw)
        · rw [if_neg hki] at r3
          refine .inl ?_
          show Own w ρ id (ay s.heap zw .gone id) b''
          rw [ho1,<- ho]
          exact hold k m c b'' hki r3)
    ex ⟨rfl,rfl,rfl,by omega,fun k hk=>gO k hk.2⟩ EO (fun _ _ q=>.inl q)
    (by
      show Kept w _ ρ ρ id (ay s.heap zw .gone id) _
      rw [ho1]
      exact .inr ⟨_,_,rfl,by omega,rfl,rfl,fun e=>by omega⟩)
    ⟨⟨hfl,hpos⟩,b0,L.toArray,T',q1,q2,WO,by simpa [hLl,bO] using q4,q5,fun k l b1 m m' c c' r1 r2=>by
      rw [hLg] at r1 r2
      by_cases hki:k=i
      · by_cases rL:l=i
        · rw [hki,rL]
        · rw [if_pos hki] at r1
          rw [if_neg rL] at r2
          exact absurd (h.inj _ _ _ (hold l m' c' b1 rL r2) (hnew m c b1 (Option.some.inj r1))) hne
      · by_cases rL:l=i
        · rw [if_neg hki] at r1
          rw [if_pos rL] at r2
          exact absurd (h.inj _ _ _ (hold k m c b1 hki r1) (hnew m' c' b1 (Option.some.inj r2))) hne
        · rw [if_neg hki] at r1
          rw [if_neg rL] at r2
          exact q6 k l b1 m m' c c' r1 r2,fun k hk=>by
      have hk:k < d.n:=hk
      show ∃ a1 cap,L.toArray[k]? = some (Value.slice a1 (bif Nat.beq k i then s3 else d.g k).n cap)/\_
      by_cases hki:k=i
      · subst hki
        simp only [bO,Nat.beq_refl,cond_true]
        refine ⟨ad,wL,by rw [hLg,if_pos rfl,hval],hrow.imp (fun x=>x) ?_⟩
        rintro ⟨g0,b2,mW,T2,g1,g2,g3,g4,g5,g6,g7,g8,g9⟩
        have Sx:b2≠b0:=fun e=>hne (h.inj id zw b0 (.of (by rw [ho]; trivial) q1) (.of (by rw [Jl]; trivial) (e ▸ g1)))
        exact ⟨g0,b2,mW,T2,g2,Sx,g3,(gO b2 Sx).trans g4,g5,g6,g7,fun jj hjj=>let ⟨us,u1,u2,u3⟩:=g8 jj hjj; ⟨us,u1.mono ex,u2,u3⟩,g9⟩
      · simp only [bO,bC hki,cond_false]
        obtain ⟨ad2,aqo,g1,g2⟩:=q7 k hk
        refine ⟨ad2,aqo,by rw [hLg,if_neg hki]; exact g1,g2.imp (fun x=>x) ?_⟩
        rintro ⟨g0,b3,aji,T3,g3,g4,g5,g6,g7,g8,g9,g10,g11⟩
        exact ⟨g0,b3,aji,T3,g3,g4,g5,(gO b3 g4).trans g6,g7,g8,g9,fun jj hjj=>let ⟨us,u1,u2,u3⟩:=g10 jj hjj; ⟨us,u1.mono ex,u2,u3⟩,g11⟩⟩
  exact ⟨rfl,ρ,S,F,(q.qo hd).of_eq rfl rfl rfl rfl⟩
theorem Ni (h:SR P N G s a w ρ S F) {sl:Slot} {v:Value} (hs:RS P G.Y S w s.heap ρ sl v):RS P G.Y (fun b _=>b < w.heap.size) w s.heap ρ (sB s.heap sl) v:=by
 have ex:Ext0 S w (fun b _=>b < w.heap.size) w:=⟨Nat.le_refl _,fun b o q=>h.bd b o q,fun _ _ _=>rfl,fun _ _ _ _ _ q=>q,fun _ _ q=>q,.refl w⟩
 have hk:∀ id,Kept w w ρ ρ id (s.heap id) (s.heap id):=fun id=>.refl rfl fun _ _ _=>rfl
 have hold:=hs.tr ex hk
 unfold sB
 split
 case h_2=>exact hold
 rename_i id bB i n
 split
 case h_2=>exact True.intro
 rename_i cur T e d ho
 split
 case h_2=>exact True.intro
 rename_i vh
 cases Nat.eq_of_beq_eq_true vh
 obtain ⟨hi,hn,ad,cap,⟨b0,sW,T0,p1,p2,p3⟩,hv,_,hcap,_⟩:=yw h hs ho
 subst hv
 have dn:=h.obj id
 rw [ho] at dn
 obtain ⟨_,b,arr,T',q1,q2,q3,q4,q5,q6,q7⟩:=dn
 rw [q1] at p1; cases p1
 rw [q3] at p2; cases p2
 obtain ⟨ad',cap',z1,z2⟩:=q7 i hi
 rw [p3] at z1
 simp only [Option.some.injEq,Value.slice.injEq,true_and] at z1
 obtain ⟨z1,z3⟩:=z1
 subst z1 z3
 refine ⟨rfl,?_⟩
 by_cases h0:n=0
 ·exact .inl ⟨h0,ad,cap,by rw [h0]⟩
 rcases z2 with z2 | ⟨_,b2,mW,T2,y1,y2,y3,y4,y5,y6,y7,y8,y9⟩
 ·omega
 subst y1
 refine .inr ⟨b2,0,cap,rfl,hcap,y6,fun j hj=>?_⟩
 have hj:j < n:=hj
 obtain ⟨us,u1,u2,u3⟩:=y8 j (by omega)
 exact ⟨us,u1.mono ex,u2,fun k u hk=>⟨(Array.getElem?_eq_some_iff.1 y4).1,by rw [Nat.zero_add,cell_of_row w b2 _ mW T2 _ y4]; exact u3 k u hk⟩⟩
theorem Vl (h:SR P N G s a w ρ S F):∀ {sls:List Slot} {vs:List Value},(∀ (j:Nat) (d:Slot) (u:Value),sls[j]? = some d->vs[j]? = some u->RS P G.Y S w s.heap ρ d u) ->
  ∀ (j:Nat) (d:Slot) (u:Value),(sls.map (sB s.heap))[j]? = some d->vs[j]? = some u->RS P G.Y (fun b _=>b < w.heap.size) w s.heap ρ d u:=fun hr j d u h1 h2=>by
 rw [List.getElem?_map] at h1
 cases h3:(_:List Slot)[j]? with
 | none=>rw [h3] at h1; cases h1
 | some d0 =>
  rw [h3] at h1
  cases h1
  exact Ni h (hr j d0 u h3 h2)
theorem Qu (h:SR P N G s a w ρ S F) {f:FuncId} {c:ee} (Qv:Holds P f c) {args:List Value} {x:c.args.den} (sC:c.res.plain=true) (hp:c.pre x=true) (hr:R P c.args (fun b _=>b < w.heap.size) w x args) :
  Calls P f args.toArray w (fun e w'=>∃ S' rs,e = .returned (pack rs)/\R P c.res S' w' (c.fn x) rs/\Ext S w S' w'/\Below w.heap.size w w'):=
 (Qv _ w (fun _ _ q=>q) x args hp hr).mono fun e w' ⟨S',rs,h1,h2,h3,h4⟩ =>
  ⟨S,rs,h1,(R.plain sC).2 ((R.plain sC).1 h2),⟨⟨h4.size,fun _ _ q=>q,fun b o q=>World.cell?_of_block (a:=⟨b,o,none⟩) (h4.block b (h.bd b o q)),fun b o es cc q m=>(h4.block b (h.bd b o q)).trans m,
   fun b o q=>Nat.lt_of_lt_of_le (h.bd b o q) h4.size,h3.pl⟩,fun _ _ q=>.inl q⟩,h4⟩
end Go.Dm
namespace Go.Dm
open Go.RowKit
variable {P:Program} {N N':Nat} {G:Gh} {S S' S2:CS} {w w' w2:World} {s s2:St} {a a2:Act} {ρ ρ' ρ2:fV} {F F' F2:Nat->Prop} {heap heap' H' H2:Nat->aN} {Y:Value} {E:cO} {Γ:Ctx} {Fw:Fence} {r:Nat} {ops:Array Oper} {lo base:Nat} {aS:List gx}
def Cons.dead (α:Type):Cons α:=⟨fun _ _ _ _=>False,fun _ _ _ _=>True,fun _ _ _ _ _=>True⟩
theorem Cons.Sz (α:Type):(Cons.dead α).Ok:=⟨fun _ _ _ _ _ _ h _ _ _ _=>h,fun _ _ _ _ _ _ _ _ _ _ _=>trivial,fun _ _ _ _ _ _ _ _ _ _ _ _=>trivial⟩
theorem Fa {e:Ty} {S:CS} {l:Nat}:Di P (R P e) (Cons.dead e.den) S l []:=fun _ _ _ _ _ _ _ h=>h.elim
def Gh.inner (M:Nat->Prop) (S:CS) (w:World) (l lo:Nat) (fu:Nat->Option Nat):Gh:=⟨M,fun _=>False,S,w,.nil,Cons.dead _,[],l,fun _ _=>True,lo,fu⟩
theorem eR.move (hm:∀ id,H2 id ≠ .none->H' id=H2 id/\ρ' id=ρ2 id) {id off:Nat} {v:Value} (h:eR H2 ρ2 id off v):eR H' ρ' id off v:=by
 obtain ⟨h1,h2,h3⟩:=h
 obtain ⟨e1,e2⟩:=hm id h1
 exact ⟨by rw [e1]; exact h1,h2,fun ds hd=>by rw [e2]; exact h3 ds (e1 ▸ hd)⟩
theorem dZ.move (hm:∀ id,H2 id ≠ .none->H' id=H2 id/\ρ' id=ρ2 id):∀ {ids:List Nat} {us:List Value},dZ H2 ρ2 ids us->dZ H' ρ' ids us
 | [],[],_=>trivial
 | _ :: _,_ :: _,h=>⟨h.1.move hm,dZ.move hm h.2⟩
 | [],_ :: _,h=>h.elim
 | _ :: _,[],h=>h.elim
theorem RC.move (hm:∀ id,H2 id ≠ .none->H' id=H2 id/\ρ' id=ρ2 id) {d:DC} {v:Value} (h:RC P Y S w H2 ρ2 d v):RC P Y S w H' ρ' d v:=by
 cases d with
 | pc τ x=>exact h
 | own id bB e s =>
  obtain ⟨h1,hf,cur,T,k,n,h2,h3,h4⟩:=h
  obtain ⟨e1,e2⟩:=hm id (by rw [h2]; simp)
  refine ⟨h1,hf,cur,T,k,n,e1.trans h2,h3,fun q=>?_⟩
  obtain ⟨q1,q2,q3⟩:=h4 q
  refine ⟨q1,q2,?_⟩
  rw [e2]; exact q3
 | ptr id off=>exact eR.move hm h
 | Pp id off=>exact eR.move hm h
 | Qd id bB i off =>
  obtain ⟨h1,h2,h3⟩:=h
  obtain ⟨e1,e2⟩:=hm id h1
  exact ⟨by rw [e1]; exact h1,h2,fun cu T e s hd=>by rw [e2]; exact h3 cu T e s (e1 ▸ hd)⟩
 | row id bB =>
  obtain ⟨h1,h2,h3⟩:=h
  obtain ⟨e1,e2⟩:=hm id h1
  refine ⟨by rw [e1]; exact h1,h2,fun cu T e s hd=>?_⟩
  have:=h3 cu T e s (e1 ▸ hd)
  unfold Jf at this ⊢
  rw [e2]; exact this
 | mp id =>
  obtain ⟨h1,h2,h3⟩:=h
  obtain ⟨e1,e2⟩:=hm id h1
  exact ⟨by rw [e1]; exact h1,h2,fun k e m hd=>by rw [e2]; exact h3 k e m (e1 ▸ hd)⟩
 | rows id =>
  obtain ⟨h1,h2,h3⟩:=h
  obtain ⟨e1,e2⟩:=hm id h1
  exact ⟨by rw [e1]; exact h1,h2,fun cu T e d hd=>by rw [e2]; exact h3 cu T e d (e1 ▸ hd)⟩
 | LX id i =>
  obtain ⟨h1,h2,h3⟩:=h
  obtain ⟨e1,e2⟩:=hm id h1
  exact ⟨by rw [e1]; exact h1,h2,fun cu T e d hd=>by rw [e2]; exact h3 cu T e d (e1 ▸ hd)⟩
 | sub id bB i n =>
  obtain ⟨h1,h2,h3⟩:=h
  obtain ⟨e1,e2⟩:=hm id h1
  refine ⟨by rw [e1]; exact h1,h2,fun cu T e d hd=>?_⟩
  have:=h3 cu T e d (e1 ▸ hd)
  unfold yd at this ⊢
  rw [e2]; exact this
 | zU id bB i j off =>
  obtain ⟨h1,h2,h3⟩:=h
  obtain ⟨e1,e2⟩:=hm id h1
  refine ⟨by rw [e1]; exact h1,h2,fun cu T e d hd=>?_⟩
  have:=h3 cu T e d (e1 ▸ hd)
  unfold yd at this ⊢
  rw [e2]; exact this
 | nE f ids=>obtain ⟨hc,us,h1,h2⟩:=h; exact ⟨hc,us,h1,h2.move hm⟩
 | kB f τ x ids=>obtain ⟨hc,u,us,h1,h2,h3⟩:=h; exact ⟨hc,u,us,h1,h2,h3.move hm⟩
 | Cm T τ x=>exact h
 | jc=>exact h
 | qk=>exact h
 | ua=>exact h
 | top=>exact h
def dD (D:Nat->Bool) (h2 h:Nat->aN):Nat->aN:=fun id=>bif D id then h2 id else h id
def dr (D:Nat->Bool) (r2 r:fV):fV:=fun id=>bif D id then r2 id else r id
theorem SR.back (hG:G.Ok P) (h:SR P N G s a w ρ S F) {D:Nat->Bool} {M:Nat->Prop} {lo:Nat} {fu:Nat->Option Nat} (h2:SR P N' (Gh.inner M S w G.l lo fu) s2 a2 w2 ρ2 S2 F2)
  (hM:∀ b,M b->∃ id,D id=true/\Own w ρ id (s.heap id) b) (hD:∀ id,s2.heap id ≠ .none->D id=true)
  (hK:∀ id,D id=true->Kept w w2 ρ ρ2 id (s.heap id) (s2.heap id)) (ajj:∀ id b,D id=true->G.fu id=some b->ρ2 id=some b/\dS (s2.heap id)=false) :
  SR P N G { s with heap:=dD D s2.heap s.heap } a w2 (dr D ρ2 ρ) S2 F:=by
 have hMF:∀ b,M b->¬ F b:=fun b hb hF=>by
  obtain ⟨id,_,hl⟩:=hM b hb
  exact (h.gD hl).2.1.2 hF
 have hMA:∀ b,M b->G.w0.heap.size<=b\/G.M b:=fun b hb=>by
  obtain ⟨id,_,hl⟩:=hM b hb
  exact (h.gD hl).2.1.1
 have hsame:∀ b,b < w.heap.size->¬ M b->w2.heap[b]? = w.heap[b]? := fun b hb hn=>h2.same.block b ⟨hb,hn,fun q=>q⟩
 have mY:∀ id b,D id=false->Own w ρ id (s.heap id) b->¬ M b:=fun id b hd hl hm=>by
  obtain ⟨id',hd',hl'⟩:=hM b hm
  have:=h.inj id' id b hl' hl
  rw [this,hd] at hd'; cases hd'
 have Fb:∀ id b,D id=false->live (s.heap id)->ρ id=some b->¬ M b:=fun id b hd hl hr=>mY id b hd (.of hl hr)
 have hk:∀ id,Kept w w2 ρ (dr D ρ2 ρ) id (s.heap id) (dD D s2.heap s.heap id):=fun id=>by
  cases hd:D id with
  | true =>
   have:=hK id hd
   have e1:dD D s2.heap s.heap id=s2.heap id:=by simp [dD,hd]
   have e2:dr D ρ2 ρ id=ρ2 id:=by simp [dr,hd]
   rw [e1]
   cases ho:s.heap id with
   | none=>trivial
   | gone=>rw [ho] at this; exact this
   | box ds=>rw [ho] at this; exact this.imp (fun q=>q) fun q=>⟨q.1,e2.trans q.2⟩
   | chain cur T k n =>
    rw [ho] at this
    obtain ⟨cur',n',q1,q2,q3⟩:=this
    exact ⟨cur',n',q1,q2,fun q=>⟨(q3 q).1,e2.trans (q3 q).2.1,(q3 q).2.2⟩⟩
   | row cur T e x=>rw [ho] at this; exact this.imp (fun q=>q) fun ⟨c',x',q1,q2,q3⟩=>⟨c',x',q1,q2,fun q=>⟨(q3 q).1,(q3 q).2.imp (fun z=>e2.trans z) (fun z=>z)⟩⟩
   | mp k v m=>rw [ho] at this; exact this.imp (fun q=>q) fun q=>⟨q.1,e2.trans q.2⟩
   | rows cur T e d=>rw [ho] at this; exact this.imp (fun q=>q) fun ⟨c',d',q1,q2,q3,q4,q5⟩=>⟨c',d',q1,q2,q3,e2.trans q4,q5⟩
  | false =>
   have e1:dD D s2.heap s.heap id=s.heap id:=by simp [dD,hd]
   rw [e1]
   exact .refl (by simp [dr,hd]) fun b hb hl=>hsame b (h.eE hl hb).1 (Fb id b hd hl hb)
 have hm:∀ id,s2.heap id ≠ .none->dD D s2.heap s.heap id=s2.heap id/\dr D ρ2 ρ id=ρ2 id:=fun id hn=>by simp [dD,dr,hD id hn]
 have ex:Ext0 S w S2 w2:=h2.ext
 have Jm:∀ b o,S2 b o->S b o\/w.heap.size<=b\/M b:=h2.new
 have hsz:w.heap.size<=w2.heap.size:=ex.size
 have vT:∀ b,ve (Gh.inner M S w G.l lo fu) F2 b->ve G F b:=fun b ⟨q,_⟩=>by
  rcases q with q | q
  ·have q:w.heap.size<=b:=q
   exact ⟨.inl (Nat.le_trans h.ext.size q),fun x=>by have:=h.fb b x; omega⟩
  ·exact ⟨hMA b q,hMF b q⟩
 refine ⟨h.size,h.aS.tr hk fun Db hF hDb=>⟨(hsame Db (Array.getElem?_eq_some_iff.1 hDb).1 fun hm=>?_).trans hDb,hF⟩,fun t=>(h.env t).tr ex hk,fun id=>?_,fun i j b hi hj=>?_,
  h.ext.trans ex,fun b o q=>?_,h.same.trans ⟨h2.same.os,h2.same.tape,h2.same.output,hsz,fun b hb=>?_⟩,h.tr.tr hG.c h.fb ⟨h2.same.os,h2.same.tape,h2.same.output,hsz,fun b hb=>hsame b (h.fb b hb) fun q=>hMF b q hb⟩ ex,
  fun b x=>Nat.lt_of_lt_of_le (h.fb b x) hsz,h.f0,h.sub,fun b o q x=>?_,fun id b hb=>?_⟩
 ·obtain ⟨id,_,hl⟩:=hM Db hm
  exact (h.gD hl).2.2 hDb
 ·cases hd:D id with
  | false =>
   have e1:dD D s2.heap s.heap id=s.heap id:=by simp [dD,hd]
   show OI P G S2 w2 (dD D s2.heap s.heap) (dr D ρ2 ρ) F id (dD D s2.heap s.heap id)
   rw [e1]
   refine (h.obj id).tr ex hk (by simp [dr,hd]) fun b hb=>⟨hsame b (h.gD hb).1 (mY id b hd hb),fun i q=>?_,fun x=>x⟩
   rcases Jm b i q with q | q | q
   ·exact q
   ·have:=(h.gD hb).1; omega
   ·exact absurd q (mY id b hd hb)
  | true =>
   have e1:dD D s2.heap s.heap id=s2.heap id:=by simp [dD,hd]
   have e2:dr D ρ2 ρ id=ρ2 id:=by simp [dr,hd]
   show OI P G S2 w2 (dD D s2.heap s.heap) (dr D ρ2 ρ) F id (dD D s2.heap s.heap id)
   rw [e1]
   have:=h2.obj id
   cases ho:s2.heap id with
   | none=>trivial
   | gone=>trivial
   | box ds =>
    rw [ho] at this
    obtain ⟨b,arr,T,q1,q2,q3,q4,q5⟩:=this
    exact ⟨b,arr,T,e2.trans q1,vT b q2,q3,q4.imp fun d u hd=>hd.move hm,q5⟩
   | chain cur T k n =>
    rw [ho] at this
    rcases this with ⟨q1,q2⟩ | ⟨b,q1,q2,q3⟩
    ·exact .inl ⟨e2.trans q1,q2⟩
    ·exact .inr ⟨b,e2.trans q1,vT b q2,q3⟩
   | row cur T e x =>
    rw [ho] at this
    obtain ⟨q0,⟨q1,q2⟩ | ⟨b,arr,q1,q2,q3⟩⟩:=this
    ·exact ⟨q0,.inl ⟨e2.trans q1,q2⟩⟩
    ·exact ⟨q0,.inr ⟨b,arr,e2.trans q1,vT b q2,q3⟩⟩
   | mp k v m =>
    rw [ho] at this
    obtain ⟨b,es,c,q1,q2,q3⟩:=this
    exact ⟨b,es,c,e2.trans q1,vT b q2,q3⟩
   | rows cur T e x =>
    rw [ho] at this
    obtain ⟨q0,b,arr,T',q1,q2,q3,q4,q5,q6,q7⟩:=this
    refine ⟨q0,b,arr,T',e2.trans q1,vT b q2,q3,q4,q5,q6,fun i hi=>?_⟩
    obtain ⟨ad,cap,z1,z2⟩:=q7 i hi
    exact ⟨ad,cap,z1,z2.imp (fun x=>x) fun ⟨z0,b',gC,Vc,z3,z4,z5,z6⟩=>⟨z0,b',gC,Vc,z3,z4,vT b' z5,z6⟩⟩
 ·have hi:Own w2 (dr D ρ2 ρ) i (dD D s2.heap s.heap i) b:=hi
  have hj:Own w2 (dr D ρ2 ρ) j (dD D s2.heap s.heap j) b:=hj
  have inn:∀ i,D i=true->Own w2 (dr D ρ2 ρ) i (dD D s2.heap s.heap i) b->Own w2 ρ2 i (s2.heap i) b:=fun i di q=>by
   rw [show dD D s2.heap s.heap i=s2.heap i by simp [dD,di]] at q
   exact q.back (by simp [dr,di]) fun _ _ _=>rfl
  have out:∀ i,D i=false->Own w2 (dr D ρ2 ρ) i (dD D s2.heap s.heap i) b->Own w ρ i (s.heap i) b:=fun i di q=>by
   rw [show dD D s2.heap s.heap i=s.heap i by simp [dD,di]] at q
   exact q.back (by simp [dr,di]) fun b q1 q2=>hsame b (h.eE q2 q1).1 (Fb i b di q2 q1)
  have mixed:∀ i j,D j=false->Own w2 ρ2 i (s2.heap i) b->Own w ρ j (s.heap j) b->False:=fun i j dj li lj=>by
   have hb:=(h.gD lj).1
   rcases (h2.gD li).2.1.1 with q | q
   ·have q:w.heap.size<=b:=q
    omega
   ·exact mY j b dj lj q
  cases di:D i with
  | true =>
   cases dj:D j with
   | true=>exact h2.inj i j b (inn i di hi) (inn j dj hj)
   | false=>exact (mixed i j dj (inn i di hi) (out j dj hj)).elim
  | false =>
   cases dj:D j with
   | true=>exact (mixed j i di (inn j dj hj) (out i di hi)).elim
   | false=>exact h.inj i j b (out i di hi) (out j dj hj)
 ·rcases Jm b o q with q | q | q
  ·exact h.new b o q
  ·exact .inr (.inl (Nat.le_trans h.ext.size q))
  ·exact .inr (hMA b q)
 ·obtain ⟨q1,q2,q3⟩:=hb
  refine hsame b (Nat.lt_of_lt_of_le q1 h.ext.size) fun q=>?_
  rcases hMA b q with q | q
  ·omega
  ·exact q2 q
 ·rcases Jm b o q with q | q | q
  ·exact h.fs b o q x
  ·have:=h.fb b x; omega
  ·exact absurd x (hMF b q)
 ·show dr D ρ2 ρ id=some b/\dS (dD D s2.heap s.heap id)=false
  cases hd:D id with
  | true =>
   rw [dr,dD,hd,cond_true,cond_true]
   exact ajj id b hd hb
  | false =>
   rw [dr,dD,hd,cond_false,cond_false]
   exact h.pins id b hb
theorem Vm {τ:Ty} {y:τ.den}:xX τ (.pc τ y)=some y:=by cases τ <;> simp [xX,cZ]
theorem Zf {τ:Ty} {d:DC}:fK τ (.v d)=xX τ d:=by cases τ <;> rfl
theorem Iz (hG:G.Ok P) (h:SR P N G s a w ρ S F) {f:FuncId} {wr:Bool} {n:Nat} {τh:Ty} {T:TypeId} {e:Ty} {R:(Ty.cons τh .nil).den->Option (Sl e.den)} (Qv:fH P f (qU wr n (.cons τh .nil) T e R))
  {cv:Nat} (hlo:G.lo<=cv) (hno:s.heap cv = .none) (sC:e.plain=true) (hfl:e.flat=true) {y:τh.den} {u:Value} (hone:τh.one=true) (hR:Go.Dm.R P τh (fun b _=>b < w.heap.size) w y [u]) (hn:Nat.ble 1 n=true) {sl:Sl e.den} (hs:R (y,())=some sl) :
  Calls P f #[u] w fun en w'=>∃ v ρ' S',en = .returned v/\SR P N G { s with heap:=dm s.heap [(cv,eD wr T e sl)] } a w' ρ' S' F/\RS P G.Y S' w' (dm s.heap [(cv,eD wr T e sl)]) ρ' (wG wr cv e sl) v:=by
 let G0:Gh:=Gh.inner (fun _=>False) (fun b _=>b < w.heap.size) w G.l 0 (fun _=>none)
 have hG0:G0.Ok P:=⟨Cons.Sz _,Fa,fun _ _ q=>by cases q⟩
 let s0:St:=⟨fun _=>.top,fun _=>.none,.none,0,[]⟩
 let a0:Act:={ tmps:=#[u],defers:=[] }
 have h0:SR P 1 G0 s0 a0 w (fun _=>none) (fun b _=>b < w.heap.size) (fun _=>False):=
  ⟨rfl,trivial,fun _=>trivial,fun _=>trivial,fun i j b hi=>hi.elim,.refl (fun _ _ q=>q),fun _ _ q=>.inl q,.refl _ _,⟨false,⟨0,fun _=>()⟩,rfl,[],List.nil_prefix,trivial⟩,fun _ q=>q.elim,fun _ _ q=>q,fun _ q=>q,fun _ _ _ _=>trivial,fun _ _ q=>by cases q⟩
 have wQ:qU wr n (.cons τh .nil) T e R [.v (.pc τh y)] s0.heap s0.tr 0 = .br true (.leaf (.ok ⟨some (wG wr 0 e sl),[(0,eD wr T e sl)],[0],false,none⟩)) (.leaf .bad):=by
  unfold qU
  have e1:fh (.cons τh .nil) [.v (.pc τh y)]=some (y,()):=by simp only [fh,Zf,Vm]
  have e2:s0.heap 0 = .none:=rfl
  have e3:Nat.ble [Slot.v (.pc τh y)].length n=true:=hn
  simp only [e1,e2,e3,hs,Option.isSome_some,Option.getD_some]
 have hc:=Qv 1 G0 s0 a0 w (fun _=>none) (fun b _=>b < w.heap.size) (fun _=>False) hG0 h0 [.v (.pc τh y)] [u] 0 rfl (fun j d v h1 h2=>by
   cases j with
   | zero=>simp at h1 h2; subst h1 h2; exact ⟨hone,hR⟩
   | succ j=>simp at h1) (Nat.le_refl _) (by rw [wQ]; intro r hr; rw [show r=_ from hr]; simp) (by rw [wQ]; intro e he; cases (show OR.cw .jc e=_ from he))
 refine hc.mono ?_
 rintro en w' ⟨rr,tY,hr2⟩
 rw [wQ] at tY
 have tY:rr=_:=tY
 subst tY
 obtain ⟨v,ρ2,S2,F2,rfl,q1,q2⟩:=hr2
 have dn:OI P G0 S2 w' (dm s0.heap [(0,eD wr T e sl)]) ρ2 F2 0 (eD wr T e sl):=by
  have:=q1.obj 0
  have e0:dm s0.heap [(0,eD wr T e sl)] 0=eD wr T e sl:=by simp [dm,ay]
  have this:OI P G0 S2 w' (dm s0.heap [(0,eD wr T e sl)]) ρ2 F2 0 (dm s0.heap [(0,eD wr T e sl)] 0):=this
  rw [e0] at this
  exact this
 have hnew:∀ b,ve G0 F2 b->w.heap.size<=b:=fun b q=>q.1.elim (fun x=>x) (fun x=>x.elim)
 have aqp:∀ {b o},w.heap.size<=b->(S b o\/w.heap.size<=b/\S2 b o)->S2 b o:=fun {b o} hb q=>q.elim (fun q=>absurd (h.bd _ _ q) (by omega)) (fun q=>q.2)
 have hS2:SR P 1 (Gh.inner (fun _=>False) S w G.l 0 fun _=>none) ⟨fun _=>.top,fun i=>bif Nat.beq i cv then eD wr T e sl else .none,.none,0,[]⟩ a0 w'
   (fun i=>bif Nat.beq i cv then ρ2 0 else none) (fun b o=>S b o\/w.heap.size<=b/\S2 b o) (fun _=>False):=by
  refine ⟨rfl,trivial,fun _=>trivial,fun i=>?_,fun i j b' hi hj=>?_,⟨q1.ext.size,fun b o q=>.inl q,fun b o q=>q1.ext.same b o (h.bd _ _ q),fun b o es c q m=>q1.ext.maps b o es c (h.bd _ _ q) m,fun b o q=>q.elim (fun q=>Nat.lt_of_lt_of_le (h.bd _ _ q) q1.ext.size) (fun q=>q1.ext.bd _ _ q.2),q1.ext.pl⟩,fun b o q=>q.imp (fun x=>x) (fun x=>.inl x.1),
   q1.same.mono fun b q=>⟨q.1,q.2.1,q.2.2⟩,⟨false,⟨0,fun _=>()⟩,rfl,[],List.nil_prefix,trivial⟩,fun _ q=>q.elim,fun _ _ q=>q,fun _ q=>q,fun _ _ _ _=>trivial,fun _ _ q=>by cases q⟩
  ·by_cases hi:i=cv
   ·subst hi
    simp only [Nat.beq_refl,cond_true]
    cases wr with
    | true =>
     obtain ⟨g1,⟨g2,g3⟩ | ⟨b,arr,g2,g3,g4,g5,g6,g7⟩⟩:=dn
     ·exact ⟨g1,.inl ⟨by simp only [Nat.beq_refl,cond_true]; exact g2,g3⟩⟩
     ·exact ⟨g1,.inr ⟨b,arr,by simp only [Nat.beq_refl,cond_true]; exact g2,⟨.inl (hnew b g3),fun q=>q⟩,g4,g5,fun k hk=>let ⟨us,u1,u2,u3⟩:=g6 k hk; ⟨us,(Go.Dm.R.plain sC).2 ((Go.Dm.R.plain sC).1 u1),u2,u3⟩,fun o q=>g7 o (aqp (hnew b g3) q)⟩⟩
    | false =>
     rcases dn with ⟨g2,g3⟩ | ⟨b,g2,g3,g4,g5,g6⟩
     ·exact .inl ⟨by simp only [Nat.beq_refl,cond_true]; exact g2,g3⟩
     ·exact .inr ⟨b,by simp only [Nat.beq_refl,cond_true]; exact g2,⟨.inl (hnew b g3),fun q=>q⟩,g4,g5,fun o q=>g6 o (aqp (hnew b g3) q)⟩
   ·simp only [bC hi,cond_false]; trivial
  ·by_cases hi':i=cv
   ·by_cases hj':j=cv
    ·rw [hi',hj']
    ·have hj:=hj.lv; simp only [bC hj',cond_false] at hj; exact hj.elim
   ·have hi:=hi.lv; simp only [bC hi',cond_false] at hi; exact hi.elim
 have kL:=h.back hG (D:=fun i=>Nat.beq i cv) hS2 (fun b hb=>hb.elim) (fun id hn=>by
   cases hb:Nat.beq id cv with
   | true=>rfl
   | false=>simp only [hb,cond_false] at hn; exact absurd rfl hn)
  (fun id hid=>by rw [Nat.eq_of_beq_eq_true hid,hno]; trivial) (fun id b hid hb=>by have:=hG.fu id b hb; have:=Nat.eq_of_beq_eq_true hid; omega)
 refine ⟨v,_,_,rfl,kL.of_eq rfl ?_ rfl rfl,?_⟩
 ·funext i
  show dm s.heap [(cv,eD wr T e sl)] i=dD (fun i=>Nat.beq i cv) (fun i=>bif Nat.beq i cv then eD wr T e sl else .none) s.heap i
  by_cases hi:i=cv
  ·subst hi; simp [dm,ay,dD]
  ·simp [dm,ay,dD,bC hi]
 ·have hh:dm s.heap [(cv,eD wr T e sl)] cv=eD wr T e sl:=by simp [dm,ay]
  have h00:dm s0.heap [(0,eD wr T e sl)] 0=eD wr T e sl:=by simp [dm,ay]
  have aob:dr (fun i=>Nat.beq i cv) (fun i=>bif Nat.beq i cv then ρ2 0 else none) ρ cv=ρ2 0:=by simp [dr]
  cases wr with
  | true =>
   obtain ⟨r1,r2,r3⟩:=(show RC P G0.Y S2 w' (dm s0.heap [(0,eD true T e sl)]) ρ2 (.row 0 0) v from q2)
   refine ⟨by rw [hh]; simp [eD],r2,fun cur T' e' s' hd=>?_⟩
   rw [hh] at hd
   obtain ⟨r4,r5⟩:=r3 cur T' e' s' (h00.trans hd)
   refine ⟨r4,fun q=>?_⟩
   have:=r5 q
   unfold Jf at this ⊢
   rw [aob]; exact this
  | false =>
   obtain ⟨r1,r2,cur,T',k,m,r3,r4,r5⟩:=(show RC P G0.Y S2 w' (dm s0.heap [(0,eD false T e sl)]) ρ2 (.own 0 0 e sl) v from q2)
   rw [h00] at r3
   have Qw:0=cur:=by simp only [eD] at r3; cases r3; rfl
   obtain ⟨r6,r7,r8⟩:=r5 Qw
   refine ⟨?_,r2,cur,T',k,m,hh.trans r3,r4,fun q=>⟨r6,r7,?_⟩⟩
   ·rcases r1 with r1 | ⟨b,o,cap,g1,g2,g3,g4⟩
    ·exact .inl r1
    ·refine .inr ⟨b,o,cap,g1,g2,g3,fun i hi=>?_⟩
     obtain ⟨us,u1,u2,u3⟩:=g4 i hi
     rcases r8 with ⟨_,k0,_⟩ | ⟨b2,wL,cr,k1,k2,_⟩
     ·have hi:i < sl.n:=hi
      omega
     ·have uk:b2=b:=by
       have g1:=(List.cons.inj g1).1
       rw [k2] at g1; cases g1; rfl
      subst uk
      have hw:w.heap.size<=b2:=by
       rcases dn with ⟨z1,_⟩ | ⟨b3,z1,z2,_⟩
       ·rw [k1] at z1; cases z1
       ·rw [k1] at z1; cases z1; exact hnew _ z2
      exact ⟨us,(Go.Dm.R.plain sC).2 ((Go.Dm.R.plain sC).1 u1),u2,fun j x hx=>⟨.inr ⟨hw,(u3 j x hx).1⟩,(u3 j x hx).2⟩⟩
   ·rw [aob]; exact r8
end Go.Dm
namespace Go.Dm
open Go.RowKit
variable {P:Program} {N:Nat} {G:Gh} {S S':CS} {w w':World}
theorem Qx {t ty el : TypeId} {i : TypeInfo} {z : Value} {k n m : Nat} (ht : P.underlying t = some (.slice el)) (hi : P.info? el = some i) (hz : i.zero = some z)
    (hsz : i.size = k) (hs0 : 0 < i.size) (hb0 : 0 < i.bytes) (hzs : z.cells.size = i.size)
    {v : Value} {xs news : List Value} {ad : Option Addr} {c : Nat} (hfit : (n + m) * i.bytes ≤ 140737488355328) (Ad : xs.length = n * k) (hnl : news.length = m * k) (xU : ∀ v ∈ news, v.oneCell' = true)
    (hsrc : (m = 0) ∨ ∃ a, ad = some a ∧ ∀ (j : Nat) (v : Value), news[j]? = some v → w.cell? (a.add j) = some v)
    (p : Bool) (hv : (p = true ∧ (∃ a0, v = .slice a0 0 0) ∧ n = 0) ∨ p = false ∧ ∃ b cap cur, v = .slice (some ⟨b, 0, none⟩) n cap ∧ n ≤ cap ∧ cap ≤ maxLen ∧ w.heap[b]? = some (.cells cur el (0, 0)) ∧ cur.size = cap * k ∧ cur.toList.take (n * k) = xs) :
    ∃ v' w' nb, (Builtin.append_ #[t, t] ty #[v, .slice ad m c]).run P w = .ok v' w' ∧
      ((nb = none ∧ p = true ∧ v' = v ∧ n + m = 0 ∧ w' = w) ∨
       ∃ b cap cur, nb = some b ∧ v' = .slice (some ⟨b, 0, none⟩) (n + m) cap ∧ n + m ≤ cap ∧ cap ≤ maxLen ∧ w'.heap[b]? = some (.cells cur el (0, 0)) ∧ cur.size = cap * k ∧ cur.toList.take ((n + m) * k) = xs ++ news ∧
         (b = w.heap.size ∨ (p = false ∧ ∃ c, v = .slice (some ⟨b, 0, none⟩) n c)) ∧ Pl w w' ∧ (w'.os = w.os ∧ w'.tape = w.tape ∧ w'.output = w.output ∧ w.heap.size ≤ w'.heap.size ∧ ∀ k, k < w.heap.size → k ≠ b → w'.heap[k]? = w.heap[k]?)) := by
  have hle : n + m ≤ 140737488355328 := Nat.le_trans (Nat.le_mul_of_pos_right _ hb0) hfit
  have EN : news.length = m * i.size := by rw [hsz]; exact hnl
  have h63 : ((n + m : Nat) : Int) ≤ 9223372036854775807 := by omega
  have hlen : (xs ++ news).length = (n + m) * k := by rw [List.length_append, Ad, hnl, Nat.add_mul]
  have fresh : ∀ (old : Nat),
      let W := w.drew.alloc (.cells (xs.toArray ++ news.toArray ++ Builtin.zeroCells z.cells (grownCap w (n + m) old el - (n + m))) el)
      let v' := Value.slice (some ⟨w.heap.size, 0, none⟩) (n + m) (grownCap w (n + m) old el)
      ∃ b cap cur, some w.heap.size = some b ∧ v' = .slice (some ⟨b, 0, none⟩) (n + m) cap ∧ n + m ≤ cap ∧ cap ≤ maxLen ∧ W.heap[b]? = some (.cells cur el (0, 0)) ∧ cur.size = cap * k ∧ cur.toList.take ((n + m) * k) = xs ++ news ∧
         (b = w.heap.size ∨ (p = false ∧ ∃ c, v = .slice (some ⟨b, 0, none⟩) n c)) ∧ Pl w W ∧ (W.os = w.os ∧ W.tape = w.tape ∧ W.output = w.output ∧ w.heap.size ≤ W.heap.size ∧ ∀ k, k < w.heap.size → k ≠ b → W.heap[k]? = w.heap[k]?) := by
    intro old W v'
    have hge := grownCap_ge w (n + m) old el
    have Qp : grownCap w (n + m) old el ≤ maxLen := grownCap_le_maxLen w (n + m) old el (by unfold maxLen; omega)
    have hblk : W.heap[w.heap.size]? = some (.cells (xs.toArray ++ news.toArray ++ Builtin.zeroCells z.cells (grownCap w (n + m) old el - (n + m))) el (0, 0)) := heap_alloc_new w.drew _
    have hcs : (xs.toArray ++ news.toArray ++ Builtin.zeroCells z.cells (grownCap w (n + m) old el - (n + m))).size = grownCap w (n + m) old el * k := by
      simp only [Array.size_append, List.size_toArray, size_zeroCells, hzs, Ad, hnl, hsz, ← Nat.add_mul]
      congr 1; omega
    refine ⟨w.heap.size, _, _, rfl, rfl, hge, Qp, hblk, hcs, ?_, .inl rfl, ⟨by simp [W], by simp [W], fun k a1 T1 f1 hk hc => ⟨a1, T1, f1, (Below.heap_alloc w.drew _ k hk).symm.trans hc, rfl⟩⟩, rfl, rfl, rfl, by simp [W], fun k hk _ => Below.heap_alloc w.drew _ k hk⟩
    have e1 : (xs.toArray ++ news.toArray ++ Builtin.zeroCells z.cells (grownCap w (n + m) old el - (n + m))).toList = (xs ++ news) ++ (Builtin.zeroCells z.cells (grownCap w (n + m) old el - (n + m))).toList := by simp
    rw [e1, ← hlen, List.take_append_of_le_length (Nat.le_refl _)]
    exact List.take_of_length_le (Nat.le_refl _)
  rcases hv with ⟨hp, ⟨a0, rfl⟩, RI⟩ | ⟨hp, b, cap, cur, rfl, hnc, Qp, hblk, hcs, GZ⟩
  · have hxs : xs = [] := List.eq_nil_of_length_eq_zero (by rw [Ad, RI, Nat.zero_mul])
    by_cases hm : m = 0
    · refine ⟨.slice a0 0 0, w, none, ?_, .inl ⟨rfl, hp, rfl, by omega, rfl⟩⟩
      rcases a0 with _ | a0
      · rcases ad with _ | a1
        · rw [hm]; simp [Builtin.append_, run_underlying ht, sizeOf, typeInfo, hi, Builtin.lenOf, Builtin.firstCells]
        · rw [hm]; simp [Builtin.append_, run_underlying ht, sizeOf, typeInfo, hi, Builtin.lenOf, Builtin.firstCells, loadCells, loadCellsFrom]
      · rw [hm]
        cases ad <;> simp [Builtin.append_, run_underlying ht, sizeOf, typeInfo, hi, Builtin.lenOf, Builtin.firstCells, storeCells, loadCells, loadCellsFrom]
    · rcases hsrc with h0 | ⟨a1, rfl, hsrc⟩
      · exact absurd h0 hm
      · have f4 := fresh 0
        rcases a0 with _ | a0
        · have hrun := run_append_nil (P := P) w t ty el i z ht hi hz a1 m c news EN hsrc (by omega) (by omega) (by have := hfit; rw [RI, Nat.zero_add] at this; omega)
          refine ⟨_, _, some w.heap.size, ?_, .inr f4⟩
          rw [hrun]
          simp [RI, hxs]
        · have hrun := run_append_grow (P := P) w t ty el i z ht hi hz a0 0 0 [] (by simp) (fun j u hu => by simp at hu) a1 m c news EN hsrc (by omega) (by omega) (growslice_fits (by omega) (by have := hfit; rw [RI] at this; exact this))
          refine ⟨_, _, some w.heap.size, ?_, .inr f4⟩
          rw [hrun]
          simp [RI, hxs]
  · rcases hsrc with h0 | ⟨a1, rfl, hsrc⟩
    · have hnews : news = [] := List.eq_nil_of_length_eq_zero (by rw [hnl, h0, Nat.zero_mul])
      refine ⟨.slice (some ⟨b, 0, none⟩) n cap, w, some b, ?_, .inr ⟨b, cap, cur, rfl, by rw [h0, Nat.add_zero], by omega, Qp, hblk, hcs, by rw [h0, Nat.add_zero, GZ, hnews, List.append_nil], .inr ⟨hp, cap, rfl⟩, .refl w, rfl, rfl, rfl, Nat.le_refl _, fun _ _ _ => rfl⟩⟩
      have hroom : n ≤ cap := hnc
      rw [h0]
      cases ad <;> simp [Builtin.append_, run_underlying ht, sizeOf, typeInfo, hi, Builtin.lenOf, Builtin.firstCells, hroom, storeCells, loadCells, loadCellsFrom]
    · by_cases hroom : n + m ≤ cap
      · have YT : n * i.size + news.length ≤ cur.size := by rw [EN, hcs, hsz, ← Nat.add_mul]; exact Nat.mul_le_mul_right _ hroom
        have hrun := run_append_room (P := P) w t ty el i ht hi b n cap cur hblk a1 m c news EN hsrc xU hroom YT
        rw [hsz, GZ] at hrun
        have WO : (w.setRow b (xs ++ news ++ cur.toList.drop (n * k + news.length)).toArray).heap[b]? = some (.cells (xs ++ news ++ cur.toList.drop (n * k + news.length)).toArray el (0, 0)) := setRow_heap w b cur _ el _ hblk
        refine ⟨_, _, some b, hrun, .inr ⟨b, cap, _, rfl, rfl, hroom, Qp, WO, ?_, ?_, .inr ⟨hp, cap, rfl⟩, .setRow hblk ?_, rfl, rfl, rfl, by simp [World.setRow], fun k _ hk => setRow_other w b k _ hk⟩⟩
        · simp only [List.size_toArray, List.length_append, List.length_drop, Array.length_toList, Ad, hnl, hcs]
          have : n * k + m * k ≤ cap * k := by rw [← Nat.add_mul]; exact Nat.mul_le_mul_right _ hroom
          omega
        · rw [← hlen, List.take_append_of_le_length (Nat.le_refl _), List.take_of_length_le (Nat.le_refl _)]
        · simp only [List.size_toArray, List.length_append, List.length_drop, Array.length_toList, Ad, hnl, hcs]
          have : n * k + m * k ≤ cap * k := by rw [← Nat.add_mul]; exact Nat.mul_le_mul_right _ hroom
          omega
      · have holds : ∀ (j : Nat) (u : Value), xs[j]? = some u → w.cell? ((⟨b, 0, none⟩ : Addr).add j) = some u := fun j u hu => by
          rw [Addr.add_lit, cell_of_row w b (0 + j) cur el _ hblk, Nat.zero_add]
          rw [← GZ, List.getElem?_take] at hu
          split at hu
          · rwa [Array.getElem?_toList] at hu
          · cases hu
        have hrun := run_append_grow (P := P) w t ty el i z ht hi hz ⟨b, 0, none⟩ n cap xs (by rw [hsz]; exact Ad) holds a1 m c news EN hsrc (by omega) h63 (growslice_fits (by omega) hfit)
        exact ⟨_, _, some w.heap.size, hrun, .inr (fresh cap)⟩
end Go.Dm
namespace Go.Dm
open Go.RowKit
variable {P:Program} {N:Nat} {G:Gh} {S S':CS} {w w':World} {s:St} {a:Act} {ρ ρ':fV} {F F':Nat->Prop} {heap heap':Nat->aN} {Y:Value} {E:cO} {Γ:Ctx}
theorem SR.aBe (hG:G.Ok P) (h:SR P N G s a w ρ S F) {id cur':Nat} {T:TypeId} {e:Ty} {s':Sl e.den} {nb:Option Nat} (hlo:G.lo<=id)
  (hid:s.heap id = .none\/∃ v s0,s.heap id = .row v T e s0/\v < cur')
  (ex:Ext0 S w S w') (hs:eT (fun b=>b < w.heap.size/\nb≠some b) w w')
  (hnb:∀ b,nb=some b->b=w.heap.size\/(live (s.heap id)/\ρ id=some b))
  (ho:(∀ b,nb=some b->ve G F b)->OI P G S w' (ay s.heap id (.row cur' T e s')) (fun i=>if i=id then nb else ρ i) F id (.row cur' T e s')) :
  SR P N G { s with heap:=ay s.heap id (.row cur' T e s') } a w' (fun i=>if i=id then nb else ρ i) S F:=by
 have Iu:∀ j b b',j≠id->Own w ρ j (s.heap j) b->nb=some b'->b≠b':=fun j b b' hj Gr hb' e=>by
  subst e
  rcases (hnb b hb') with q | ⟨q1,q2⟩
  ·have:=(h.gD Gr).1; omega
  ·exact hj (h.inj j id b Gr (.of q1 q2))
 have hne:∀ j b b',j≠id->live (s.heap j)->ρ j=some b->nb=some b'->b≠b':=fun j b b' hj hl Gr=>Iu j b b' hj (.of hl Gr)
 have kV:∀ b,nb=some b->ve G F b/\w.heap[b]? ≠ some (.deferred (some [])):=fun b hb=>by
  rcases hnb b hb with q | ⟨q1,q2⟩
  ·rw [q]; exact ⟨ve.new h,by simp⟩
  ·exact (h.eE q1 q2).2
 have YS:∀ j b,j≠id->Own w ρ j (s.heap j) b->w'.heap[b]? = w.heap[b]? := fun j b hj Gr=>hs.block b ⟨(h.gD Gr).1,fun e=>Iu j b b hj Gr e rfl⟩
 have gO:∀ j b,j≠id->live (s.heap j)->ρ j=some b->w'.heap[b]? = w.heap[b]? := fun j b hj hl Gr=>hs.block b ⟨(h.eE hl Gr).1,fun e=>hne j b b hj hl Gr e rfl⟩
 have hk:∀ j,Kept w w' ρ (fun i=>if i=id then nb else ρ i) j (s.heap j) (ay s.heap id (.row cur' T e s') j):=fun j=>by
  by_cases hj:j=id
  ·subst hj
   simp only [ay,Nat.beq_refl,cond_true]
   rcases hid with q | ⟨v,s0,q,hv⟩
   ·rw [q]; trivial
   ·rw [q]; exact .inr ⟨cur',s',rfl,by omega,fun e=>by omega⟩
  ·simp only [ay,bC hj,cond_false]
   exact .refl (by simp [hj]) fun b hb hl=>gO j b hj hl hb
 refine ⟨h.size,h.aS.tr hk (fun D hF hD=>⟨(hs.block D ⟨(Array.getElem?_eq_some_iff.1 hD).1,fun e=>(kV D e).2 hD⟩).trans hD,hF⟩),fun t=>(h.env t).tr ex hk,fun j=>?_,h.vf (by simp +contextual) gO (fun b q=>by
   have q:(if id=id then nb else ρ id)=some b:=q
   rw [if_pos rfl] at q
   rcases (hnb b q) with q' | ⟨q1,q2⟩
   ·exact .inr (.inl (by omega))
   ·exact .inl (.of q1 q2)),
  h.ext.trans ex,h.new,h.same.trans (hs.mono fun b hb=>⟨Nat.lt_of_lt_of_le hb.1 h.ext.size,fun e=>?_⟩),h.tr.tr hG.c h.fb (hs.mono fun b hb=>⟨h.fb b hb,fun e=>(kV b e).1.2 hb⟩) ex,
  fun b x=>Nat.lt_of_lt_of_le (h.fb b x) hs.size,h.f0,h.sub,h.fs,fun j b hj=>?_⟩
 ·by_cases hj:j=id
  ·subst hj
   simp only [ay,Nat.beq_refl,cond_true]
   exact ho fun b hb=>(kV b hb).1
  ·simp only [ay,bC hj,cond_false]
   exact (h.obj j).tr ex hk (by simp [hj]) fun b hb=>⟨YS j b hj hb,fun i q=>q,fun x=>x⟩
 ·obtain ⟨h1,h2,_⟩:=hb
  rcases (kV b e).1.1 with q | q
  ·omega
  ·exact h2 q
 ·have hp:=h.pins j b hj
  have zZ:j≠id:=fun e=>by have:=hG.fu j b hj; omega
  show (if j=id then nb else ρ j)=some b/\dS (ay s.heap id (.row cur' T e s') j)=false
  rw [if_neg zZ]
  simp only [ay,bC zZ,cond_false]
  exact hp
theorem Vn {k i:Nat} {xs:List Value} {j:Nat} {v:Value} (h:(chunk k i xs)[j]? = some v):xs[i * k + j]? = some v/\j < k:=by
 unfold chunk at h
 rw [List.getElem?_take] at h
 split at h
 ·rename_i hj; rw [List.getElem?_drop] at h; exact ⟨h,hj⟩
 ·cases h
theorem KC (hG:G.Ok P) {o:Oper} {Q:Exit->Act->World->Prop} (h:SR P N G s a w ρ S F) (hd:o.dst.all (Nat.blt · N)=true)
    {t el:TypeId} {sx x:Operand} (hop:o.op = .call { callee:=.builtin .append,args:=#[sx,x],argTypes:=#[t,t] })
    {i:TypeInfo} {z:Value} {e:Ty} (ht:P.underlying t=some (.slice el)) (hi:P.info? el=some i) (hz:i.zero=some z)
    (hsz:i.size=e.cells) (hs0:0 < i.size) (hb0:0 < i.bytes) (hzs:z.cells.size=i.size) (hfl:e.flat=true)
    {r y:Sl e.den} (hy:R P (.sl e) S w y [a.eval x]) (hfit:(r.n + y.n) * i.bytes<=140737488355328)
    {id cur':Nat} (hlo:G.lo<=id) (hid:s.heap id = .none\/∃ v s0,s.heap id = .row v el e s0/\v < cur') {xs:List Value} (Ad:xs.length=r.n * e.cells) (hxr:∀ i,i < r.n->R P e S w (r.g i) (chunk e.cells i xs))
    {p:Bool} (hv:(p=true/\(∃ a0,a.eval sx = .slice a0 0 0)/\r.n=0)\/p=false/\∃ b cap cur,live (s.heap id)/\ρ id=some b/\(∀ o,¬ S b o)/\a.eval sx = .slice (some ⟨b,0,none⟩) r.n cap/\r.n<=cap/\cap<=maxLen/\w.heap[b]? = some (.cells cur el (0,0))/\cur.size=cap * e.cells/\cur.toList.take (r.n * e.cells)=xs)
    {rh:List Nat} :
    o.wp P a w (vR P N G o s ⟨some (.v (.row id cur')),[(id,.row cur' el e (cK r y))],rh,true,none⟩) Q:=by
  have hxs:∃ (news:List Value) (ad:Option Addr) (c:Nat),a.eval x = .slice ad y.n c/\news.length=y.n * e.cells/\(∀ i,i < y.n->R P e S w (y.g i) (chunk e.cells i news))/\(∀ v∈news,v.oneCell'=true) /\
      ((y.n=0)\/∃ a,ad=some a/\∀ (j:Nat) (v:Value),news[j]? = some v->w.cell? (a.add j)=some v):=by
    rcases hy with ⟨h2,ad,c,h1⟩ | ⟨b,o,cap,h1,h2,h3,h4⟩
    · exact ⟨[],ad,c,by simpa [h2] using h1,by simp [h2],fun i hi=>by omega,by simp,.inl h2⟩
    · obtain ⟨us,q1,q2,q3⟩:=yp y.n h4
      refine ⟨us,some ⟨b,o,none⟩,cap,by simpa using h1,q1,q3,fun v hv=>?_,.inr ⟨_,rfl,fun j v hv=>by rw [Addr.add_lit]; exact (q2 j v hv).2⟩⟩
      obtain ⟨j,hj,rfl⟩:=List.getElem_of_mem hv
      have hcp:0 < e.cells:=by omega
      have hq:j / e.cells < y.n:=Nat.div_lt_of_lt_mul (by rw [Nat.mul_comm,<- q1]; exact hj)
      refine R.flat hfl (q3 (j / e.cells) hq) _ ?_
      unfold chunk
      have hj2:j=j / e.cells * e.cells + j % e.cells:=by rw [Nat.mul_comm]; exact (Nat.div_add_mod j e.cells).symm
      refine List.mem_of_getElem? (i:=j % e.cells) ?_
      rw [List.getElem?_take,if_pos (Nat.mod_lt _ hcp),List.getElem?_drop,<- hj2,List.getElem?_eq_getElem hj]
  obtain ⟨news,ad,c,hu,hnl,hnr,xU,hsrc⟩:=hxs
  obtain ⟨v',w',nb,hrun,mJ⟩:=Qx (P:=P) (ty:=o.type) (v:=a.eval sx) (xs:=xs) (c:=c) ht hi hz hsz hs0 hb0 hzs hfit Ad hnl xU hsrc p
    (hv.imp (fun x=>x) (fun ⟨hp,b,cap,cur,_,_,_,h4,h5,h6,h7,h8,h9⟩=>⟨hp,b,cap,cur,h4,h5,h6,h7,h8,h9⟩))
  have hex:(execOp a.eval o).run P w = .ok (.value v') w':=by
    simp only [execOp,hop,resolve,invoke,builtin,Sem.run_bind,Sem.run_pure,Result.andThen_ok,List.map_toArray,List.map_cons,List.map_nil,hu,hrun]
  have hSb:∀ b,nb=some b->∀ o,¬ S b o:=fun b hb o hS=>by
    rcases mJ with ⟨h1,_⟩ | ⟨b',cap,cur,h1,h2,h3,h4,h5,h6,h7,h8,h9⟩
    · rw [hb] at h1; cases h1
    · rw [hb] at h1; cases h1
      rcases h8 with h8 | ⟨hp,c,h8⟩
      · have:=h.bd _ _ hS; omega
      · rcases hv with ⟨hv,_⟩ | ⟨_,b2,wL,UZ,q1,q2,q3,q4,_⟩
        · rw [hv] at hp; cases hp
        · rw [q4] at h8; cases h8; exact q3 o hS
  have sC:Pl w w':=by
    rcases mJ with ⟨h1,_,_,_,h5⟩ | ⟨b',cap,cur,h1,h2,h3,h4,h5,h6,h7,h8,h9,h10⟩
    · rw [h5]; exact .refl w
    · exact h9
  have hsame:eT (fun b=>b < w.heap.size/\nb≠some b) w w':=by
    rcases mJ with ⟨h1,_,_,_,h5⟩ | ⟨b',cap,cur,h1,h2,h3,h4,h5,h6,h7,h8,_,h10,h11,h12,h13,h14⟩
    · rw [h5]; exact eT.refl _ _
    · exact ⟨h10,h11,h12,h13,fun k hk=>h14 k hk.1 (fun e=>hk.2 (by rw [h1,e]))⟩
  have ex:Ext0 S w S w':=⟨hsame.size,fun _ _ q=>q,fun b o hS=>World.cell?_of_block (a:=⟨b,o,none⟩) (hsame.block b ⟨h.bd b o hS,fun e=>hSb b e o hS⟩),
    fun b o es c hS hm=>(hsame.block b ⟨h.bd b o hS,fun e=>hSb b e o hS⟩).trans hm,fun b o hS=>Nat.lt_of_lt_of_le (h.bd b o hS) hsame.size,sC⟩
  have aqq:0 < e.cells:=by omega
  have hsr:=h.aBe hG (id:=id) (cur':=cur') (T:=el) (e:=e) (s':=cK r y) (nb:=nb) hlo hid ex hsame
    (fun b hb=>by
      rcases mJ with ⟨h1,_⟩ | ⟨b',cap,cur,h1,h2,h3,h4,h5,h6,h7,h8,h9⟩
      · rw [hb] at h1; cases h1
      · rw [hb] at h1; cases h1
        rcases h8 with h8 | ⟨hp,c,h8⟩
        · exact .inl h8
        · rcases hv with ⟨hv,_⟩ | ⟨_,b2,wL,UZ,q1,q2,q3,q4,_⟩
          · rw [hv] at hp; cases hp
          · rw [q4] at h8; cases h8; exact .inr ⟨q1,q2⟩)
    (fun kV=>by
      refine ⟨⟨hfl,aqq⟩,?_⟩
      rcases mJ with ⟨h1,_,_,h4,h5⟩ | ⟨b',cap,cur,h1,h2,h3,h4,h5,h6,h7,h8,h9⟩
      · exact .inl ⟨by simp [h1],h4⟩
      · have hln:(xs ++ news).length=(r.n + y.n) * e.cells:=by rw [List.length_append,Ad,hnl,Nat.add_mul]
        refine .inr ⟨b',cur,by simp [h1],kV b' h1,h5,by rw [h6]; exact Nat.mul_le_mul_right _ h3,fun j hj=>?_,hSb b' h1⟩
        have hj:j < r.n + y.n:=hj
        refine ⟨chunk e.cells j (xs ++ news),?_,?_,fun q v hq=>?_⟩
        · refine R.mono (S:=S) (w:=w) ?_ ex
          simp only [cK]
          by_cases hin:j < r.n
          · have hb:Nat.blt j r.n=true:=by rw [Nat.blt_eq]; exact hin
            simp only [hb,cond_true]
            rw [wK Ad hin]; exact hxr j hin
          · have hb:Nat.blt j r.n=false:=by rw [<- Bool.not_eq_true,Nat.blt_eq]; exact hin
            simp only [hb,cond_false]
            rw [uj Ad (by omega)]
            exact hnr _ (by omega)
        · have:j * e.cells + e.cells<=(r.n + y.n) * e.cells:=by rw [<- Nat.succ_mul]; exact Nat.mul_le_mul_right _ hj
          simp [chunk] at hln ⊢; omega
        · obtain ⟨q1,q2⟩:=Vn hq
          rw [<- h7,List.getElem?_take] at q1
          split at q1
          · rwa [Array.getElem?_toList] at q1
          · cases q1)
  unfold Oper.wp
  rw [hex]
  have q:=hsr.put hd (sl:=.v (.row id cur')) (v:=v') ⟨by simp [ay],by
    rcases mJ with ⟨h1,hp,h2,h3,_⟩ | ⟨b',cap,cur,h1,h2,_⟩
    · rcases hv with ⟨_,⟨a0,hv⟩,_⟩ | ⟨hv,_⟩
      · exact ⟨_,_,_,h2.trans hv⟩
      · rw [hv] at hp; cases hp
    · exact ⟨_,_,_,h2⟩,fun cu T' e' s' hh=>by
    simp only [ay,Nat.beq_refl,cond_true] at hh
    cases hh
    refine ⟨Nat.le_refl _,fun _=>?_⟩
    rcases mJ with ⟨h1,hp,h2,h3,_⟩ | ⟨b',cap,cur,h1,h2,h3,h4,h5,h6,_⟩
    · rcases hv with ⟨_,⟨a0,hv⟩,_⟩ | ⟨hv,_⟩
      · exact .inl ⟨h3,a0,by rw [h2,hv]⟩
      · rw [hv] at hp; cases hp
    · exact .inr ⟨b',cap,by simp [h1],h2,h3,h4,(Array.getElem?_eq_some_iff.1 h5).1,fun arr T f ha=>by rw [h5] at ha; cases ha; exact h6⟩⟩
  exact ⟨rfl,_,S,F,q.of_eq rfl rfl rfl rfl⟩
end Go.Dm
namespace Go.Dm
open Go.RowKit
variable {P:Program} {N:Nat} {G:Gh} {S S':CS} {w w':World} {s:St} {a:Act} {ρ ρ':fV} {F F':Nat->Prop} {heap heap':Nat->aN} {Y:Value} {E:cO} {Γ:Ctx}
theorem Zg:∀ {m:Nat} {τ:Ty} {y:(wE m τ).den} {z:(EC m τ).den} {us zs:List Value},R P (wE m τ) S w y us->R P (EC m τ) S w z zs->R P τ S w (Sk m τ y z) (us ++ zs)
 | 0,τ,y,z,us,zs,h,h'=>by
  rw [show us=[] from h]; exact h'
 | m + 1,.cons hd t,y,z,us,zs,h,h'=>by
  obtain ⟨u,ws,rfl,h1,h2⟩:=h
  exact ⟨u,ws ++ zs,rfl,h1,Zg (m:=m) (τ:=t) h2 h'⟩
 | _ + 1,.int _,y,z,us,zs,h,h'=>by rw [show us=[] from h]; exact h'
 | _ + 1,.bool,y,z,us,zs,h,h'=>by rw [show us=[] from h]; exact h'
 | _ + 1,.sl _,y,z,us,zs,h,h'=>by rw [show us=[] from h]; exact h'
 | _ + 1,.ptr _,y,z,us,zs,h,h'=>by rw [show us=[] from h]; exact h'
 | _ + 1,.agg _,y,z,us,zs,h,h'=>by rw [show us=[] from h]; exact h'
 | _ + 1,.nil,y,z,us,zs,h,h'=>by rw [show us=[] from h]; exact h'
 | _ + 1,.fn _ _,y,z,us,zs,h,h'=>by rw [show us=[] from h]; exact h'
 | _ + 1,.seq _,y,z,us,zs,h,h'=>by rw [show us=[] from h]; exact h'
 | _ + 1,.map _ _,y,z,us,zs,h,h'=>by rw [show us=[] from h]; exact h'
 | _ + 1,.xV,y,z,us,zs,h,h'=>by rw [show us=[] from h]; exact h'
def SA (P:Program) (f:FuncId) (c:ee) (us:List Value) (S:CS) (w:World):Prop:=
 ∀ S' w',Ext0 S w S' w'->∀ (x:c.args.den) vs,c.pre x=true->R P c.args S' w' x vs ->
  Calls P f (us ++ vs).toArray w' (fun e w''=>∃ MJ rs,e = .returned (pack rs)/\R P c.res MJ w'' (c.fn x) rs/\Ext S' w' MJ w''/\Below w'.heap.size w' w'')
theorem yx {f:FuncId}:∀ {ss:List Slot} {vs us:List Value} {c c':ee},zV c ss=some c'->ss.length=vs.length ->
  (∀ (j:Nat) (d:Slot) (u:Value),ss[j]? = some d->vs[j]? = some u->RS P Y S w heap ρ d u)->SA P f c us S w->SA P f c' (us ++ vs) S w
 | [],[],us,c,c',h,_,_,hc=>by
  simp only [zV,Option.some.injEq] at h
  subst h
  rw [List.append_nil]; exact hc
 | [],_ :: _,_,_,_,_,hl,_,_=>by simp at hl
 | _ :: _,[],_,_,_,_,hl,_,_=>by simp at hl
 | d :: ss,v :: vs,us,c,c',h,hl,hr,hc=>by
  obtain ⟨τ,res,pre,fn⟩:=c
  cases τ <;> try (simp only [zV] at h; cases h; done)
  rename_i hd t
  simp only [zV] at h
  cases hx:fK hd d with
  | none=>rw [hx] at h; cases h
  | some x =>
   rw [hx] at h
   have h1:=qp (hr 0 d v rfl rfl) hx
   have:=yx (us:=us ++ [v]) (vs:=vs) h (by simpa using hl) (fun j d u q1 q2=>hr (j + 1) d u (by simpa using q1) (by simpa using q2)) (fun S' w' ex y ws hp hy=>by
    have:=hc S' w' ex (x,y) (v :: ws) hp ⟨v,ws,rfl,h1.mono ex,hy⟩
    rw [List.append_assoc]; exact this)
   rw [List.append_assoc] at this
   exact this
theorem rM:∀ {sl:List Slot} {us:List Value} {ids:List Nat},uZ sl=some ids->sl.length=us.length->(∀ (j:Nat) (d:Slot) (u:Value),sl[j]? = some d->us[j]? = some u->RS P Y S w heap ρ d u)->dZ heap ρ ids us
 | [],[],ids,h,_,_=>by cases h; trivial
 | [],_ :: _,_,_,hl,_=>by simp at hl
 | _ :: _,[],_,_,hl,_=>by simp at hl
 | d :: r,u :: us,ids,h,hl,hr=>by
  unfold uZ at h
  split at h
  ·rename_i hh; cases hh
  ·rename_i id r' hh
   cases hh
   cases hb:uZ r with
   | none=>rw [hb] at h; cases h
   | some is =>
    rw [hb] at h
    cases h
    exact ⟨hr 0 _ _ rfl rfl,rM hb (by simpa using hl) fun j d u h1 h2=>hr (j + 1) d u (by simpa using h1) (by simpa using h2)⟩
  ·cases h
theorem Fc (hΓ:Sound P Γ) {o:Oper} {Q:Exit->Act->World->Prop} (h:SR P N G s a w ρ S F) (hd:o.dst.all (Nat.blt · N)=true) {f:FuncId} {first caps:Array Operand}
  (hop:o.op = .makeFunc (.func f) first caps) {e:rj} (he:(zX Γ f (first.toList.map (val Γ s.env)) (caps.toList.map (val Γ s.env))).run id=some e) :
  o.wp P a w (vR P N G o s e) Q:=by
 have hex:(execOp a.eval o).run P w = .ok (.value (.func (.func f) (first.map a.eval) (caps.map a.eval))) w:=by simp [execOp,hop,Instr.makeFunc]
 unfold zX at he
 split at he
 ·rename_i c hf
  obtain ⟨jK,Qv⟩:=hΓ f _ hf
  unfold af1 at he
  split at he
  case h_2=>cases he
  rename_i c' h1
  split at he
  case h_2=>cases he
  rename_i z hz
  cases he
  have WQ:=yx (P:=P) (Y:=G.Y) (S:=S) (w:=w) (heap:=s.heap) (ρ:=ρ) (f:=f) (us:=[]) (vs:=first.toList.map a.eval) h1 (by simp) (gj hΓ h first.toList) (fun S' w' ex x vs hp hx=>Qv S' w' ex.bd x vs hp hx)
  have hzr:=iT (us:=caps.toList.map a.eval) (by simp) (gj hΓ h caps.toList) hz
  refine aP h hd hex ⟨rfl,f,first.map a.eval,caps.map a.eval,rfl,jK,fun S' w' ex y us hp hy=>?_⟩
  have:=WQ S' w' ex _ _ hp (Zg hy (hzr.mono ex))
  have e1:first.map a.eval ++ us.toArray ++ caps.map a.eval=([] ++ first.toList.map a.eval ++ (us ++ caps.toList.map a.eval)).toArray:=by apply Array.ext'; simp
  rw [e1]
  exact this
 ·rename_i c hf
  obtain ⟨jK,Qv⟩:=hΓ f _ hf
  split at he
  case h_2=>cases he
  rename_i x y hx hy
  simp only [nR,Br.run,fG,bad] at he
  cases hb:c.pre x y with
  | false=>rw [hb] at he; cases he
  | true =>
   rw [hb] at he
   cases he
   have hxr:=iT (us:=first.toList.map a.eval) (by simp) (gj hΓ h first.toList) hx
   have hyr:=iT (us:=caps.toList.map a.eval) (by simp) (gj hΓ h caps.toList) hy
   refine aP h hd hex ⟨rfl,f,first.map a.eval,caps.map a.eval,rfl,jK,fun S' w' ex=>?_⟩
   have:=Qv S' w' ex.bd x y _ _ hb (hxr.mono ex) (hyr.mono ex)
   rw [show first.map a.eval=(first.toList.map a.eval).toArray by apply Array.ext'; simp,show caps.map a.eval=(caps.toList.map a.eval).toArray by apply Array.ext'; simp]
   exact this
 ·rename_i app hf
  obtain ⟨jK,_⟩:=hΓ f _ hf
  have hca:caps.map a.eval=(caps.toList.map a.eval).toArray:=by apply Array.ext'; simp
  split at he
  ·rename_i τ x cs Qy hcs
   split at he
   case h_2=>cases he
   rename_i ids ajm
   cases he
   have ajn:first = #[]:=by
    have:first.toList=[]:=by simpa using Qy
    simpa using this
   obtain ⟨c0,cl,hc0,hc1,hc2⟩:=List.map_eq_cons_iff.1 hcs
   have hall:=gj hΓ h caps.toList
   rw [hc0] at hall
   have h0:RS P G.Y S w s.heap ρ (.v (.pc (.ptr τ) x)) (a.eval c0):=hall 0 _ _ (by rw [List.map_cons,hc1]; rfl) rfl
   have h0:R P (.ptr τ) S w x [a.eval c0]:=h0.2
   refine aP h hd hex ⟨jK,a.eval c0,cl.map a.eval,?_,h0,?_⟩
   ·rw [ajn,hca,hc0,Array.map_empty]; rfl
   ·refine rM (P:=P) (Y:=G.Y) (S:=S) (w:=w) (sl:=cs) ajm (by rw [<- hc2]; simp) fun j d u h1 h2=>?_
    rw [<- hc2] at h1
    exact hall (j + 1) d u (by simpa using h1) (by simpa using h2)
  ·rename_i Qy _
   split at he
   case h_2=>cases he
   rename_i ids ajm
   cases he
   have ajn:first = #[]:=by
    have:first.toList=[]:=by simpa using Qy
    simpa using this
   refine aP h hd hex ⟨jK,caps.toList.map a.eval,?_,rM ajm (by simp) (gj hΓ h caps.toList)⟩
   rw [ajn,hca,Array.map_empty]
  ·cases he
 ·cases he
 ·cases he
end Go.Dm
namespace Go.Dm
open Go.RowKit
variable {P:Program} {N:Nat} {G:Gh} {S S':CS} {w w':World} {s:St} {a:Act} {ρ ρ':fV} {F F':Nat->Prop} {heap heap':Nat->aN} {Y:Value} {E:cO} {Γ:Ctx}
theorem KD (hG:G.Ok P) {o:Oper} {Q:Exit->Act->World->Prop} (h:SR P N G s a w ρ S F) (hd:o.dst.all (Nat.blt · N)=true) {T:TypeId} {sx x:Operand}
  (hop:o.op = .call { callee:=.builtin .append,args:=#[sx,x],argTypes:=#[T,T] }) {cv:Nat} (hlo:G.lo<=cv)
  {ss xs:Slot} (hs:RS P G.Y S w s.heap ρ ss (a.eval sx)) (hx:RS P G.Y S w s.heap ρ xs (a.eval x)) {rw:Bool} {e:rj} (he:(uY P rw G.lo cv s.heap T ss xs).run id=some e) :
  o.wp P a w (vR P N G o s e) Q:=by
 unfold uY at he
 split at he
 case h_2=>cases he
 rename_i El τ y hu hrow
 split at he
 case h_2=>cases he
 rename_i i hi
 split at he
 ·-- no cells yet
  rename_i hc
  simp only [Bool.and_eq_true,Nat.blt_eq] at hc
  obtain ⟨⟨⟨⟨c1,c2⟩,c3⟩,c4⟩,c5⟩:=hc
  have c1:=Nat.eq_of_beq_eq_true c1
  obtain ⟨z,hz,hzs⟩:∃ z,i.zero=some z/\z.cells.size=i.size:=by
   have c4:=of_decide_eq_true c4
   cases hq:i.zero with
   | none=>rw [hq] at c4; cases c4
   | some z=>rw [hq] at c4; exact ⟨z,rfl,by simpa using c4⟩
  split at he
  case h_2=>cases he
  rename_i hn
  simp only [Br.run,fG,bad] at he
  cases hb:decide (y.n * i.bytes<=140737488355328) with
  | false=>simp only [hb,cond_false] at he; cases he
  | true =>
   simp only [hb,cond_true,id] at he
   have hb:=of_decide_eq_true hb
   obtain ⟨a0,ajo⟩:∃ a0,a.eval sx = .slice a0 0 0:=hs
   have hy:=rE hx hrow
   have aqr:cK (⟨0,y.g⟩:Sl τ.den) y=y:=by
    unfold cK
    cases y
    simp only [Nat.zero_add,Sl.mk.injEq,true_and]
    funext i
    have:Nat.blt i 0=false:=by rw [<- Bool.not_eq_true,Nat.blt_eq]; omega
    simp [this]
   cases rw with
   | true =>
    cases he
    have key:=KC (P:=P) (Q:=Q) hG h hd hop hu hi hz c1 c2 c3 hzs c5 (r:=⟨0,y.g⟩) (y:=y) hy (by simpa using hb)
     (id:=cv) (cur':=0) hlo (.inl hn) (xs:=[]) (by simp) (fun j hj=>absurd hj (Nat.not_lt_zero _)) (p:=true) (.inl ⟨rfl,⟨a0,ajo⟩,rfl⟩) (rh:=[cv])
    rw [aqr] at key
    exact key
   | false =>
   cases he
   have key:=Ae (P:=P) (Q:=Q) hG h hd hop hu hi hz c1 c2 c3 hzs c5 (r:=⟨0,y.g⟩) (y:=y) (by rw [ajo]; exact .inl ⟨rfl,_,_,rfl⟩) hy (by simpa using hb)
    (id:=cv) (cur':=0) (.inl ⟨hn,hlo⟩) (p:=true) (.inl ⟨rfl,⟨a0,ajo⟩,rfl⟩) (rh:=[cv])
   rw [aqr,Nat.zero_add] at key
   exact key
 ·rename_i id bB e' r hc
  simp only [Bool.and_eq_true,Nat.blt_eq] at hc
  obtain ⟨⟨⟨⟨c1,c2⟩,c3⟩,c4⟩,c5⟩:=hc
  have c1:=Nat.eq_of_beq_eq_true c1
  obtain ⟨z,hz,hzs⟩:∃ z,i.zero=some z/\z.cells.size=i.size:=by
   have c4:=of_decide_eq_true c4
   cases hq:i.zero with
   | none=>rw [hq] at c4; cases c4
   | some z=>rw [hq] at c4; exact ⟨z,rfl,by simpa using c4⟩
  split at he
  case h_2=>cases he
  rename_i Qg E' k n r' ho hcast
  obtain ⟨heq,hr'⟩:=bK hcast
  have he':e'=τ:=by injection heq
  subst he'
  obtain rfl:r'=r:=hr'
  split at he
  case h_2=>cases he
  rename_i Cr
  simp only [Bool.and_eq_true] at Cr
  obtain ⟨⟨d1,d2⟩,d3⟩:=Cr
  have d1:=Nat.eq_of_beq_eq_true d1
  have d2:=Nat.eq_of_beq_eq_true d2
  have d3:=Nat.eq_of_beq_eq_true d3
  subst d1 d2 d3
  simp only [Br.run,fG,bad] at he
  cases hb:decide ((r'.n + y.n) * i.bytes<=140737488355328) with
  | false=>simp only [hb,cond_false] at he; cases he
  | true =>
   simp only [hb,cond_true,_root_.id] at he
   cases he
   have hb:=of_decide_eq_true hb
   have hy:=rE hx hrow
   obtain ⟨hr,hf,cur,T',k',n',q1,q2,q3⟩:=hs
   rw [ho] at q1
   cases q1
   obtain ⟨p0,p1,p3⟩:=q3 rfl
   subst p0
   have dn:=h.obj id
   rw [ho] at dn
   rcases p3 with ⟨p3,p4,a0,p5⟩ | ⟨b,cap,cur,p3,p4,p5,p6,p7,p8⟩
   ·exact Ae (P:=P) (Q:=Q) hG h hd hop hu hi hz c1 c2 c3 hzs c5 (r:=r') (y:=y) hr hy hb (id:=id) (cur':=bB + 1) (.inr ⟨bB,_,ho,by omega⟩) (p:=true) (.inl ⟨rfl,⟨a0,p5⟩,p4⟩)
   ·rcases dn with ⟨hn,_⟩ | ⟨b',hb',Sx,hb3,_,hb4⟩
    ·rw [p3] at hn; cases hn
    ·rw [p3] at hb'; cases hb'
     exact Ae (P:=P) (Q:=Q) hG h hd hop hu hi hz c1 c2 c3 hzs c5 (r:=r') (y:=y) hr hy hb (id:=id) (cur':=bB + 1) (.inr ⟨bB,_,ho,by omega⟩) (p:=false)
      (.inr ⟨rfl,b,cap,cur,by rw [ho]; trivial,p3,p4,p5,p6,p7,p8,hb4⟩)
 ·-- a row that may be written
  rename_i id bB hc
  simp only [Bool.and_eq_true,Nat.blt_eq] at hc
  obtain ⟨⟨⟨⟨c1,c2⟩,c3⟩,c4⟩,c5⟩:=hc
  have c1:=Nat.eq_of_beq_eq_true c1
  obtain ⟨z,hz,hzs⟩:∃ z,i.zero=some z/\z.cells.size=i.size:=by
   have c4:=of_decide_eq_true c4
   cases hq:i.zero with
   | none=>rw [hq] at c4; cases c4
   | some z=>rw [hq] at c4; exact ⟨z,rfl,by simpa using c4⟩
  split at he
  case h_2=>cases he
  rename_i Qg E' e' r ho
  split at he
  case h_2=>cases he
  rename_i r' hcast
  obtain ⟨heq,hr'⟩:=bK hcast
  have he':e'=τ:=by injection heq
  subst he'
  obtain rfl:r'=r:=hr'
  split at he
  case h_2=>cases he
  rename_i Cr
  simp only [Bool.and_eq_true] at Cr
  obtain ⟨⟨d0,d1⟩,d2⟩:=Cr
  have d1:=Nat.eq_of_beq_eq_true d1
  have d2:=Nat.eq_of_beq_eq_true d2
  subst d1 d2
  simp only [Br.run,fG,bad] at he
  cases hb:decide ((r'.n + y.n) * i.bytes<=140737488355328) with
  | false=>simp only [hb,cond_false] at he; cases he
  | true =>
   simp only [hb,cond_true,_root_.id] at he
   cases he
   have hb:=of_decide_eq_true hb
   have hy:=rE hx hrow
   obtain ⟨_,_,h3⟩:=hs
   have dn:=h.obj id
   rw [ho] at dn
   obtain ⟨⟨hfl,hpos⟩,dn⟩:=dn
   rcases (h3 _ _ _ _ ho).2 rfl with ⟨p2,a0,p3⟩ | ⟨b,cap,p1,p2,p3,p4,_,p5⟩
   ·exact KC (P:=P) (Q:=Q) hG h hd hop hu hi hz c1 c2 c3 hzs c5 (r:=r') (y:=y) hy hb (id:=id) (cur':=bB + 1) (Nat.le_of_ble_eq_true d0) (.inr ⟨bB,_,ho,by omega⟩)
     (xs:=[]) (by rw [p2]; simp) (fun j hj=>by omega) (p:=true) (.inl ⟨rfl,⟨a0,p3⟩,p2⟩)
   ·rcases dn with ⟨q1,_⟩ | ⟨b',arr,q1,q2,q3,q4,q5,q6⟩
    ·rw [p1] at q1; cases q1
    rw [p1] at q1; cases q1
    have hlen:(arr.toList.take (r'.n * e'.cells)).length=r'.n * e'.cells:=by simp; omega
    refine KC (P:=P) (Q:=Q) hG h hd hop hu hi hz c1 c2 c3 hzs c5 (r:=r') (y:=y) hy hb (id:=id) (cur':=bB + 1) (Nat.le_of_ble_eq_true d0) (.inr ⟨bB,_,ho,by omega⟩)
     (xs:=arr.toList.take (r'.n * e'.cells)) hlen (fun j hj=>?_) (p:=false) (.inr ⟨rfl,b,cap,arr,by rw [ho]; trivial,p1,q6,p2,p3,p4,q3,p5 _ _ _ q3,rfl⟩)
    obtain ⟨us,u1,u2,u3⟩:=q5 j hj
    have aBg:j * e'.cells + e'.cells<=r'.n * e'.cells:=by rw [<- Nat.succ_mul]; exact Nat.mul_le_mul_right _ hj
    have:chunk e'.cells j (arr.toList.take (r'.n * e'.cells))=us:=by
     apply List.ext_getElem?
     intro q
     unfold chunk
     rw [List.getElem?_take]
     split
     ·rename_i hq
      rw [List.getElem?_drop,List.getElem?_take,if_pos (by omega),Array.getElem?_toList]
      rw [u3 q us[q] (List.getElem?_eq_getElem (by omega)),List.getElem?_eq_getElem (by omega)]
     ·rw [List.getElem?_eq_none (by omega)]
    rw [this]; exact u1
 ·cases he
theorem yy {o:Oper} {Q:Exit->Act->World->Prop} (h:SR P N G s a w ρ S F) (hd:o.dst.all (Nat.blt · N)=true) {x y:Operand} {least:Bool}
  {sx sy:Slot} (hx:RS P G.Y S w s.heap ρ sx (a.eval x)) (hy:RS P G.Y S w s.heap ρ sy (a.eval y))
  (hrun:∀ k k' (m n:Int),a.eval x = .int k m->a.eval y = .int k' n->(execOp a.eval o).run P w = .ok (.value (.int k (match least with | true=>if n < m then n else m | false=>if n > m then n else m))) w)
  {e:rj} (he:(Dk least sx sy).run id=some e) :
  o.wp P a w (vR P N G o s e) Q:=by
 unfold Dk at he
 split at he
 ·rename_i k m k' n
  cases he
  exact aP h hd (hrun _ _ _ _ (jP hx) (jP hy)) (iq _ _)
 ·cases he
theorem Jn (hΓ:Sound P Γ) (hE:fI P E.eq) (hKS:ez P E.key) (hG:G.Ok P) {o:Oper} {Q:Exit->Act->World->Prop} (h:SR P N G s a w ρ S F) (hd:o.dst.all (Nat.blt · N)=true)
  {base:Nat} {e:rj} (he:(xT P E Γ G.lo base o s.env s.heap).run id=some e) :
  o.wp P a w (vR P N G o s e) Q:=by
 have hv:=Ab hΓ h
 unfold xT at he
 dsimp only at he
 split at he
 ·rename_i x hop
  cases he
  exact aP h hd (by simp only [execOp,hop]; rfl) (hv x)
 ·rename_i x hop
  cases he
  exact aP h hd (by simp only [execOp,hop]; rfl) (hv x)
 ·rename_i c x y hop
  split at he
  case h_2=>cases he
  rename_i t hc
  have Qr:=hv c
  rw [hc] at Qr
  have Qr:=rG Qr
  cases t with
  | true =>
   simp only [Br.run,dQ,fG,cond_true,id] at he
   cases he
   exact aP h hd (v:=a.eval x) (by simp [execOp,hop,Qr,asBool]) (hv x)
  | false =>
   simp only [Br.run,dQ,fG,cond_false,id] at he
   cases he
   exact aP h hd (v:=a.eval y) (by simp [execOp,hop,Qr,asBool]) (hv y)
 ·rename_i t x hop
  split at he
  case h_2=>cases he
  rename_i cs hlo hcs hn
  cases he
  exact Ss hG h hd hn (Nat.le_of_ble_eq_true hlo) (arr:=(a.eval x).cells) (T:=t) (iU G.mI (hv x) hcs) (by simp [execOp,hop,Instr.box,newVar,newRow])
 ·rename_i t hop
  split at he
  case h_2=>cases he
  rename_i cs hlo hcs hn
  cases he
  obtain ⟨i,z,hi,hz,hr⟩:=uh hcs
  exact Ss hG h hd hn (Nat.le_of_ble_eq_true hlo) (arr:=z.cells) (T:=t) (hr G.mI) (by simp [execOp,hop,Instr.alloc,zeroValue,typeInfo,hi,hz,newVar,newRow])
 ·rename_i t ps hop
  split at he
  case h_2=>cases he
  rename_i cs hcs
  cases he
  obtain ⟨arr,hrun,hr⟩:=Ve (P:=P) (w:=w) (S:=S) (heap:=s.heap) (ρ:=ρ) G.mI (vs:=ps.map fun (i,x)=>(i,a.eval x)) (by simp) (MT hΓ h ps) hcs
  exact aP h hd (v:=.agg arr) (by simp only [execOp,hop,Sem.run_bind,hrun,Result.andThen_ok,Sem.run_pure]) ⟨arr.toList,by simp,hr⟩
 ·rename_i t n ps hop
  split at he
  case h_2=>cases he
  rename_i hlo hno
  exact ES hΓ hG h hd hop (Nat.le_of_ble_eq_true hlo) hno he
 ·rename_i t x hop
  have dJ:=hv x
  unfold YC at he
  have bx:∀ (id off:Nat),eR s.heap ρ id off (a.eval x)->(match s.heap id with | .box ds=>viewAt P t ds off [id] | _=>bad).run _root_.id=some e->o.wp P a w (vR P N G o s e) Q:=by
   intro id off dJ he
   split at he
   case h_2=>cases he
   rename_i ds ho
   obtain ⟨b,arr,T,hb,lJ,hh,hr⟩:=Dr h ho dJ
   exact ug h hd hop lJ hr (b0:=0) (by simp) (fun j v hj=>by rw [Nat.zero_add]; exact yl hh j v hj) he
  split at he
  ·rename_i id off hx
   rw [hx] at dJ
   exact bx id off dJ he
  ·rename_i id off hx
   rw [hx] at dJ
   exact bx id off dJ he
  ·rename_i id bB i off hx
   rw [hx] at dJ
   split at he
   case h_2=>cases he
   rename_i cur T el sl ho
   split at he
   case h_2=>cases he
   rename_i vh
   cases Nat.eq_of_beq_eq_true vh
   obtain ⟨b,us,lJ,hr,hm⟩:=YZ h dJ ho
   exact ug h hd hop lJ hr rfl hm he
  ·rename_i id i hx
   rw [hx] at dJ
   split at he
   case h_2=>cases he
   rename_i cur T el d ho
   obtain ⟨b,us,lJ,hr,hm⟩:=Za h dJ ho
   exact ug h hd hop lJ hr rfl hm he
  ·rename_i id bB i j off hx
   rw [hx] at dJ
   split at he
   case h_2=>cases he
   rename_i cur T el d ho
   split at he
   case h_2=>cases he
   rename_i vh
   cases Nat.eq_of_beq_eq_true vh
   obtain ⟨b,us,lJ,hr,hm⟩:=Vi h dJ ho
   exact ug h hd hop lJ hr rfl hm he
  ·rename_i el x' hx
   rw [hx] at dJ
   split at he
   case h_2=>cases he
   rename_i hf
   obtain ⟨b,off,us,lJ,u1,u2,u3⟩:=rI dJ
   have lJ:a.eval x = .pointer (some ⟨b,off,none⟩):=by simpa using lJ
   exact ug h hd hop lJ (ij hf u1) (b0:=off) (by simp) (fun j v hj=>(u3 j v hj).2) he
  ·cases he
 ·rename_i t x y hop
  split at he
  case h_2=>cases he
  rename_i cs hcs
  have dJ:=hv x
  unfold Qh at he
  split at he
  ·rename_i id off hx
   rw [hx] at dJ
   split at he
   case h_2=>cases he
   rename_i ds n ho hn
   simp only [Br.run,fG,bad] at he
   cases hb:decide (cs.length=n/\off + cs.length<=ds.length) with
   | false=>simp only [hb,cond_false] at he; cases he
   | true =>
    simp only [hb,cond_true,_root_.id] at he
    cases he
    obtain ⟨h1,h2⟩:=of_decide_eq_true hb
    exact Bi hG h hd hop dJ (hv y) hcs ho hn h1 h2 (fun hr hc=>hr.splice hc off)
  ·rename_i id off hx
   rw [hx] at dJ
   split at he
   case h_2=>cases he
   rename_i ds n ho hn
   simp only [Br.run,fG,bad] at he
   cases hb:decide (cs.length=n/\off + cs.length<=ds.length) with
   | false=>simp only [hb,cond_false] at he; cases he
   | true =>
    simp only [hb,cond_true,_root_.id] at he
    cases he
    obtain ⟨h1,h2⟩:=of_decide_eq_true hb
    exact Bi hG h hd hop dJ (hv y) hcs ho hn h1 h2 (fun hr hc=>hr.xZ hc h2)
  ·rename_i id bB i off hx
   rw [hx] at dJ
   split at he
   case h_2=>cases he
   rename_i cur T el sl n ho hn
   split at he
   case h_2=>cases he
   rename_i x' hx'
   simp only [Br.run,fG,bad] at he
   cases hb:(Nat.beq bB cur && decide (cs.length=n/\off + cs.length<=el.cells)) with
   | false=>simp only [hb,cond_false] at he; cases he
   | true =>
    simp only [hb,cond_true,_root_.id] at he
    cases he
    simp only [Bool.and_eq_true] at hb
    cases Nat.eq_of_beq_eq_true hb.1
    obtain ⟨h1,h2⟩:=of_decide_eq_true hb.2
    exact EU hG h hd hop dJ (hv y) hcs ho hn hx' h1 h2
  ·rename_i id bB i j off hx
   rw [hx] at dJ
   split at he
   case h_2=>cases he
   rename_i cur T el sl n ho hn
   split at he
   case h_2=>cases he
   rename_i x' hx'
   simp only [Br.run,fG,bad] at he
   cases hb:(Nat.beq bB cur && decide (cs.length=n/\off + cs.length<=el.cells)) with
   | false=>simp only [hb,cond_false] at he; cases he
   | true =>
    simp only [hb,cond_true,_root_.id] at he
    cases he
    simp only [Bool.and_eq_true] at hb
    cases Nat.eq_of_beq_eq_true hb.1
    obtain ⟨h1,h2⟩:=of_decide_eq_true hb.2
    exact Cv hG h hd hop dJ (hv y) hcs ho hn hx' h1 h2
  ·rename_i id i hx
   rw [hx] at dJ
   split at he
   case h_2=>cases he
   rename_i zw bB cur T el d n ho hn
   split at he
   case h_2=>cases he
   rename_i UZ T2 e2 s2 Jl
   split at he
   case h_2=>cases he
   rename_i s3 hcast Cr
   simp only [Bool.and_eq_true] at Cr
   obtain ⟨⟨d1,d2⟩,d3⟩:=Cr
   cases Nat.eq_of_beq_eq_true d1
   cases Nat.eq_of_beq_eq_true d2
   cases Nat.eq_of_beq_eq_true d3
   obtain ⟨heq,hr'⟩:=bK hcast
   have he':e2=el:=by injection heq
   subst he'
   obtain rfl:s3=s2:=hr'
   cases he
   have hyv:=hv y
   have hsy:∃ sl,val Γ s.env y=sl/\eA sl=some [.row zw bB]:=⟨_,rfl,hcs⟩
   obtain ⟨sl,e1,e2'⟩:=hsy
   rw [e1] at hyv
   cases sl with
   | v dd =>
    cases e2'
    exact ur hG h hd hop dJ hyv (ym (RC.mS (P:=P) (S:=S) G.mI (d:=.row zw bB) hyv)) ho Jl hn
   | agg ds =>
    cases e2'
    obtain ⟨us,hev,hrl⟩:=hyv
    cases us with
    | nil=>have:=hrl.1; cases this
    | cons u us =>
     obtain ⟨r1,r2⟩:=hrl.of_cons
     have:=r2.1
     cases us with
     | cons _ _=>cases this
     | nil=>exact ur hG h hd hop dJ r1 (by rw [hev]; rfl) ho Jl hn
   | _=>cases e2'
  ·cases he
 ·rename_i t x f hop
  split at he
  case h_2=>cases he
  rename_i fs hu
  split at he
  case h_2=>cases he
  rename_i fd hf
  split at he
  case h_2=>cases he
  rename_i n hn
  exact Cs h hd hop hu hf hn (hv x) he
 ·rename_i t x f hop
  split at he
  case h_2=>cases he
  rename_i fs hu
  split at he
  case h_2=>cases he
  rename_i fd ds hf hx
  have dJ:=hv x
  rw [hx] at dJ
  exact Nc h hd hop hu hf dJ he
 ·rename_i t x i hop
  exact Cq h hd hop (hv x) (hv i) he
 ·rename_i t x i hop
  split at he
  case h_2=>cases he
  rename_i len el ds k n hu hx hi
  have dJ:=hv x
  rw [hx] at dJ
  have hiv:=hv i
  rw [hi] at hiv
  split at he
  case h_2=>cases he
  rename_i c hsz
  simp only [Br.run,bad] at he
  cases hb:decide ((show Int from n) < len/\0<=(show Int from n)) with
  | false=>simp only [hb,cond_false] at he; cases he
  | true =>
   simp only [hb,cond_true] at he
   obtain ⟨b1,b2⟩:=of_decide_eq_true hb
   exact Nb h hd hop hu dJ (jP hiv) hsz ⟨b2,b1⟩ he
 ·rename_i t n hop
  split at he
  ·rename_i τ x ht
   have htv:=hv t
   rw [ht] at htv
   obtain ⟨us,wM,hr⟩:=htv
   cases hu:us[n]? with
   | some u =>
    split at he
    ·cases he
     exact aP h hd (v:=u) (by simp [execOp,hop,wM,Instr.extract,hu]) (YP hr hu)
    ·cases he
   | none =>
    have hnt:=Su hr hu
    rw [hnt] at he
    cases he
  ·rename_i b ht
   have htv:=hv t
   rw [ht] at htv
   obtain ⟨u,wM⟩:=htv
   split at he
   ·cases he
    exact aP h hd (v:=u) (by simp [execOp,hop,wM,Instr.extract]) trivial
   ·cases he
    exact aP h hd (v:=.bool b) (by simp [execOp,hop,wM,Instr.extract]) (eM _)
   ·cases he
  ·cases he
 ·rename_i op t x y t' hop
  exact MX hE h hd hop (hv x) (hv y) he
 ·rename_i op t x hop
  have dJ:=hv x
  unfold af0 at he
  split at he
  ·rename_i k n hx
   rw [hx] at dJ
   cases he
   exact aP h hd (v:=.int k (k.wrap (0 - n))) (by simp [execOp,hop,jP dJ,Op.unary,Op.intArith]) (iq _ _)
  ·rename_i b hx
   rw [hx] at dJ
   cases he
   exact aP h hd (v:=.bool (!b)) (by simp [execOp,hop,rG dJ,Op.unary]) (eM _)
  ·cases he
 ·rename_i src dst x hop
  split at he
  case h_2=>cases he
  rename_i d k k' n hs hu hx
  have dJ:=hv x
  rw [hx] at dJ
  cases he
  refine aP h hd (v:=.int k (k.wrap n)) ?_ (iq _ _)
  have hc:(convert src dst (.int k' n)).run P w = .ok (.int k (k.wrap n)) w:=by
   unfold convert
   simp only [Sem.run_bind,run_underlying hs,run_underlying hu,Result.andThen_ok]
   cases d <;> simp [Conv.intToInt]
  simp only [execOp,hop,jP dJ,Sem.run_bind,hc,Result.andThen_ok,Sem.run_pure]
 ·rename_i t l c hop
  split at he
  case h_2=>cases he
  rename_i hlo
  exact Cu hG h hd hop (Nat.le_of_ble_eq_true hlo) (hv l) he
 ·rename_i t r hop
  split at he
  case h_2=>cases he
  rename_i hlo
  exact Iy hG h hd hop (Nat.le_of_ble_eq_true hlo) he
 ·rename_i t x l hi m hop
  split at he
  case h_2=>cases he
  split at he
  ·rename_i id bB i n hx
   have dJ:=hv x
   rw [hx] at dJ
   exact EZ h hd hop dJ hv he
  ·exact Nh h hd hop (hv x) hv he
 ·rename_i t x i ok hop
  exact KB hKS h hd hop (hv x) (hv i) he
 ·rename_i t x i y hop
  exact Ct hKS hG h hd hop (hv x) (hv i) (hv y) he
 ·rename_i t x hop
  split at he
  ·cases he
  ·rename_i dsc hni hu
   split at he
   case h_2=>cases he
   rename_i τ hτ
   split at he
   case h_2=>cases he
   rename_i d hd'
   cases he
   refine aP h hd (v:=.iface t (a.eval x)) ?_ ⟨_,rfl,qp (hv x) hd'⟩
   simp only [execOp,hop,Instr.makeInterface,Sem.run_bind,run_underlying hu,Result.andThen_ok]
   cases dsc <;> first | rfl | (exact absurd rfl (hni _))
  ·cases he
 ·rename_i x hop
  have dJ:=hv x
  unfold Je at he
  split at he
  ·rename_i el d hx
   rw [hx] at dJ
   cases he
   obtain ⟨b,off,us,lJ,_⟩:=rI dJ
   have lJ:a.eval x = .pointer (some ⟨b,off,none⟩):=by simpa using lJ
   exact aP h hd (v:=.pointer (some ⟨b,off,none⟩)) (by simp [execOp,hop,lJ]) (lJ ▸ dJ)
  ·rename_i a' r d hx
   rw [hx] at dJ
   cases he
   obtain ⟨f,first,caps,lJ,_⟩:=rI dJ
   have lJ:a.eval x = .func (.func f) first caps:=by simpa using lJ
   exact aP h hd (v:=.func (.func f) first caps) (by simp [execOp,hop,lJ]) (lJ ▸ dJ)
  ·rename_i el d hx
   rw [hx] at dJ
   cases he
   obtain ⟨f,first,caps,lJ,_⟩:=rI dJ
   have lJ:a.eval x = .func (.func f) first caps:=by simpa using lJ
   exact aP h hd (v:=.func (.func f) first caps) (by simp [execOp,hop,lJ]) (lJ ▸ dJ)
  ·rename_i id off hx
   rw [hx] at dJ
   cases he
   obtain ⟨_,⟨ad,lJ⟩,_⟩:=dJ
   have dJ:=hv x
   rw [hx] at dJ
   exact aP h hd (v:=.pointer (some ad)) (by simp [execOp,hop,lJ]) (lJ ▸ dJ)
  ·rename_i id off hx
   rw [hx] at dJ
   cases he
   obtain ⟨_,⟨ad,lJ⟩,_⟩:=dJ
   have dJ:=hv x
   rw [hx] at dJ
   exact aP h hd (v:=.pointer (some ad)) (by simp [execOp,hop,lJ]) (lJ ▸ dJ)
  ·rename_i id i off hx
   rw [hx] at dJ
   cases he
   obtain ⟨_,⟨ad,lJ⟩,_⟩:=dJ
   have dJ:=hv x
   rw [hx] at dJ
   exact aP h hd (v:=.pointer (some ad)) (by simp [execOp,hop,lJ]) (lJ ▸ dJ)
  ·rename_i f ids hx
   rw [hx] at dJ
   cases he
   obtain ⟨_,us,lJ,_⟩:=dJ
   have dJ:=hv x
   rw [hx] at dJ
   exact aP h hd (v:=.func (.func f) #[] us.toArray) (by simp [execOp,hop,lJ]) (lJ ▸ dJ)
  ·rename_i f τ y ids hx
   rw [hx] at dJ
   cases he
   obtain ⟨_,u,us,lJ,_⟩:=dJ
   have dJ:=hv x
   rw [hx] at dJ
   exact aP h hd (v:=.func (.func f) #[] (u :: us).toArray) (by simp [execOp,hop,lJ]) (lJ ▸ dJ)
  ·cases he
 ·rename_i x xt as ok hop
  have dJ:=hv x
  unfold Be at he
  split at he
  ·cases he
  ·rename_i dsc z hni hu hz
   obtain ⟨ti,hti,hiz⟩:=Option.bind_eq_some_iff.1 hz
   split at he
   ·rename_i T τ d hx
    rw [hx] at dJ
    obtain ⟨u,lJ,hr⟩:=dJ
    split at he
    ·rename_i hT
     have hT:=Nat.eq_of_beq_eq_true hT
     subst hT
     cases he
     refine aP h hd (v:=.tuple #[u,.bool true]) ?_ ⟨[_,_],rfl,_,_,rfl,hr,_,_,rfl,rfl,rfl⟩
     simp only [execOp,hop,lJ,Instr.typeAssert,Sem.run_bind,run_underlying hu,Result.andThen_ok]
     cases dsc <;> first | (exact absurd rfl (hni _)) | simp
    ·rename_i hT
     have hT:¬ T=as:=fun e=>by rw [e,Nat.beq_refl] at hT; cases hT
     cases he
     refine aP h hd (v:=.tuple #[z,.bool false]) ?_ ⟨_,rfl⟩
     simp only [execOp,hop,lJ,Instr.typeAssert,Sem.run_bind,run_underlying hu,Result.andThen_ok]
     cases dsc <;> first | (exact absurd rfl (hni _)) | simp [hT,zeroValue,typeInfo,hti,hiz]
   ·rename_i hx
    rw [hx] at dJ
    have lJ:a.eval x = .nilIface:=dJ
    cases he
    refine aP h hd (v:=.tuple #[z,.bool false]) ?_ ⟨_,rfl⟩
    simp only [execOp,hop,lJ,Instr.typeAssert,Sem.run_bind,run_underlying hu,Result.andThen_ok]
    cases dsc <;> first | (exact absurd rfl (hni _)) | simp [zeroValue,typeInfo,hti,hiz]
   ·cases he
  ·cases he
 ·rename_i c hop
  obtain ⟨callee,args,argTypes⟩:=c
  simp only at he
  split at he
  ·-- len
   split at he
   case h_2=>cases he
   rename_i x ha
   split at he
   case h_2=>cases he
   rename_i t hT
   split at he
   case h_2=>cases he
   rename_i el hu
   obtain ⟨args⟩:=args
   obtain ⟨argTypes⟩:=argTypes
   simp only at ha hT
   subst ha hT
   have dJ:=hv x
   have run:∀ ad n c,a.eval x = .slice ad n c->(execOp a.eval o).run P w = .ok (.value (.int .i64 n)) w:=fun ad n c hx=>by
    simp only [execOp,hop,resolve,invoke,builtin,Sem.run_bind,Sem.run_pure,Result.andThen_ok,List.map_toArray,List.map_cons,List.map_nil,hx,acY hu]
   unfold aiV at he
   split at he
   ·rename_i hx
    rw [hx] at dJ
    cases he
    obtain ⟨a0,dJ⟩:=dJ
    exact aP h hd (run a0 0 0 dJ) (iq _ _)
   ·rename_i id bB hx
    rw [hx] at dJ
    split at he
    case h_2=>cases he
    rename_i cur T el' sl ho
    split at he
    case h_2=>cases he
    rename_i vh
    cases he
    obtain ⟨_,_,h3⟩:=dJ
    rcases (h3 _ _ _ _ ho).2 (Nat.eq_of_beq_eq_true vh) with ⟨hn,a0,lJ⟩ | ⟨b,cap,_,lJ,_⟩
    ·refine aP h hd (run _ _ _ lJ) ?_
     rw [hn]; exact iq _ _
    ·exact aP h hd (run _ _ _ lJ) (iq _ _)
   ·rename_i id hx
    rw [hx] at dJ
    split at he
    case h_2=>cases he
    rename_i cur T el' d ho
    cases he
    obtain ⟨_,_,h3⟩:=dJ
    obtain ⟨b,cap,_,lJ,_⟩:=h3 _ _ _ _ ho
    exact aP h hd (run _ _ _ lJ) (iq _ _)
   ·rename_i id bB i n hx
    rw [hx] at dJ
    split at he
    case h_2=>cases he
    rename_i cur T el' d ho
    split at he
    case h_2=>cases he
    rename_i vh
    cases he
    cases Nat.eq_of_beq_eq_true vh
    obtain ⟨_,_,ad,cap,_,lJ,_⟩:=yw h dJ ho
    exact aP h hd (run _ _ _ lJ) (iq _ _)
   ·split at he
    case h_2=>cases he
    rename_i τ r hr
    cases he
    obtain ⟨ad,c,hx⟩:=YQ (rE dJ hr)
    exact aP h hd (run _ _ _ hx) (iq _ _)
  ·-- append
   split at he
   case h_2=>cases he
   rename_i sx x T T' ha hT
   split at he
   case h_2=>cases he
   rename_i hTT
   simp only [Bool.and_eq_true] at hTT
   have hlo:=Nat.le_of_ble_eq_true hTT.1.1
   have hTT:=Nat.eq_of_beq_eq_true hTT.1.2
   subst hTT
   obtain ⟨args⟩:=args
   obtain ⟨argTypes⟩:=argTypes
   simp only at ha hT
   subst ha hT
   exact KD hG h hd hop hlo (hv sx) (hv x) he
  ·split at he
   case h_2=>cases he
   rename_i x y ha
   obtain ⟨args⟩:=args
   simp only at ha
   subst ha
   exact yy (least:=true) h hd (hv x) (hv y) (fun k k' m n hx hy=>by
    simp [execOp,hop,resolve,invoke,builtin,hx,hy,Builtin.min_,Builtin.min2]) he
  ·split at he
   case h_2=>cases he
   rename_i x y ha
   obtain ⟨args⟩:=args
   simp only at ha
   subst ha
   exact yy (least:=false) h hd (hv x) (hv y) (fun k k' m n hx hy=>by
    simp [execOp,hop,resolve,invoke,builtin,hx,hy,Builtin.max_,Builtin.max2]) he
  ·rename_i x
   unfold EG at he
   split at he
   ·rename_i f
    split at he
    case h_3=>cases he
    case h_2 =>
     rename_i wr n τa T el R hf
     obtain ⟨jK,Qv⟩:=hΓ f _ hf
     split at he
     case h_2=>cases he
     rename_i hlo
     have hlo:=Nat.le_of_ble_eq_true hlo
     split at he
     ·unfold EF at he
      split at he
      case h_2=>cases he
      rename_i x0 τh R0 hpn hargs hno
      split at he
      case h_2=>cases he
      rename_i τy y0 hle
      split at he
      case h_2=>cases he
      rename_i y hcast
      simp only [Br.run,fG,bad] at he
      cases hs:(R0 (y,())).isSome with
      | false=>simp only [hs,cond_false] at he; cases he
      | true =>
       simp only [hs,cond_true,id] at he
       cases he
       obtain ⟨sl,WR⟩:=Option.isSome_iff_exists.1 hs
       simp only [Bool.and_eq_true] at hpn
       obtain ⟨⟨sC,hfl⟩,hn⟩:=hpn
       obtain ⟨c0,cl,hc0,hc1,hc2⟩:=List.map_eq_cons_iff.1 hargs
       have aBh:cl=[]:=by cases cl with
        | nil=>rfl
        | cons _ _=>cases hc2
       subst aBh
       have hrs:=Ni h (gj hΓ h args.toList 0 x0 (a.eval c0) (by rw [hargs]; rfl) (by rw [hc0]; rfl))
       rw [hle] at hrs
       obtain ⟨ho1,tY⟩:=hrs
       obtain ⟨hty,hyy⟩:=bK hcast
       cases hty
       have hyy:y=y0:=hyy
       subst hyy
       have rF:=Iz hG h Qv hlo hno sC hfl ho1 tY (by rw [hargs] at hn; exact hn) WR
       have hrun:=mU (P:=P) a.eval ⟨.value (.func f),args,argTypes⟩ o.type (x:=.func f) rfl (f:=f) (first:=#[]) (caps:=#[]) rfl jK w
       unfold Oper.wp
       have hex:(execOp a.eval o)=(do let d <- resolve a.eval ⟨.value (.func f),args,argTypes⟩ o.type; invoke d.target d.args:Sem Next):=by simp only [execOp,hop]
       rw [hex,hrun]
       rw [show (#[] ++ (⟨.value (.func f),args,argTypes⟩:Call).args.map a.eval ++ #[]) = #[a.eval c0] by apply Array.ext'; simp [hc0]]
       refine rF.mono ?_
       rintro en w1 ⟨v,ρ',S',rfl,q1,q2⟩
       rw [WR]
       exact ⟨rfl,ρ',S',F,(q1.put hd q2).of_eq rfl rfl rfl rfl⟩
     unfold EE at he
     split at he
     case h_2=>cases he
     rename_i y h1 h2 h3
     simp only [Br.run,fG,bad] at he
     cases hs:(R y).isSome with
     | false=>simp only [hs,cond_false] at he; cases he
     | true =>
      simp only [hs,cond_true,id] at he
      cases he
      have wQ:qU wr n τa T el R (args.toList.map (val Γ s.env)) s.heap s.tr (base + o.dst.getD 0) = .br true (.leaf (.ok ⟨some (wG wr (base + o.dst.getD 0) el ((R y).getD ⟨0,fun _=>el.dflt⟩)),[(base + o.dst.getD 0,eD wr T el ((R y).getD ⟨0,fun _=>el.dflt⟩))],[base + o.dst.getD 0],false,none⟩)) (.leaf .bad):=by
       unfold qU
       simp only [h1,h2,h3,hs]
      have rF:=Qv N G s a w ρ S F hG h (args.toList.map (val Γ s.env)) (args.toList.map a.eval) (base + o.dst.getD 0) (by simp) (gj hΓ h args.toList) hlo (by rw [wQ]; intro r hr; rw [show r=_ from hr]; simp) (by rw [wQ]; intro e he; cases (show OR.cw .jc e=_ from he))
      have hrun:=mU (P:=P) a.eval ⟨.value (.func f),args,argTypes⟩ o.type (x:=.func f) rfl (f:=f) (first:=#[]) (caps:=#[]) rfl jK w
      unfold Oper.wp
      have hex:(execOp a.eval o)=(do let d <- resolve a.eval ⟨.value (.func f),args,argTypes⟩ o.type; invoke d.target d.args:Sem Next):=by simp only [execOp,hop]
      rw [hex,hrun]
      rw [show (#[] ++ (⟨.value (.func f),args,argTypes⟩:Call).args.map a.eval ++ #[])=(args.toList.map a.eval).toArray by apply Array.ext'; simp]
      refine rF.mono ?_
      rintro en w1 ⟨rr,tY,hr2⟩
      rw [wQ] at tY
      have tY:rr=_:=tY
      subst tY
      obtain ⟨v,ρ',S',F',rfl,q1,q2⟩:=hr2
      exact ⟨rfl,ρ',S',F',(q1.put hd q2).of_eq rfl rfl rfl rfl⟩
    rename_i c' hf
    obtain ⟨jK,Qv⟩:=hΓ f _ hf
    split at he
    ·unfold YD at he
     split at he
     case h_2=>cases he
     rename_i x sC hx
     simp only [nR,Br.run,fG,bad] at he
     cases hp:c'.pre x with
     | false=>simp only [hp,cond_false] at he; cases he
     | true =>
      simp only [hp,cond_true,id] at he
      cases he
      have hargs:=iT (us:=args.toList.map a.eval) (by simp) (Vl h (gj hΓ h args.toList)) hx
      refine EP hG h hd hop (c:=⟨.value (.func f),args,argTypes⟩) rfl (f:=f) (first:=#[]) (caps:=#[]) rfl jK (y:=c'.fn x) ?_
      have:=Qu h Qv sC hp hargs
      rw [show (args.map a.eval)=(args.toList.map a.eval).toArray by apply Array.ext'; simp]
      simpa using this
    unfold af2 at he
    split at he
    case h_2=>cases he
    rename_i x hx
    simp only [nR,Br.run,fG,bad] at he
    cases hp:c'.pre x with
    | false=>simp only [hp,cond_false] at he; cases he
    | true =>
     simp only [hp,cond_true,id] at he
     cases he
     have hargs:=iT (us:=args.toList.map a.eval) (by simp) (gj hΓ h args.toList) hx
     refine EP hG h hd hop (c:=⟨.value (.func f),args,argTypes⟩) rfl (f:=f) (first:=#[]) (caps:=#[]) rfl jK (y:=c'.fn x) ?_
     have:=Qv S w h.bd x _ hp hargs
     rw [show (args.map a.eval)=(args.toList.map a.eval).toArray by apply Array.ext'; simp]
     simpa using this
   ·split at he
    case h_2=>cases he
    rename_i hnf _ at' rt F hx
    have dJ:=hv x
    rw [hx] at dJ
    obtain ⟨f,first,caps,hfv,jK,hF⟩:=rI dJ
    unfold fnD at he
    split at he
    case h_2=>cases he
    rename_i y hy
    simp only [nR,Br.run,fG,bad] at he
    cases hp:(F y).1 with
    | false=>simp only [hp,cond_false] at he; cases he
    | true =>
     simp only [hp,cond_true,id] at he
     cases he
     have hargs:=iT (us:=args.toList.map a.eval) (by simp) (gj hΓ h args.toList) hy
     refine EP hG h hd hop (c:=⟨.value x,args,argTypes⟩) rfl (by simpa using hfv) jK (y:=(F y).2) ?_
     have:=hF S w (Ext0.refl h.bd) y _ hp hargs
     rw [show (args.map a.eval)=(args.toList.map a.eval).toArray by apply Array.ext'; simp]
     exact this
  ·cases he
 ·rename_i fn first caps hop
  split at he
  case h_2=>cases he
  exact Fc hΓ h hd hop he
 ·cases he
end Go.Dm
namespace Go.Dm
open Go.RowKit
variable {P:Program} {N:Nat} {G:Gh} {S S':CS} {w w':World} {s:St} {a:Act} {ρ ρ':fV} {F F':Nat->Prop} {heap heap':Nat->aN} {Y:Value} {E:cO} {Γ:Ctx} {Fw:Fence} {r:Nat} {ops:Array Oper}
theorem kX (hF:jv Fw) {o:Oper} (hd:∀ c,o.op ≠ .defer c) {K:Act->World->Prop} {Q:Exit->Act->World->Prop} (h:o.wp P a w K Q):o.wpIn Fw r P a w K Q:=by
 refine ⟨fun f _=>hF.fn f,?_⟩
 rw [Oper.semAt_eq _ _ _ hd]
 unfold Oper.wp at h
 generalize (execOp a.eval o).run P w=res at h
 cases res with
 | ok nx w' =>
  cases nx <;> first
   | exact h
   | exact ⟨hF.Ku,hF.calls h⟩
   | exact h.elim
   | exact ⟨hF.Ku,fun c cs _=>let ⟨v,w',q,s⟩:=h c cs; ⟨v,w',q,hF.steps s⟩⟩
   | skip
 | halt k w'=>cases k <;> exact h
theorem Bk {lo base:Nat} {o:Oper} {env:Nat->Slot} {heap:Nat->aN} {e:rj} (h:(xT P E Γ lo base o env heap).run id=some e):∀ c,o.op ≠ .defer c:=fun c hc=>by
 unfold xT at h
 rw [hc] at h
 cases h
theorem jC {α:Type} (x:Sl α) (y:α):(cK x ⟨1,fun _=>y⟩).list=x.list ++ [y]:=by
 unfold Sl.list cK
 simp only [List.range_succ,List.map_append,List.map_cons,List.map_nil]
 congr 1
 ·apply List.map_congr_left
  intro i hi
  have:Nat.blt i x.n=true:=by rw [Nat.blt_eq]; simpa using hi
  simp [this]
 ·have:Nat.blt x.n x.n=false:=by rw [<- Bool.not_eq_true,Nat.blt_eq]; omega
  simp [this]
theorem SR.fw (h:SR P N G s a w ρ S F):FW G F w:=⟨h.ext.kps,h.same,h.fb,h.f0,h.sub⟩
theorem SR.round (h:SR P N G s a w ρ S F) (hg:zT F w F' w') (hs:eT (fun b=>b < w.heap.size/\¬ F b) w w') (hk:zS S w w') {t:Tr} (ht:MN G t F' S w') :
  SR P N G { s with tr:=t } a w' ρ S F':=by
 have ex:Ext0 S w S w':=⟨hs.size,fun _ _ x=>x,hk.cell,hk.maps,fun b o x=>Nat.lt_of_lt_of_le (h.bd b o x) hs.size,hk.pl⟩
 have hblk:∀ id b,live (s.heap id)->ρ id=some b->w'.heap[b]? = w.heap[b]? := fun id b hl hb=>hs.block b ⟨(h.eE hl hb).1,(h.eE hl hb).2.1.2⟩
 have hnf:∀ b,b < w.heap.size->F' b->F b:=fun b hb hf=>(hg.new b hf).elim (fun x=>x) (fun x=>absurd hb (by omega))
 have hkp:∀ id,Kept w w' ρ ρ id (s.heap id) (s.heap id):=fun id=>.refl rfl fun b hb hl=>hblk id b hl hb
 refine ⟨h.size,h.aS.tr hkp (fun D hF hD=>⟨(hs.block D ⟨(Array.getElem?_eq_some_iff.1 hD).1,hF⟩).trans hD,fun q=>hF (hnf D (Array.getElem?_eq_some_iff.1 hD).1 q)⟩),fun t=>(h.env t).tr ex hkp,
  fun id=>(h.obj id).tr ex hkp rfl fun b hb=>⟨hs.block b ⟨(h.gD hb).1,(h.gD hb).2.1.2⟩,fun i q=>q,hnf b (h.gD hb).1⟩,fun i j b hi hj=>h.inj i j b (hi.back rfl fun b q1 q2=>hblk _ b q2 q1) (hj.back rfl fun b q1 q2=>hblk _ b q2 q1),h.ext.trans ex,h.new,h.same.trans (hs.mono fun b hb=>⟨Nat.lt_of_lt_of_le hb.1 h.ext.size,fun q=>hb.2.2 (h.f0 b hb.1 q)⟩),ht,
  hg.bd,fun b hb hf=>h.f0 b hb (hnf b (Nat.lt_of_lt_of_le hb h.ext.size) hf),fun b hb=>hg.sub b (h.sub b hb),fun b o hS hf=>h.fs b o hS (hnf b (h.bd b o hS) hf),h.pins⟩
theorem FW.round (h:FW G F w) (hsz:G.w0.heap.size<=w.heap.size) (hkS:zS G.S0 w w') (hg:zT F w F' w') (hs:eT (fun b=>b < w.heap.size/\¬ F b) w w'):FW G F' w':=
 ⟨h.kps.trans hkS,h.same.trans (hs.mono fun b hb=>⟨Nat.lt_of_lt_of_le hb.1 hsz,fun q=>hb.2.2 (h.f0 b hb.1 q)⟩),hg.bd,
  fun b hb hf=>h.f0 b hb ((hg.new b hf).elim (fun x=>x) (fun x=>absurd hb (by omega))),fun b hb=>hg.sub b (h.sub b hb)⟩
theorem KE (hΓ:Sound P Γ) (h:SR P N G s a w ρ S F) (args:Array Operand) {τ:Ty} {x:τ.den} (hx:fh τ (args.toList.map (val Γ s.env))=some x):R P τ S w x (args.map a.eval).toList:=by
 have:=iT (P:=P) (Y:=G.Y) (heap:=s.heap) (ρ:=ρ) (us:=args.toList.map a.eval) (by simp) (gj hΓ h args.toList) hx
 simpa using this
def aBl (P:Program) (N:Nat) (G:Gh) (s:St) (a:Act) (d:DC) (e:rj) (w':World) (ch:List PanicEntry):Prop:=Vd P N G (s.fG none e) a w' d ch
theorem Jo (hFw:jv Fw) (hΓ:Sound P Γ) (hG:G.Ok P) (h:SR P N G s a w ρ S F) {o:Oper} (hd:o.dst.all (Nat.blt · N)=true) {base:Nat} {t:Tree OR} (ht:Pq P Γ G.lo base o s.env s.heap s.tr=some t)
    (hnb:∀ r,t.Has r->r ≠ .bad) (hyg:∀ e,t.Has (.cw .jc e)->YG G (s.fG none e)) {K:Act->World->Prop} {Q:Exit->Act->World->Prop} (hK:∀ a' w' e,t.Has (.ok e)->SRE P N G o s e a' w'->K a' w')
    (hQ:∀ w' d e ch,t.Has (.cw d e)->aBl P N G s a d e w' ch->Q (.panic ch) a w'):o.wpIn Fw r P a w K Q:=by
  have hv:=Ab hΓ h
  unfold Pq at ht
  split at ht
  · rename_i c hop
    have Jg:∀ c,o.op ≠ .defer c:=fun c e=>by rw [hop] at e; cases e
    split at ht
    case h_2=>cases ht
    rename_i x Vo
    split at ht
    case h_2=>cases ht
    rename_i hlo
    have hlo:=Nat.le_of_ble_eq_true hlo
    -- calls of functions
    have gen:∀ (f:FuncId) (app:List Slot->(Nat->aN)->Tr->Nat->Tree OR) (first caps:Array Value) (args:List Slot) (us:List Value),Γ f=some (.gen app)->a.eval x = .func (.func f) first caps ->
        (first ++ c.args.map a.eval ++ caps)=us.toArray->args.length=us.length->(∀ (j:Nat) (d:Slot) (u:Value),args[j]? = some d->us[j]? = some u->RS P G.Y S w s.heap ρ d u)->t=app args s.heap s.tr (base + o.dst.getD 0)->o.wpIn Fw r P a w K Q:=by
      intro f app first caps args us hf hx wM hl hargs htt
      obtain ⟨jK,Qv⟩:=hΓ f _ hf
      have rF:=Qv N G s a w ρ S F hG h args us (base + o.dst.getD 0) hl hargs hlo (by rw [<- htt]; exact hnb) (by rw [<- htt]; exact hyg)
      refine kX hFw Jg ?_
      have hrun:=mU (P:=P) a.eval c o.type Vo hx jK w
      unfold Oper.wp
      have:(execOp a.eval o)=(do let d <- resolve a.eval c o.type; invoke d.target d.args:Sem Next):=by simp only [execOp,hop]
      rw [this,hrun,wM]
      refine rF.mono ?_
      rintro e w1 ⟨rr,tY,hr2⟩
      rw [<- htt] at tY
      cases rr with
      | bad=>exact hr2.elim
      | ok e' =>
        obtain ⟨v,ρ',S',F',rfl,q1,q2⟩:=hr2
        refine hK _ _ e' tY ⟨ρ',S',F',(q1.put hd q2).of_eq rfl rfl rfl rfl⟩
      | cw d e' =>
        obtain ⟨ch,rfl,hp⟩:=hr2
        exact hQ _ d e' ch tY hp
    unfold EH at ht
    split at ht
    · rename_i f
      split at ht
      case h_2=>cases ht
      rename_i app hf
      cases ht
      refine gen f app #[] #[] _ (c.args.toList.map a.eval) hf rfl (by apply Array.ext'; simp) (by simp) (gj hΓ h c.args.toList) rfl
    · rename_i hnf
      split at ht
      · rename_i f ids hx
        split at ht
        case h_2=>cases ht
        rename_i app hf
        cases ht
        have dJ:=hv x
        rw [hx] at dJ
        obtain ⟨_,us,dJ,wM⟩:=dJ
        refine gen f app #[] us.toArray _ (c.args.toList.map a.eval ++ us) hf dJ (by apply Array.ext'; simp) ?_ ?_ rfl
        · have:∀ {ids:List Nat} {us:List Value},dZ s.heap ρ ids us->ids.length=us.length:=by
            intro ids
            induction ids with
            | nil=>intro us hp; cases us <;> first | rfl | exact hp.elim
            | cons i ids ih=>intro us hp; cases us <;> first | exact hp.elim | simp [ih hp.2]
          simp [this wM]
        · intro j d u h1 h2
          by_cases hj:j < c.args.toList.length
          · rw [List.getElem?_append_left (by simpa using hj)] at h1 h2
            exact gj hΓ h c.args.toList j d u h1 h2
          · rw [List.getElem?_append_right (by simpa using hj)] at h1 h2
            simp only [List.length_map] at h1 h2
            have:∀ {ids:List Nat} {us:List Value} {j:Nat} {d:Slot} {u:Value},dZ s.heap ρ ids us->(ids.map fun i=>Slot.v (.ptr i 0))[j]? = some d->us[j]? = some u->RS P G.Y S w s.heap ρ d u:=by
              intro ids
              induction ids with
              | nil=>intro us j d u hp h1; simp at h1
              | cons i ids ih =>
                intro us j d u hp h1 h2
                cases us with
                | nil=>exact hp.elim
                | cons v us =>
                  cases j with
                  | zero=>simp at h1 h2; subst h1 h2; exact hp.1
                  | succ j=>exact ih hp.2 (by simpa using h1) (by simpa using h2)
            exact this wM h1 h2
      · rename_i f τ y ids hx
        split at ht
        case h_2=>cases ht
        rename_i app hf
        cases ht
        have dJ:=hv x
        rw [hx] at dJ
        obtain ⟨_,u0,us,dJ,hu0,wM⟩:=dJ
        refine gen f app #[] (u0 :: us).toArray _ (c.args.toList.map a.eval ++ u0 :: us) hf dJ (by apply Array.ext'; simp) ?_ ?_ rfl
        · have:∀ {ids:List Nat} {us:List Value},dZ s.heap ρ ids us->ids.length=us.length:=by
            intro ids
            induction ids with
            | nil=>intro us hp; cases us <;> first | rfl | exact hp.elim
            | cons i ids ih=>intro us hp; cases us <;> first | exact hp.elim | simp [ih hp.2]
          simp [this wM]
        · intro j d u h1 h2
          by_cases hj:j < c.args.toList.length
          · rw [List.getElem?_append_left (by simpa using hj)] at h1 h2
            exact gj hΓ h c.args.toList j d u h1 h2
          · rw [List.getElem?_append_right (by simpa using hj)] at h1 h2
            simp only [List.length_map] at h1 h2
            generalize j - c.args.toList.length=k at h1 h2
            cases k with
            | zero =>
              simp only [List.getElem?_cons_zero,Option.some.injEq] at h1 h2
              subst h1 h2
              exact ⟨rfl,hu0⟩
            | succ k =>
              simp only [List.getElem?_cons_succ] at h1 h2
              have:∀ {ids:List Nat} {us:List Value} {j:Nat} {d:Slot} {u:Value},dZ s.heap ρ ids us->(ids.map fun i=>Slot.v (.ptr i 0))[j]? = some d->us[j]? = some u->RS P G.Y S w s.heap ρ d u:=by
                intro ids
                induction ids with
                | nil=>intro us j d u hp h1; simp at h1
                | cons i ids ih =>
                  intro us j d u hp h1 h2
                  cases us with
                  | nil=>exact hp.elim
                  | cons v us =>
                    cases j with
                    | zero=>simp at h1 h2; subst h1 h2; exact hp.1
                    | succ j=>exact ih hp.2 (by simpa using h1) (by simpa using h2)
              exact this wM h1 h2
      · rename_i hx
        cases ht
        have dJ:=hv x
        rw [hx] at dJ
        have dJ:a.eval x = .func (.yield G.l) #[] #[]:=dJ
        obtain ⟨lv,xs,htr,hcj⟩:=h.tr
        have hlv:lv=true:=by
          cases lv with
          | true=>rfl
          | false=>exact absurd rfl (hnb .bad (by unfold ED; rw [htr]; rfl))
        subst hlv
        cases hargs:fh G.e (c.args.toList.map (val Γ s.env)) with
        | none=>exact absurd rfl (hnb .bad (by unfold ED; rw [htr]; simp only [hargs]; rfl))
        | some y =>
          have hY:ED s.tr (c.args.toList.map (val Γ s.env)) = .any
              (MK (.v (.pc .bool true)) (some ⟨G.e,true,cK xs ⟨1,fun _=>y⟩⟩))
              (.any (MK (.v (.pc .bool false)) (some ⟨G.e,false,cK xs ⟨1,fun _=>y⟩⟩))
                (.leaf (.cw .jc ⟨none,[],[],false,some ⟨G.e,false,cK xs ⟨1,fun _=>y⟩⟩⟩))):=by
            unfold ED; rw [htr]; simp only [hargs]
          rw [hY] at hK hQ hyg
          have hpre:xs.list ++ [y] <+: G.items:=by rw [<- jC]; exact hyg _ (.inr (.inr rfl)) _ rfl
          obtain ⟨fn,tmps,assign,body,hyr,hR⟩:=hG.y xs.list F S w y _ hpre hcj h.fb h.bd h.fs (KE hΓ h c.args hargs)
          refine ⟨fun f _=>hFw.fn f,?_⟩
          rw [Oper.semAt_eq _ _ _ Jg]
          have hrun:(execOp a.eval o).run P w = .ok (.round G.l fn tmps assign body) w:=by
            simp only [execOp,hop,resolve,Vo,dJ,Deferred.ofValue,Sem.run_bind,Sem.run_pure,Result.andThen_ok,invoke]
            have e1:(#[]:Array Value) ++ c.args.map a.eval=(c.args.map a.eval).toList.toArray:=by apply Array.ext'; simp
            rw [e1]; exact hyr
          rw [hrun,Oper.uponIn_round]
          refine ⟨hFw.Ku,(jv.wide.round hFw hR jv.wide).mono ?_⟩
          rintro e w1 ⟨F',hg,hs,hk,mJ⟩
          have hkS:zS G.S0 w w1:=hk.mono h.ext.sub
          rcases mJ with ⟨rfl,hJ⟩ | ⟨rfl,hJ⟩ | ⟨ch,rfl,hJ⟩
          · refine hK _ _ _ (.inl rfl) ⟨ρ,S,F',((h.round hg hs hk (t:=⟨G.e,true,cK xs ⟨1,fun _=>y⟩⟩) ⟨true,_,rfl,by rw [jC]; exact hJ⟩).put hd (eM true)).of_eq rfl rfl rfl rfl⟩
          · refine hK _ _ _ (.inr (.inl rfl)) ⟨ρ,S,F',((h.round hg hs hk (t:=⟨G.e,false,cK xs ⟨1,fun _=>y⟩⟩) ⟨false,_,rfl,xs.list ++ [y],by rw [jC]; exact List.prefix_refl _,hJ⟩).put hd (eM false)).of_eq rfl rfl rfl rfl⟩
          · refine hQ _ _ _ ch (.inr (.inr rfl)) ⟨F',S,cK xs ⟨1,fun _=>y⟩,xs.list ++ [y],rfl,by rw [jC]; exact List.prefix_refl _,hJ,h.fw.round h.ext.size hkS hg hs,fun q=>by have hd:=h.aS; have q:s.aS=[]:=q; rw [q] at hd; cases qV:a.defers with
            | nil=>rfl
            | cons d ds=>rw [qV] at hd; exact hd.elim⟩
      · cases ht
  · rename_i x hop
    have Jg:∀ c,o.op ≠ .defer c:=fun c e=>by rw [hop] at e; cases e
    split at ht
    case h_2=>cases ht
    rename_i T τ d hx
    cases ht
    have dJ:=hv x
    rw [hx] at dJ
    obtain ⟨u,dJ,hr⟩:=dJ
    refine kX hFw Jg ?_
    unfold Oper.wp
    have:(execOp a.eval o).run P w = .halt (.panic (.iface T u)) w:=by simp [execOp,hop,dJ,Instr.panic,goPanic]
    rw [this,Oper.upon_panic]
    exact hQ _ _ _ _ rfl ⟨_,ρ,S,F,rfl,h.of_eq rfl rfl rfl rfl,u,rfl,hr⟩
  · rename_i op tt x y yt hop
    have Jg:∀ c,o.op ≠ .defer c:=fun c e=>by rw [hop] at e; cases e
    have hyn:rm y=true->a.eval y = .slice none 0 0:=fun hn=>by
      unfold rm at hn
      split at hn
      · rfl
      · cases hn
    have main:∀ (want:Bool) (el:TypeId),rm y=true->P.underlying tt=some (.slice el)->t=ud want (val Γ s.env x)->(∀ (ad:Option Addr) (n c:Nat),a.eval x = .slice ad n c->(execOp a.eval o).run P w = .ok (.value (.bool (if want then ad.isNone else !ad.isNone))) w)->o.wpIn Fw r P a w K Q:=by
      intro want el hn hu htt hrun
      have fin:∀ (ad:Option Addr) (n c:Nat) (b:Bool),a.eval x = .slice ad n c->(if want then ad.isNone else !ad.isNone)=b->t.Has (.ok ⟨some (.v (.pc .bool b)),[],[],false,none⟩)->o.wpIn Fw r P a w K Q:=by
        intro ad n c b hx hb hh
        refine kX hFw Jg (Oper.wp_mono (K:=SRE P N G o s ⟨some (.v (.pc .bool b)),[],[],false,none⟩) (fun a' w' q=>hK a' w' _ hh q) ?_)
        unfold Oper.wp
        rw [hrun ad n c hx,hb]
        exact ⟨ρ,S,F,(h.put hd (eM b)).of_eq rfl rfl rfl rfl⟩
      have dJ:=hv x
      subst htt
      unfold ud at hnb
      split at hnb
      · rename_i hx
        rw [hx] at dJ
        obtain ⟨a0,dJ⟩:=dJ
        cases hb:(if want then a0.isNone else !a0.isNone) with
        | true=>exact fin a0 0 0 true dJ hb (by unfold ud; rw [hx]; cases want <;> simp [Tree.Has,MK])
        | false=>exact fin a0 0 0 false dJ hb (by unfold ud; rw [hx]; cases want <;> simp [Tree.Has,MK])
      · rename_i hx
        split at hnb
        · rename_i el' sl hrow
          have hT:ud want (val Γ s.env x) = .br (Nat.blt 0 sl.n) (MK (.v (.pc .bool (!want))) none) (.any (MK (.v (.pc .bool want)) none) (MK (.v (.pc .bool (!want))) none)):=by
            unfold ud
            split
            · rename_i hq; exact absurd hq (hx)
            · rw [hrow]
          rcases rE dJ hrow with ⟨h0,ad,cap,vz⟩ | ⟨b,off,cap,vz,_⟩
          · have vz:a.eval x = .slice ad 0 cap:=by simpa using vz
            have hz:Nat.blt 0 sl.n=false:=by rw [h0]; rfl
            cases hb:(if want then ad.isNone else !ad.isNone) with
            | true=>exact fin ad 0 cap true vz hb (by rw [hT,hz]; cases want <;> simp [Tree.Has,MK])
            | false=>exact fin ad 0 cap false vz hb (by rw [hT,hz]; cases want <;> simp [Tree.Has,MK])
          · have vz:a.eval x = .slice (some ⟨b,off,none⟩) sl.n cap:=by simpa using vz
            refine fin _ _ _ (!want) vz (by cases want <;> rfl) ?_
            rw [hT]
            cases Nat.blt 0 sl.n <;> simp [Tree.Has,MK]
        · exact absurd rfl (hnb .bad rfl)
    split at ht
    · rename_i _ el hn hu
      cases ht
      refine main true el hn hu rfl fun ad n c hx=>?_
      have hy:=hyn hn
      have hg:eqGuard .eql tt x y (.slice ad n c) (.slice none 0 0)=pure ():=rfl
      simp only [execOp,hop,hx,hy,hg,Sem.run_bind,Sem.run_pure,Result.andThen_ok,binOp,run_equal_slice_nil w tt el ad n c hu]
      rfl
    · rename_i _ el hn hu
      cases ht
      refine main false el hn hu rfl fun ad n c hx=>?_
      have hy:=hyn hn
      have hg:eqGuard .neq tt x y (.slice ad n c) (.slice none 0 0)=pure ():=rfl
      simp only [execOp,hop,hx,hy,hg,Sem.run_bind,Sem.run_pure,Result.andThen_ok,binOp,run_equal_slice_nil w tt el ad n c hu]
      rfl
    · cases ht
  · cases ht
end Go.Dm

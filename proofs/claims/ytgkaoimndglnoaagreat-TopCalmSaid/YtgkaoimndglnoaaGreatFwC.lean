/-
 The framework: an interpreter over typed data,and why what it says of a call is true.
-/
import Derived.Test.YtgkaoimndglnoaaGreatFwB
set_option linter.unusedVariables false
set_option linter.unusedSimpArgs false
namespace Go.Dm
open Go.RowKit
variable {P:Program} {N:Nat} {G:Gh} {S S':CS} {w w':World} {s:St} {a:Act} {ρ ρ':fA} {F F':Nat->Prop} {heap heap':Nat->bu} {Y:Value} {E:cg} {Γ:Ctx} {Fw:Fence} {r:Nat} {ops:Array Oper}
theorem iV (hF:gI Fw) {o:Oper} (hd:∀ c,o.op ≠ .defer c) {K:Act->World->Prop} {Q:Exit->Act->World->Prop} (h:o.wp P a w K Q):o.wpIn Fw r P a w K Q:=by
 refine ⟨fun f _=>hF.fn f,?_⟩
 rw [Oper.semAt_eq _ _ _ hd]
 unfold Oper.wp at h
 generalize (execOp a.eval o).run P w=res at h
 cases res with
 | ok nx w' =>
  cases nx <;> first
   | exact h
   | exact ⟨hF.EA,hF.calls h⟩
   | exact h.elim
   | exact ⟨hF.EA,fun c cs _=>let ⟨v,w',q,s⟩:=h c cs; ⟨v,w',q,hF.steps s⟩⟩
   | skip
 | halt k w'=>cases k <;> exact h
theorem yE {lo base:Nat} {o:Oper} {env:Nat->Slot} {heap:Nat->bu} {e:mV} (h:(vm P E Γ lo base o env heap).run id=some e):∀ c,o.op ≠ .defer c:=fun c hc=>by
 unfold vm at h
 rw [hc] at h
 cases h
theorem fy {α:Type} (x:Sl α) (y:α):(cj x ⟨1,fun _=>y⟩).list=x.list ++ [y]:=by
 unfold Sl.list cj
 simp only [List.range_succ,List.map_append,List.map_cons,List.map_nil]
 congr 1
 ·apply List.map_congr_left
  intro i hi
  have:Nat.blt i x.n=true:=by rw [Nat.blt_eq]; simpa using hi
  simp [this]
 ·have:Nat.blt x.n x.n=false:=by rw [<- Bool.not_eq_true,Nat.blt_eq]; omega
  simp [this]
theorem SR.fw (h:SR P N G s a w ρ S F):FW G F w:=⟨h.ext.kps,h.same,h.fb,h.f0,h.sub⟩
theorem SR.round (h:SR P N G s a w ρ S F) (hg:xm F w F' w') (hs:dX (fun b=>b < w.heap.size/\¬ F b) w w') (hk:xl S w w') {t:Tr} (ht:Im G t F' S w') :
  SR P N G { s with tr:=t } a w' ρ S F':=by
 have ex:Ext0 S w S w':=⟨hs.size,fun _ _ x=>x,hk.cell,hk.maps,fun b o x=>Nat.lt_of_lt_of_le (h.bd b o x) hs.size,hk.pl⟩
 have gK:∀ id b,live (s.heap id)->ρ id=some b->w'.heap[b]? = w.heap[b]? := fun id b hl hb=>hs.block b ⟨(h.eG hl hb).1,(h.eG hl hb).2.1.2⟩
 have hnf:∀ b,b < w.heap.size->F' b->F b:=fun b hb hf=>(hg.new b hf).elim (fun x=>x) (fun x=>absurd hb (by omega))
 have hkp:∀ id,Kept w w' ρ ρ id (s.heap id) (s.heap id):=fun id=>.refl rfl fun b hb hl=>gK id b hl hb
 refine ⟨h.size,h.bw.tr hkp (fun D hF hD=>⟨(hs.block D ⟨(Array.getElem?_eq_some_iff.1 hD).1,hF⟩).trans hD,fun q=>hF (hnf D (Array.getElem?_eq_some_iff.1 hD).1 q)⟩),fun t=>(h.env t).tr ex hkp,
  fun id=>(h.obj id).tr ex hkp rfl fun b hb=>⟨hs.block b ⟨(h.jy hb).1,(h.jy hb).2.1.2⟩,fun i q=>q,hnf b (h.jy hb).1⟩,fun i j b hi hj=>h.inj i j b (hi.back rfl fun b q1 q2=>gK _ b q2 q1) (hj.back rfl fun b q1 q2=>gK _ b q2 q1),h.ext.trans ex,h.new,h.same.trans (hs.mono fun b hb=>⟨Nat.lt_of_lt_of_le hb.1 h.ext.size,fun q=>hb.2.2 (h.f0 b hb.1 q)⟩),ht,
  hg.bd,fun b hb hf=>h.f0 b hb (hnf b (Nat.lt_of_lt_of_le hb h.ext.size) hf),fun b hb=>hg.sub b (h.sub b hb),fun b o hS hf=>h.fs b o hS (hnf b (h.bd b o hS) hf),h.pins⟩
theorem FW.round (h:FW G F w) (hsz:G.w0.heap.size<=w.heap.size) (hkS:xl G.S0 w w') (hg:xm F w F' w') (hs:dX (fun b=>b < w.heap.size/\¬ F b) w w'):FW G F' w':=
 ⟨h.kps.trans hkS,h.same.trans (hs.mono fun b hb=>⟨Nat.lt_of_lt_of_le hb.1 hsz,fun q=>hb.2.2 (h.f0 b hb.1 q)⟩),hg.bd,
  fun b hb hf=>h.f0 b hb ((hg.new b hf).elim (fun x=>x) (fun x=>absurd hb (by omega))),fun b hb=>hg.sub b (h.sub b hb)⟩
theorem EM (hΓ:Sound P Γ) (h:SR P N G s a w ρ S F) (args:Array Operand) {τ:Ty} {x:τ.den} (hx:ef τ (args.toList.map (val Γ s.env))=some x):R P τ S w x (args.map a.eval).toList:=by
 have:=fO (P:=P) (Y:=G.Y) (heap:=s.heap) (ρ:=ρ) (us:=args.toList.map a.eval) (by simp) (eX hΓ h args.toList) hx
 simpa using this
def aFQ (P:Program) (N:Nat) (G:Gh) (s:St) (a:Act) (d:DC) (e:mV) (w':World) (ch:List PanicEntry):Prop:=Sv P N G (s.er none e) a w' d ch
theorem DQ (hFw:gI Fw) (hΓ:Sound P Γ) (hG:G.Ok P) (h:SR P N G s a w ρ S F) {o:Oper} (hd:o.dst.all (Nat.blt · N)=true) {base:Nat} {t:Tree OR} (ht:KQ P Γ G.lo base o s.env s.heap s.tr=some t)
    (hnb:∀ r,t.Has r->r ≠ .bad) (hyg:∀ e,t.Has (.bP .jI e)->YG G (s.er none e)) {K:Act->World->Prop} {Q:Exit->Act->World->Prop} (hK:∀ a' w' e,t.Has (.ok e)->SRE P N G o s e a' w'->K a' w')
    (hQ:∀ w' d e ch,t.Has (.bP d e)->aFQ P N G s a d e w' ch->Q (.panic ch) a w'):o.wpIn Fw r P a w K Q:=by
  have hv:=xB hΓ h
  unfold KQ at ht
  split at ht
  · rename_i c hop
    have DJ:∀ c,o.op ≠ .defer c:=fun c e=>by rw [hop] at e; cases e
    split at ht
    case h_2=>cases ht
    rename_i x SH
    split at ht
    case h_2=>cases ht
    rename_i hlo
    have hlo:=Nat.le_of_ble_eq_true hlo
    -- calls of functions
    have gen:∀ (f:FuncId) (app:List Slot->(Nat->bu)->Tr->Nat->Tree OR) (first caps:Array Value) (args:List Slot) (us:List Value),Γ f=some (.gen app)->a.eval x = .func (.func f) first caps ->
        (first ++ c.args.map a.eval ++ caps)=us.toArray->args.length=us.length->(∀ (j:Nat) (d:Slot) (u:Value),args[j]? = some d->us[j]? = some u->RS P G.Y S w s.heap ρ d u)->t=app args s.heap s.tr (base + o.dst.getD 0)->o.wpIn Fw r P a w K Q:=by
      intro f app first caps args us hf hx sB hl hargs htt
      obtain ⟨gY,IG⟩:=hΓ f _ hf
      have kP:=IG N G s a w ρ S F hG h args us (base + o.dst.getD 0) hl hargs hlo (by rw [<- htt]; exact hnb) (by rw [<- htt]; exact hyg)
      refine iV hFw DJ ?_
      have hrun:=ig (P:=P) a.eval c o.type SH hx gY w
      unfold Oper.wp
      have:(execOp a.eval o)=(do let d <- resolve a.eval c o.type; invoke d.target d.args:Sem Next):=by simp only [execOp,hop]
      rw [this,hrun,sB]
      refine kP.mono ?_
      rintro e w1 ⟨rr,yD,SE⟩
      rw [<- htt] at yD
      cases rr with
      | bad=>exact SE.elim
      | ok e' =>
        obtain ⟨v,ρ',S',F',rfl,q1,q2⟩:=SE
        refine hK _ _ e' yD ⟨ρ',S',F',(q1.put hd q2).of_eq rfl rfl rfl rfl⟩
      | bP d e' =>
        obtain ⟨ch,rfl,hp⟩:=SE
        exact hQ _ d e' ch yD hp
    unfold AT at ht
    split at ht
    · rename_i f
      split at ht
      case h_2=>cases ht
      rename_i app hf
      cases ht
      refine gen f app #[] #[] _ (c.args.toList.map a.eval) hf rfl (by apply Array.ext'; simp) (by simp) (eX hΓ h c.args.toList) rfl
    · rename_i hnf
      split at ht
      · rename_i f ids hx
        split at ht
        case h_2=>cases ht
        rename_i app hf
        cases ht
        have cP:=hv x
        rw [hx] at cP
        obtain ⟨_,us,cP,sB⟩:=cP
        refine gen f app #[] us.toArray _ (c.args.toList.map a.eval ++ us) hf cP (by apply Array.ext'; simp) ?_ ?_ rfl
        · have:∀ {ids:List Nat} {us:List Value},dn s.heap ρ ids us->ids.length=us.length:=by
            intro ids
            induction ids with
            | nil=>intro us hp; cases us <;> first | rfl | exact hp.elim
            | cons i ids ih=>intro us hp; cases us <;> first | exact hp.elim | simp [ih hp.2]
          simp [this sB]
        · intro j d u h1 h2
          by_cases hj:j < c.args.toList.length
          · rw [List.getElem?_append_left (by simpa using hj)] at h1 h2
            exact eX hΓ h c.args.toList j d u h1 h2
          · rw [List.getElem?_append_right (by simpa using hj)] at h1 h2
            simp only [List.length_map] at h1 h2
            have:∀ {ids:List Nat} {us:List Value} {j:Nat} {d:Slot} {u:Value},dn s.heap ρ ids us->(ids.map fun i=>Slot.v (.ptr i 0))[j]? = some d->us[j]? = some u->RS P G.Y S w s.heap ρ d u:=by
              intro ids
              induction ids with
              | nil=>intro us j d u hp h1; simp at h1
              | cons i ids ih =>
                intro us j d u hp h1 h2
                cases us with
                | nil=>exact hp.elim
                | cons v us =>
                  cases j with
                  | zero=>simp at h1 h2; subst h1 h2; exact hp.1
                  | succ j=>exact ih hp.2 (by simpa using h1) (by simpa using h2)
            exact this sB h1 h2
      · rename_i f τ y ids hx
        split at ht
        case h_2=>cases ht
        rename_i app hf
        cases ht
        have cP:=hv x
        rw [hx] at cP
        obtain ⟨_,u0,us,cP,hu0,sB⟩:=cP
        refine gen f app #[] (u0 :: us).toArray _ (c.args.toList.map a.eval ++ u0 :: us) hf cP (by apply Array.ext'; simp) ?_ ?_ rfl
        · have:∀ {ids:List Nat} {us:List Value},dn s.heap ρ ids us->ids.length=us.length:=by
            intro ids
            induction ids with
            | nil=>intro us hp; cases us <;> first | rfl | exact hp.elim
            | cons i ids ih=>intro us hp; cases us <;> first | exact hp.elim | simp [ih hp.2]
          simp [this sB]
        · intro j d u h1 h2
          by_cases hj:j < c.args.toList.length
          · rw [List.getElem?_append_left (by simpa using hj)] at h1 h2
            exact eX hΓ h c.args.toList j d u h1 h2
          · rw [List.getElem?_append_right (by simpa using hj)] at h1 h2
            simp only [List.length_map] at h1 h2
            generalize j - c.args.toList.length=k at h1 h2
            cases k with
            | zero =>
              simp only [List.getElem?_cons_zero,Option.some.injEq] at h1 h2
              subst h1 h2
              exact ⟨rfl,hu0⟩
            | succ k =>
              simp only [List.getElem?_cons_succ] at h1 h2
              have:∀ {ids:List Nat} {us:List Value} {j:Nat} {d:Slot} {u:Value},dn s.heap ρ ids us->(ids.map fun i=>Slot.v (.ptr i 0))[j]? = some d->us[j]? = some u->RS P G.Y S w s.heap ρ d u:=by
                intro ids
                induction ids with
                | nil=>intro us j d u hp h1; simp at h1
                | cons i ids ih =>
                  intro us j d u hp h1 h2
                  cases us with
                  | nil=>exact hp.elim
                  | cons v us =>
                    cases j with
                    | zero=>simp at h1 h2; subst h1 h2; exact hp.1
                    | succ j=>exact ih hp.2 (by simpa using h1) (by simpa using h2)
              exact this sB h1 h2
      · rename_i hx
        cases ht
        have cP:=hv x
        rw [hx] at cP
        have cP:a.eval x = .func (.yield G.l) #[] #[]:=cP
        obtain ⟨lv,xs,PC,hcj⟩:=h.tr
        have hlv:lv=true:=by
          cases lv with
          | true=>rfl
          | false=>exact absurd rfl (hnb .bad (by unfold AO; rw [PC]; rfl))
        subst hlv
        cases hargs:ef G.e (c.args.toList.map (val Γ s.env)) with
        | none=>exact absurd rfl (hnb .bad (by unfold AO; rw [PC]; simp only [hargs]; rfl))
        | some y =>
          have hY:AO s.tr (c.args.toList.map (val Γ s.env)) = .any
              (Ij (.v (.pc .bool true)) (some ⟨G.e,true,cj xs ⟨1,fun _=>y⟩⟩))
              (.any (Ij (.v (.pc .bool false)) (some ⟨G.e,false,cj xs ⟨1,fun _=>y⟩⟩))
                (.leaf (.bP .jI ⟨none,[],[],false,some ⟨G.e,false,cj xs ⟨1,fun _=>y⟩⟩⟩))):=by
            unfold AO; rw [PC]; simp only [hargs]
          rw [hY] at hK hQ hyg
          have hpre:xs.list ++ [y] <+: G.items:=by rw [<- fy]; exact hyg _ (.inr (.inr rfl)) _ rfl
          obtain ⟨fn,tmps,assign,body,hyr,hR⟩:=hG.y xs.list F S w y _ hpre hcj h.fb h.bd h.fs (EM hΓ h c.args hargs)
          refine ⟨fun f _=>hFw.fn f,?_⟩
          rw [Oper.semAt_eq _ _ _ DJ]
          have hrun:(execOp a.eval o).run P w = .ok (.round G.l fn tmps assign body) w:=by
            simp only [execOp,hop,resolve,SH,cP,Deferred.ofValue,Sem.run_bind,Sem.run_pure,Result.andThen_ok,invoke]
            have e1:(#[]:Array Value) ++ c.args.map a.eval=(c.args.map a.eval).toList.toArray:=by apply Array.ext'; simp
            rw [e1]; exact hyr
          rw [hrun,Oper.uponIn_round]
          refine ⟨hFw.EA,(gI.wide.round hFw hR gI.wide).mono ?_⟩
          rintro e w1 ⟨F',hg,hs,hk,jT⟩
          have hkS:xl G.S0 w w1:=hk.mono h.ext.sub
          rcases jT with ⟨rfl,hJ⟩ | ⟨rfl,hJ⟩ | ⟨ch,rfl,hJ⟩
          · refine hK _ _ _ (.inl rfl) ⟨ρ,S,F',((h.round hg hs hk (t:=⟨G.e,true,cj xs ⟨1,fun _=>y⟩⟩) ⟨true,_,rfl,by rw [fy]; exact hJ⟩).put hd (dQ true)).of_eq rfl rfl rfl rfl⟩
          · refine hK _ _ _ (.inr (.inl rfl)) ⟨ρ,S,F',((h.round hg hs hk (t:=⟨G.e,false,cj xs ⟨1,fun _=>y⟩⟩) ⟨false,_,rfl,xs.list ++ [y],by rw [fy]; exact List.prefix_refl _,hJ⟩).put hd (dQ false)).of_eq rfl rfl rfl rfl⟩
          · refine hQ _ _ _ ch (.inr (.inr rfl)) ⟨F',S,cj xs ⟨1,fun _=>y⟩,xs.list ++ [y],rfl,by rw [fy]; exact List.prefix_refl _,hJ,h.fw.round h.ext.size hkS hg hs,fun q=>by have hd:=h.bw; have q:s.bw=[]:=q; rw [q] at hd; cases ng:a.defers with
            | nil=>rfl
            | cons d ds=>rw [ng] at hd; exact hd.elim⟩
      · cases ht
  · rename_i x hop
    have DJ:∀ c,o.op ≠ .defer c:=fun c e=>by rw [hop] at e; cases e
    split at ht
    case h_2=>cases ht
    rename_i T τ d hx
    cases ht
    have cP:=hv x
    rw [hx] at cP
    obtain ⟨u,cP,hr⟩:=cP
    refine iV hFw DJ ?_
    unfold Oper.wp
    have:(execOp a.eval o).run P w = .halt (.panic (.iface T u)) w:=by simp [execOp,hop,cP,Instr.panic,goPanic]
    rw [this,Oper.upon_panic]
    exact hQ _ _ _ _ rfl ⟨_,ρ,S,F,rfl,h.of_eq rfl rfl rfl rfl,u,rfl,hr⟩
  · rename_i op tt x y yt hop
    have DJ:∀ c,o.op ≠ .defer c:=fun c e=>by rw [hop] at e; cases e
    have hyn:nL y=true->a.eval y = .slice none 0 0:=fun hn=>by
      unfold nL at hn
      split at hn
      · rfl
      · cases hn
    have main:∀ (want:Bool) (el:TypeId),nL y=true->P.underlying tt=some (.slice el)->t=qF want (val Γ s.env x)->(∀ (ad:Option Addr) (n c:Nat),a.eval x = .slice ad n c->(execOp a.eval o).run P w = .ok (.value (.bool (if want then ad.isNone else !ad.isNone))) w)->o.wpIn Fw r P a w K Q:=by
      intro want el hn hu htt hrun
      have fin:∀ (ad:Option Addr) (n c:Nat) (b:Bool),a.eval x = .slice ad n c->(if want then ad.isNone else !ad.isNone)=b->t.Has (.ok ⟨some (.v (.pc .bool b)),[],[],false,none⟩)->o.wpIn Fw r P a w K Q:=by
        intro ad n c b hx hb hh
        refine iV hFw DJ (Oper.wp_mono (K:=SRE P N G o s ⟨some (.v (.pc .bool b)),[],[],false,none⟩) (fun a' w' q=>hK a' w' _ hh q) ?_)
        unfold Oper.wp
        rw [hrun ad n c hx,hb]
        exact ⟨ρ,S,F,(h.put hd (dQ b)).of_eq rfl rfl rfl rfl⟩
      have cP:=hv x
      subst htt
      unfold qF at hnb
      split at hnb
      · rename_i hx
        rw [hx] at cP
        obtain ⟨a0,cP⟩:=cP
        cases hb:(if want then a0.isNone else !a0.isNone) with
        | true=>exact fin a0 0 0 true cP hb (by unfold qF; rw [hx]; cases want <;> simp [Tree.Has,Ij])
        | false=>exact fin a0 0 0 false cP hb (by unfold qF; rw [hx]; cases want <;> simp [Tree.Has,Ij])
      · rename_i hx
        split at hnb
        · rename_i el' sl hrow
          have hT:qF want (val Γ s.env x) = .br (Nat.blt 0 sl.n) (Ij (.v (.pc .bool (!want))) none) (.any (Ij (.v (.pc .bool want)) none) (Ij (.v (.pc .bool (!want))) none)):=by
            unfold qF
            split
            · rename_i hq; exact absurd hq (hx)
            · rw [hrow]
          rcases nT cP hrow with ⟨h0,ad,cap,KS⟩ | ⟨b,off,cap,KS,_⟩
          · have KS:a.eval x = .slice ad 0 cap:=by simpa using KS
            have hz:Nat.blt 0 sl.n=false:=by rw [h0]; rfl
            cases hb:(if want then ad.isNone else !ad.isNone) with
            | true=>exact fin ad 0 cap true KS hb (by rw [hT,hz]; cases want <;> simp [Tree.Has,Ij])
            | false=>exact fin ad 0 cap false KS hb (by rw [hT,hz]; cases want <;> simp [Tree.Has,Ij])
          · have KS:a.eval x = .slice (some ⟨b,off,none⟩) sl.n cap:=by simpa using KS
            refine fin _ _ _ (!want) KS (by cases want <;> rfl) ?_
            rw [hT]
            cases Nat.blt 0 sl.n <;> simp [Tree.Has,Ij]
        · exact absurd rfl (hnb .bad rfl)
    split at ht
    · rename_i _ el hn hu
      cases ht
      refine main true el hn hu rfl fun ad n c hx=>?_
      have hy:=hyn hn
      have hg:eqGuard .eql tt x y (.slice ad n c) (.slice none 0 0)=pure ():=rfl
      simp only [execOp,hop,hx,hy,hg,Sem.run_bind,Sem.run_pure,Result.andThen_ok,binOp,run_equal_slice_nil w tt el ad n c hu]
      rfl
    · rename_i _ el hn hu
      cases ht
      refine main false el hn hu rfl fun ad n c hx=>?_
      have hy:=hyn hn
      have hg:eqGuard .neq tt x y (.slice ad n c) (.slice none 0 0)=pure ():=rfl
      simp only [execOp,hop,hx,hy,hg,Sem.run_bind,Sem.run_pure,Result.andThen_ok,binOp,run_equal_slice_nil w tt el ad n c hu]
      rfl
    · cases ht
  · cases ht
end Go.Dm
namespace Go.Dm
open Go.RowKit
variable {P:Program} {N:Nat} {G:Gh} {S S':CS} {w w':World} {s:St} {a:Act} {ρ ρ':fA} {F F':Nat->Prop} {heap heap':Nat->bu} {Y:Value} {E:cg} {Γ:Ctx} {Fw:Fence} {r:Nat} {ops:Array Oper}
def SX (P:Program) (N:Nat) (G:Gh) (s:St) (a:Act) (w:World):Prop:=∃ ρ S F,SR P N G s a w ρ S F
theorem SX.of_eq {s':St} (h:SX P N G s a w) (he:s'.env=s.env) (hh:s'.heap=s.heap) (ht:s'.tr=s.tr) (hd:s'.bw=s.bw):SX P N G s' a w:=by
 obtain ⟨ρ,S,F,h⟩:=h; exact ⟨ρ,S,F,h.of_eq he hh ht hd⟩
theorem qQ (env:Nat->Slot) (t:Nat) (sl:Slot) (h:env t=sl):setEnv env t sl=env:=by
 funext u
 unfold setEnv
 by_cases hu:u=t
 ·subst hu; simp [h]
 ·simp [bF hu]
structure Env (P:Program) (E:cg) (Γ:Ctx) (G:Gh) (Fw:Fence):Prop where
 mixed:P.follows .mixedOrders=true
 fns:Sound P Γ
 eq:fB P E.eq
 key:dN P E.key
 gh:G.Ok P
 wide:gI Fw
 bw:E.bw=true->Fw.round=none
theorem alX {β:Type} {T:β->Prop} {K:Option mV->β} {b:Br} (h:T (b.run K)):T (K (b.run id)):=(Br.run_eq K b) ▸ h
theorem Bs (hE:Env P E Γ G Fw) {β:Type} {T:β->Prop} {ch:β->β->β} (kG:∀ a b,T (ch a b)->T a/\T b) {K:Stp->β} (dr:¬ T (K .bad)/\∀ s',T (K (.bP .jI s'))->YG G s') {o:Oper} (hd:o.dst.all (Nat.blt · N)=true) (h:SX P N G s a w)
  (hT:T (Ss P E Γ G.lo ch o s K)) {Q:Exit->Act->World->Prop} (hQ:∀ d s' ch w',T (K (.bP d s'))->Sv P N G s' a w' d ch->Q (.panic ch) a w') :
  o.wpIn Fw r P a w (fun a' w'=>∃ s',SX P N G s' a' w'/\T (K (.ok s'))) Q:=by
 obtain ⟨ρ,S,F,h⟩:=h
 unfold Ss at hT
 split at hT
 ·rename_i c hop
  split at hT
  ·rename_i d hdf ng
   refine ⟨fun f _=>hE.wide.fn f,?_⟩
   rw [hE.bw hdf,Oper.semAt_none]
   unfold VD at ng
   split at ng
   case h_2=>cases ng
   rename_i t SH hargs
   split at ng
   case h_2=>cases ng
   rename_i f ids ht
   split at ng
   case h_2=>cases ng
   cases ng
   have hargs:c.args = #[]:=by simpa using hargs
   have hv:=h.env t
   rw [ht] at hv
   obtain ⟨_,us,hv,sB⟩:=hv
   have hv:a.eval (.tmp t) = .func (.func f) #[] us.toArray:=hv
   have hrun:(execOp a.eval o).run P w = .ok (.defer { target:=.fn (.func f) us.toArray,args:=#[] }) w:=by
    simp [execOp,hop,resolve,SH,hv,hargs,Deferred.ofValue]
   rw [hrun,Oper.uponIn_defer]
   have h2:SR P N G { s with bw:=.iM f ids :: s.bw } { a with defers:={ target:=.fn (.func f) us.toArray,args:=#[] } :: a.defers } w ρ S F:=
    ⟨h.size,⟨⟨us,rfl,sB⟩,h.bw⟩,h.env,h.obj,h.inj,h.ext,h.new,h.same,h.tr,h.fb,h.f0,h.sub,h.fs,h.pins⟩
   exact ⟨_,⟨ρ,S,F,(h2.mZ hd).of_eq rfl rfl rfl rfl⟩,hT⟩
  ·exact absurd hT dr.1
 ·split at hT
  ·rename_i t ht
   have hall:=Tree.nR kG hT
   refine DQ hE.wide hE.fns hE.gh h hd ht (fun r hr e=>?_) (fun e hr=>dr.2 _ (hall _ hr)) (fun a' w' e hr he=>?_) (fun w' d e ch hr he=>?_)
   ·subst e; exact dr.1 (hall _ hr)
   ·obtain ⟨ρ',S',F',q⟩:=he
    exact ⟨_,⟨ρ',S',F',q⟩,hall _ hr⟩
   ·exact hQ d _ ch w' (hall _ hr) he
  ·have hT:=alX hT
   cases he:(vm P E Γ G.lo s.base o s.env s.heap).run id with
   | none=>rw [he] at hT; exact absurd hT dr.1
   | some e =>
    rw [he] at hT
    refine iV hE.wide (yE he) (Oper.wp_mono (fun a' w' q=>?_) (DP hE.fns hE.eq hE.key hE.gh h hd he))
    obtain ⟨_,ρ',S',F',q⟩:=q
    exact ⟨_,⟨ρ',S',F',q⟩,hT⟩
theorem oh (h:SX P N G s a w) {o:Oper} {j:Nat} {want:Bool} (hg:o.guard=some (j,want)) {t:Nat} (ht:(ops[j]?).bind (·.dst)=some t) {b:Bool} (hb:s.env t = .v (.pc .bool b)) :
  Region.wanted o (yielded ops a.tmps)=(b == want):=by
 obtain ⟨ρ,S,F,h⟩:=h
 unfold Region.wanted
 simp only [hg]
 have:=h.env t
 rw [hb] at this
 have hv:=nU this
 have hty:a.tmps[t]? = some (.bool b):=by
  rw [Array.getD_eq_getD_getElem?] at hv
  cases hq:a.tmps[t]? with
  | none=>rw [hq] at hv; cases hv
  | some v=>rw [hq] at hv; simpa using hv
 have:yielded ops a.tmps j=some b:=by simp [yielded,ht,hty]
 rw [this]
 rfl
theorem qR (h:SX P N G s a w) {o:Oper} {j:Nat} {want:Bool} (hg:o.guard=some (j,want)) {t:Nat} (ht:(ops[j]?).bind (·.dst)=some t) (hb:s.env t = .un) :
  Region.wanted o (yielded ops a.tmps)=false:=by
 obtain ⟨ρ,S,F,h⟩:=h
 unfold Region.wanted
 simp only [hg]
 have:=h.env t
 rw [hb] at this
 have hv:a.tmps.getD t undef=undef:=this
 have:yielded ops a.tmps j=none:=by
  simp only [yielded,ht,Option.bind_some]
  rw [Array.getD_eq_getD_getElem?] at hv
  cases hq:a.tmps[t]? with
  | none=>rfl
  | some v=>rw [hq] at hv; rw [show v=undef from hv]; rfl
 rw [this]
 rfl
theorem yF (hE:Env P E Γ G Fw) {β:Type} {T:β->Prop} {ch:β->β->β} (kG:∀ a b,T (ch a b)->T a/\T b) {K:Stp->β} (dr:¬ T (K .bad)/\∀ s',T (K (.bP .jI s'))->YG G s') {i:Nat} {o:Oper} (ho:ops[i]? = some o) (h:SX P N G s a w)
  (hT:T (Il P E Γ G.lo N ch ops o s K)) {Q:Exit->Act->World->Prop} (hQ:∀ d s' ch w',T (K (.bP d s'))->Sv P N G s' a w' d ch->Q (.panic ch) a w') :
  wpOpIn Fw r P ops Q i (fun a' w'=>∃ s',SX P N G s' a' w'/\T (K (.ok s'))) a w:=by
 unfold Il at hT
 unfold wpOpIn
 simp only [ho]
 split at hT
 ·exact absurd hT dr.1
 ·rename_i hd
  split at hT
  ·rename_i hg
   have hw:Region.wanted o (yielded ops a.tmps)=true:=by simp [Region.wanted,hg]
   rw [if_pos hw]
   exact Bs hE kG dr hd h hT hQ
  ·rename_i j want hg
   split at hT
   ·exact absurd hT dr.1
   ·rename_i t ht
    split at hT
    ·rename_i b hb
     have hw:=oh h hg ht hb
     have EN:∀ b':Bool,b=b'->setEnv s.env t (.v (.pc .bool b'))=s.env:=fun b' e=>by subst e; exact qQ _ _ _ hb
     have skip:∀ b':Bool,b=b'->(b == want)=false->T (K (.ok { s with env:=gz (setEnv s.env t (.v (.pc .bool b'))) o.dst .un })) ->
       (if Region.wanted o (yielded ops a.tmps)=true then o.wpIn Fw r P a w (fun a' w'=>∃ s',SX P N G s' a' w'/\T (K (.ok s'))) Q else (∀ f,o.about P w a.eval=some f->Fw.fn f)/\∃ s',SX P N G s' (a.put o.dst undef) w/\T (K (.ok s'))):=by
      intro b' e hne hT
      rw [hw,hne,if_neg (by simp)]
      refine ⟨fun f _=>hE.wide.fn f,_,?_,hT⟩
      rw [EN b' e]
      obtain ⟨ρ,S,F,h⟩:=h
      exact ⟨ρ,S,F,h.Li hd⟩
     have go:∀ b':Bool,b=b'->(b == want)=true->T (Ss P E Γ G.lo ch o { s with env:=setEnv s.env t (.v (.pc .bool b')) } K) ->
       (if Region.wanted o (yielded ops a.tmps)=true then o.wpIn Fw r P a w (fun a' w'=>∃ s',SX P N G s' a' w'/\T (K (.ok s'))) Q else (∀ f,o.about P w a.eval=some f->Fw.fn f)/\∃ s',SX P N G s' (a.put o.dst undef) w/\T (K (.ok s'))):=by
      intro b' e hne hT
      rw [hw,hne,if_pos rfl]
      rw [EN b' e] at hT
      exact Bs hE kG dr hd (s:={ s with env:=s.env }) (h.of_eq rfl rfl rfl rfl) hT hQ
     obtain hb' | hb':(show Bool from b)=true\/(show Bool from b)=false:=by cases (show Bool from b) <;> simp
     ·have hb':b=true:=hb'
      subst hb'
      cases want with
      | true=>exact go true rfl rfl hT
      | false=>exact skip true rfl rfl hT
     ·have hb':b=false:=hb'
      subst hb'
      cases want with
      | true=>exact skip false rfl rfl hT
      | false=>exact go false rfl rfl hT
    ·rename_i hun
     rw [qR h hg ht hun,if_neg (by simp)]
     refine ⟨fun f _=>hE.wide.fn f,_,?_,hT⟩
     obtain ⟨ρ,S,F,h⟩:=h
     exact ⟨ρ,S,F,h.Li hd⟩
    ·exact absurd hT dr.1
theorem wpOpIn_mono {Q:Exit->Act->World->Prop} {i:Nat} {K K':Act->World->Prop} (hk:∀ a w,K a w->K' a w) (h:wpOpIn Fw r P ops Q i K a w):wpOpIn Fw r P ops Q i K' a w:=by
 unfold wpOpIn at h ⊢
 split
 ·rename_i h0
  rw [h0] at h
  exact hk _ _ h
 ·rename_i o h0
  rw [h0] at h
  simp only at h
  split
  ·rename_i hw
   rw [if_pos hw] at h
   exact Oper.wpIn_mono hk h
  ·rename_i hw
   rw [if_neg hw] at h
   exact ⟨h.1,hk _ _ h.2⟩
theorem Bt (hE:Env P E Γ G Fw) {β:Type} {T:β->Prop} {ch:β->β->β} (kG:∀ a b,T (ch a b)->T a/\T b) {K:Out->β} (dr:¬ T (K .bad)/\∀ s',T (K (.bP .jI s'))->YG G s') {Q:Exit->Act->World->Prop}
  (hN:∀ s' a' w',T (K (.norm s'))->SX P N G s' a' w'->Q .normal a' w') (hQ:∀ d s' ch a' w',T (K (.bP d s'))->Sv P N G s' a' w' d ch->Q (.panic ch) a' w') :
  ∀ {l:List Oper} {i:Nat} {s:St} {a:Act} {w:World},(∀ j,l[j]? = ops[i + j]?)->SX P N G s a w->T (VE P E Γ G.lo N ch ops l s K)->wpOpsIn Fw r P ops Q (List.range' i l.length) a w
 | [],i,s,a,w,_,h,hT=>hN _ a w hT (h.of_eq rfl rfl rfl rfl)
 | o :: l,i,s,a,w,hl,h,hT=>by
  have h0:ops[i]? = some o:=by simpa using (hl 0).symm
  rw [List.length_cons,List.range'_succ,wpOpsIn_cons]
  refine wpOpIn_mono ?_ (yF (K:=fun
   | .ok s'=>VE P E Γ G.lo N ch ops l s' K
   | .bP d s'=>K (.bP d s')
   | .bad=>K .bad) hE kG dr h0 h hT (fun d s' c w' q1 q2=>hQ d s' c a w' q1 q2))
  rintro a' w' ⟨s',q1,q2⟩
  exact Bt hE kG dr hN hQ (l:=l) (i:=i + 1) (fun j=>by have:=hl (j + 1); simpa [Nat.add_assoc,Nat.add_comm 1 j] using this) q1 q2
end Go.Dm
namespace Go.Dm
open Go.RowKit
variable {P:Program} {N:Nat} {G:Gh} {S S':CS} {w w':World} {s:St} {a:Act} {ρ ρ':fA} {F F':Nat->Prop} {heap heap':Nat->bu} {Y:Value} {E:cg} {Γ:Ctx} {Fw:Fence} {r:Nat} {ops:Array Oper}
abbrev X:=(Nat->Slot)×(Nat->bu)×Tr
def X.st (x:X) (base:Nat) (bw:List fu):St:=⟨x.1,x.2.1,x.2.2,base,bw⟩
def St.x (s:St):X:=(s.env,s.heap,s.tr)
def fC (ops:Array Oper) (o:Oper) (env:Nat->Slot):Option Bool:=
 match o.guard with
 | none=>some true
 | some (j,want)=>match (ops[j]?).bind (·.dst) with
  | none=>none
  | some t=>match env t with
   | .v (.pc .bool b)=>some ((show Bool from b) == want)
   | .un=>some false
   | _=>none
def opY (P:Program) (E:cg) (Γ:Ctx) (lo base:Nat) (o:Oper) (x:X):Option (mV×Bool):=
 match KQ P Γ lo base o x.1 x.2.1 x.2.2 with
 | some t=>t.det.map (·,false)
 | none=>((vm P E Γ lo base o x.1 x.2.1).run id).map fun e=>({ e with tr:=none },true)
def iq (P:Program) (E:cg) (Γ:Ctx) (lo base N:Nat) (ops:Array Oper) (i:Nat) (o:Oper) (x:X):Option (X×FP):=
 match o.dst.all (Nat.blt · N),fC ops o x.1 with
 | true,some true=>(opY P E Γ lo base o x).map fun e=>((gz x.1 o.dst (e.1.wt.getD .top),cE x.2.1 e.1.wh,Sr x.2.2 e.1.tr),⟨i,e.1.rh,e.1.wh.map (·.1),e.2⟩)
 | true,some false=>some ((gz x.1 o.dst .un,x.2.1,x.2.2),⟨i,[],[],true⟩)
 | _,_=>none
theorem uf {lo base i:Nat} {o:Oper} {x:X} (hd:o.dst.all (Nat.blt · N)=true) (hg:fC ops o x.1=some true) :
  iq P E Γ lo base N ops i o x=(opY P E Γ lo base o x).map fun e=>((gz x.1 o.dst (e.1.wt.getD .top),cE x.2.1 e.1.wh,Sr x.2.2 e.1.tr),⟨i,e.1.rh,e.1.wh.map (·.1),e.2⟩):=by
 unfold iq; rw [hd,hg]
theorem jz {lo base i:Nat} {o:Oper} {x:X} (hd:o.dst.all (Nat.blt · N)=true) (hg:fC ops o x.1=some false) :
  iq P E Γ lo base N ops i o x=some ((gz x.1 o.dst .un,x.2.1,x.2.2),⟨i,[],[],true⟩):=by
 unfold iq; rw [hd,hg]
theorem Tree.EO {β:Type} (K:OR->β) (z:β):∀ (t:Tree OR),(∃ e,t.det=some e/\t.run (fun _ _=>z) (fun | .ok e=>K (.ok e) | _=>z)=K (.ok e))\/t.run (fun _ _=>z) (fun | .ok e=>K (.ok e) | _=>z)=z
 | .leaf r=>by
  cases r with
  | ok e=>exact .inl ⟨e,rfl,rfl⟩
  | bP d e=>exact .inr rfl
  | bad=>exact .inr rfl
 | .br b l r=>by
  cases b
  ·exact Tree.EO K z r
  ·exact Tree.EO K z l
 | .any l r=>.inr rfl
theorem Tree.EP:∀ {t:Tree OR} {e:mV},t.det=some e->∀ r,t.Has r↔r = .ok e
 | .leaf q,e,h,r=>by
  cases q <;> cases h
  exact Iff.rfl
 | .br b l r0,e,h,r=>by
  cases b
  ·simpa [Tree.Has] using Tree.EP (t:=r0) (e:=e) h r
  ·simpa [Tree.Has] using Tree.EP (t:=l) (e:=e) h r
 | .any l r0,e,h,r=>by cases h
theorem Lu {β:Type} {lo:Nat} (i:Nat) (o:Oper) (s:St) (K:Option (St×FP)->β) :
  (∃ s' fp,iq P E Γ lo s.base N ops i o s.x=some (s'.x,fp)/\s'.base=s.base/\s'.bw=s.bw/\iN P E Γ lo N ops i o s K=K (some (s',fp)))\/iN P E Γ lo N ops i o s K=K none:=by
 cases hd:o.dst.all (Nat.blt · N) with
 | false=>right; unfold iN; rw [hd]
 | true =>
  have main:∀ (s1:St),s1.env=s.env->s1.heap=s.heap->s1.tr=s.tr->s1.base=s.base->s1.bw=s.bw->fC ops o s.env=some true ->
    iN P E Γ lo N ops i o s K=(match KQ P Γ lo s1.base o s1.env s1.heap s1.tr with
     | some t=>t.run (fun _ _=>K none) fun
      | .ok e=>K (some (s1.er o.dst e,⟨i,e.rh,e.wh.map (·.1),false⟩))
      | _=>K none
     | none=>(vm P E Γ lo s1.base o s1.env s1.heap).run fun
      | some e=>K (some (s1.er o.dst { e with tr:=none },⟨i,e.rh,e.wh.map (·.1),true⟩))
      | none=>K none) ->
    (∃ s' fp,iq P E Γ lo s.base N ops i o s.x=some (s'.x,fp)/\s'.base=s.base/\s'.bw=s.bw/\iN P E Γ lo N ops i o s K=K (some (s',fp)))\/iN P E Γ lo N ops i o s K=K none:=by
   intro s1 h1 h2 h3 h4 h5 hg hK
   rw [h1,h2,h3,h4] at hK
   rw [uf hd hg]
   unfold opY
   simp only [St.x]
   cases ht:KQ P Γ lo s.base o s.env s.heap s.tr with
   | some t =>
    rw [ht] at hK
    rcases Tree.EO (fun | .ok e=>K (some (s1.er o.dst e,⟨i,e.rh,e.wh.map (·.1),false⟩)) | _=>K none) (K none) t with ⟨e,q1,q2⟩ | q
    ·left
     refine ⟨s1.er o.dst e,⟨i,e.rh,e.wh.map (·.1),false⟩,?_,h4,h5,hK.trans q2⟩
     simp only [q1,Option.map_some,St.er,h1,h2,h3]
    ·right; exact hK.trans q
   | none =>
    rw [ht] at hK
    simp only at hK
    rw [Br.run_eq] at hK
    cases hr:(vm P E Γ lo s.base o s.env s.heap).run id with
    | none=>right; rw [hK,hr]
    | some e =>
     left
     refine ⟨s1.er o.dst { e with tr:=none },⟨i,e.rh,e.wh.map (·.1),true⟩,?_,h4,h5,by rw [hK,hr]⟩
     simp only [Option.map_some,St.er,h1,h2,h3]
  cases hg:o.guard with
  | none =>
   exact main s rfl rfl rfl rfl rfl (by simp [fC,hg]) (by unfold iN; rw [hd,hg]; rfl)
  | some jw =>
   obtain ⟨j,want⟩:=jw
   cases hj:(ops[j]?).bind (·.dst) with
   | none=>right; unfold iN; rw [hd,hg]; simp only [hj]
   | some t =>
    cases vN:s.env t with
    | v d =>
     cases d with
     | pc τ b =>
      cases τ with
      | bool =>
       have PD:fC ops o s.env=some ((show Bool from b) == want):=by simp [fC,hg,hj,vN]
       have EN:setEnv s.env t (.v (.pc .bool b))=s.env:=qQ _ _ _ vN
       obtain hb | hb:(show Bool from b)=true\/(show Bool from b)=false:=by cases (show Bool from b) <;> simp
       ·have hb:b=true:=hb
        subst hb
        cases want with
        | true=>exact main { s with env:=setEnv s.env t (.v (.pc .bool true)) } EN rfl rfl rfl rfl PD (by unfold iN; rw [hd,hg]; simp only [hj,vN]; rfl)
        | false =>
         left
         refine ⟨{ s with env:=gz (setEnv s.env t (.v (.pc .bool true))) o.dst .un },⟨i,[],[],true⟩,?_,rfl,rfl,by unfold iN; rw [hd,hg]; simp only [hj,vN]; rfl⟩
         rw [jz hd PD]
         simp only [St.x,EN]
       ·have hb:b=false:=hb
        subst hb
        cases want with
        | false=>exact main { s with env:=setEnv s.env t (.v (.pc .bool false)) } EN rfl rfl rfl rfl PD (by unfold iN; rw [hd,hg]; simp only [hj,vN]; rfl)
        | true =>
         left
         refine ⟨{ s with env:=gz (setEnv s.env t (.v (.pc .bool false))) o.dst .un },⟨i,[],[],true⟩,?_,rfl,rfl,by unfold iN; rw [hd,hg]; simp only [hj,vN]; rfl⟩
         rw [jz hd PD]
         simp only [St.x,EN]
      | _=>right; unfold iN; rw [hd,hg]; simp only [hj,vN]
     | _=>right; unfold iN; rw [hd,hg]; simp only [hj,vN]
    | un =>
     left
     have PD:fC ops o s.env=some false:=by simp [fC,hg,hj,vN]
     refine ⟨{ s with env:=gz s.env o.dst .un },⟨i,[],[],true⟩,?_,rfl,rfl,by unfold iN; rw [hd,hg]; simp only [hj,vN]⟩
     rw [jz hd PD]
     rfl
    | _=>right; unfold iN; rw [hd,hg]; simp only [hj,vN]
theorem yG (hE:Env P E Γ G Fw) {Q:Exit->Act->World->Prop} {i base:Nat} {bw:List fu} {o:Oper} (ho:ops[i]? = some o) (DJ:∀ c,o.op ≠ .defer c) {x x':X} {fp:FP}
  (hs:iq P E Γ G.lo base N ops i o x=some (x',fp)) (h:SX P N G (x.st base bw) a w):wpOpIn Fw r P ops Q i (SX P N G (x'.st base bw)) a w:=by
 unfold iq at hs
 split at hs
 ·rename_i hd hg
  simp only [Option.map_eq_some_iff] at hs
  obtain ⟨e,he,hs⟩:=hs
  simp only [Prod.mk.injEq] at hs
  obtain ⟨rfl,rfl⟩:=hs
  have hw:Region.wanted o (yielded ops a.tmps)=true:=by
   unfold fC at hg
   split at hg
   ·rename_i hg'; simp [Region.wanted,hg']
   ·rename_i j want hg'
    split at hg
    ·cases hg
    ·rename_i t ht
     split at hg
     ·rename_i b hb
      rw [oh (s:=x.st base bw) h hg' ht hb]
      simpa using hg
     ·cases hg
     ·cases hg
  unfold wpOpIn
  simp only [ho,hw,if_true]
  unfold opY at he
  obtain ⟨ρ,S,F,h⟩:=h
  cases ht:KQ P Γ G.lo base o x.1 x.2.1 x.2.2 with
  | some t =>
   rw [ht] at he
   simp only [Option.map_eq_some_iff] at he
   obtain ⟨e0,he0,rfl⟩:=he
   have hall:=Tree.EP he0
   refine DQ (s:=x.st base bw) hE.wide hE.fns hE.gh h hd ht (fun r hr e=>?_) (fun e hr=>?_) (fun a' w' e hr he=>?_) (fun w' d e ch hr he=>?_)
   ·rw [(hall r).1 hr] at e; cases e
   ·have:=(hall _).1 hr; cases this
   ·have:=(hall _).1 hr
    cases this
    exact he
   ·have:=(hall _).1 hr; cases this
  | none =>
   rw [ht] at he
   simp only [Option.map_eq_some_iff] at he
   obtain ⟨e0,he0,rfl⟩:=he
   refine iV hE.wide (yE he0) (Oper.wp_mono (fun a' w' q=>?_) (DP (s:=x.st base bw) hE.fns hE.eq hE.key hE.gh h hd he0))
   obtain ⟨PC,ρ',S',F',q⟩:=q
   exact ⟨ρ',S',F',q.of_eq rfl rfl (by simp [St.er,X.st,PC,Sr]) rfl⟩
 ·rename_i hd hg
  cases hs
  have hw:Region.wanted o (yielded ops a.tmps)=false:=by
   unfold fC at hg
   split at hg
   ·cases hg
   ·rename_i j want hg'
    split at hg
    ·cases hg
    ·rename_i t ht
     split at hg
     ·rename_i b hb
      rw [oh (s:=x.st base bw) h hg' ht hb]
      simpa using hg
     ·rename_i hb
      exact qR (s:=x.st base bw) h hg' ht hb
     ·cases hg
  unfold wpOpIn
  simp only [ho,hw,Bool.false_eq_true,if_false]
  obtain ⟨ρ,S,F,h⟩:=h
  exact ⟨fun f _=>hE.wide.fn f,ρ,S,F,(h.Li hd).of_eq rfl rfl rfl rfl⟩
 ·cases hs
theorem val_congr {env env':Nat->Slot} {x:Operand} (h:∀ t,x = .tmp t->env' t=env t):val Γ env' x=val Γ env x:=by
 cases x with
 | tmp t=>exact h t rfl
 | _=>rfl
theorem Wd {o:Oper} {env env':Nat->Slot} (hl:∀ t,Operand.tmp t∈o.op.operands->env' t=env t):∀ x∈o.op.operands,val Γ env' x=val Γ env x:=fun x hx=>val_congr fun t ht=>hl t (ht ▸ hx)
theorem ady {lo base : Nat} {o : Oper} {env env' : Nat → Slot} {heap : Nat → bu} (hl : ∀ t, Operand.tmp t ∈ o.op.operands → env' t = env t) : vm P E Γ lo base o env' heap = vm P E Γ lo base o env heap := by
  have hv := Wd (Γ := Γ) hl
  obtain ⟨dst, op, type, pos, after, guard⟩ := o
  have pairs : ∀ ps : Array (Nat × Operand), (∀ x ∈ (ps.toList.map (·.2)).toArray, val Γ env' x = val Γ env x) →
      (ps.toList.map fun p => (p.1, val Γ env' p.2)) = (ps.toList.map fun p => (p.1, val Γ env p.2)) := fun ps hp =>
    List.map_congr_left fun p hm => by
      rw [hp p.2 (by simpa using ⟨p.1, Array.mem_toList_iff.1 hm⟩)]
  cases op <;> simp only [Op.operands] at hv <;> simp only [vm]
  case build t ps => rw [pairs ps hv]
  case buildSlice t n ps => rw [pairs ps hv]
  case slice t x l h m =>
    have hx : val Γ env' x = val Γ env x := hv x (by simp)
    have hl : l.map (val Γ env') = l.map (val Γ env) := by
      cases l with
      | none => rfl
      | some y => simp only [Option.map_some]; rw [hv y (by simp)]
    have hh : h.map (val Γ env') = h.map (val Γ env) := by
      cases h with
      | none => rfl
      | some y => simp only [Option.map_some]; rw [hv y (by simp)]
    rw [hx, hl, hh]
  case call c =>
    have hargs : ∀ x ∈ c.args, val Γ env' x = val Γ env x := fun x hx => hv x (by simp [Call.operands, hx])
    have hl : c.args.toList.map (val Γ env') = c.args.toList.map (val Γ env) := List.map_congr_left fun x hx => hargs x (by simpa using hx)
    cases hc : c.callee with
    | value f =>
      have hf : val Γ env' f = val Γ env f := hv f (by simp [Call.operands, hc])
      simp only [hl, hf]
    | invoke r m => rfl
    | builtin b =>
      cases b <;> first
        | rfl
        | (simp only
           split <;> first
             | (rename_i x y z u hx hy; rw [hargs x (by rw [← Array.mem_toList_iff, hx]; simp), hargs y (by rw [← Array.mem_toList_iff, hx]; simp)]; done)
             | (rename_i x y hx; rw [hargs x (by rw [← Array.mem_toList_iff, hx]; simp), hargs y (by rw [← Array.mem_toList_iff, hx]; simp)]; done)
             | (rename_i x hx; rw [hargs x (by rw [← Array.mem_toList_iff, hx]; simp)]; done)
             | rfl)
  case makeFunc fn first caps =>
    have h1 : first.toList.map (val Γ env') = first.toList.map (val Γ env) := List.map_congr_left fun x hx => hv x (by simp [Array.mem_toList_iff.1 hx])
    have h2 : caps.toList.map (val Γ env') = caps.toList.map (val Γ env) := List.map_congr_left fun x hx => hv x (by simp [Array.mem_toList_iff.1 hx])
    rw [h1, h2]
  all_goals (first | rfl | (simp_all; done) | skip)
theorem We {lo base:Nat} {o:Oper} {env env':Nat->Slot} {heap heap':Nat->bu} {tr CZ:Tr} (hl:∀ t,Operand.tmp t∈o.op.operands->env' t=env t) (h:KQ P Γ lo base o env heap tr=none):KQ P Γ lo base o env' heap' CZ=none:=by
 have hv:=Wd (Γ:=Γ) hl
 obtain ⟨dst,op,type,pos,after,guard⟩:=o
 cases op
 case call c =>
  have hargs:∀ x∈c.args,val Γ env' x=val Γ env x:=fun x hx=>hv x (by simp [Op.operands,Call.operands,hx])
  have hl:c.args.toList.map (val Γ env')=c.args.toList.map (val Γ env):=List.map_congr_left fun x hx=>hargs x (by simpa using hx)
  simp only [KQ] at h ⊢
  cases hc:c.callee with
  | value f =>
   have hf:val Γ env' f=val Γ env f:=hv f (by simp [Op.operands,Call.operands,hc])
   rw [hc] at h
   simp only [hl,hf] at h ⊢
   split at h
   ·unfold AT at h ⊢
    split at h
    ·split at h
     ·cases h
     ·rename_i hne
      rfl
    ·rename_i hnf
     split at h
     ·split at h
      ·cases h
      ·rename_i hne
       rfl
     ·split at h
      ·cases h
      ·rename_i hne
       rfl
     ·cases h
     ·rfl
   ·rfl
  | invoke r m=>rfl
  | builtin b=>rfl
 case panic x =>
  have hx:val Γ env' x=val Γ env x:=hv x (by simp [Op.operands])
  simp only [KQ] at h ⊢
  rw [hx]
  exact h
 case binOp op t x y yt =>
  simp only [KQ] at h ⊢
  split at h
  ·cases h
  ·cases h
  ·rfl
 all_goals rfl
theorem eD {b:Bool} {x y:Br} {e:mV} (h:(Br.br b x y).run id=some e):(b=true/\x.run id=some e)\/(b=false/\y.run id=some e):=by
 cases b
 ·exact .inr ⟨rfl,h⟩
 ·exact .inl ⟨rfl,h⟩
theorem nh {t:TypeId} {ds:List DC} {o:Nat} {rh:List Nat} {e:mV} (h:(viewAt P t ds o rh).run id=some e):e.rh=rh:=by
 unfold viewAt at h
 split at h
 case h_2=>cases h
 split at h
 ·rcases eD h with ⟨_,hx⟩ | ⟨_,hx⟩
  ·cases hx; rfl
  ·cases hx
 ·rcases eD h with ⟨_,hx⟩ | ⟨_,hx⟩
  ·cases hx; rfl
  ·cases hx
 ·cases h
theorem IL {rw:Bool} {lo bJ:Nat} {heap heap':Nat->bu} {T:TypeId} {s x:Slot} {e:mV} (h:(sg P rw lo bJ heap T s x).run id=some e) (hh:∀ i∈e.rh,heap' i=heap i) :
  (sg P rw lo bJ heap' T s x).run id=some e:=by
 unfold sg at h ⊢
 split at h
 case h_2=>cases h
 split at h
 case h_2=>cases h
 split at h
 ·rename_i hc
  split at h
  case h_2=>cases h
  rename_i hn
  rcases eD h with ⟨hb,hx⟩ | ⟨_,hx⟩
  ·have hrh:bJ∈e.rh:=by cases rw <;> (cases hx; simp)
   rw [hh bJ hrh,hn]
   exact h
  ·cases hx
 ·rename_i id bG e' r hc
  split at h
  case h_2=>cases h
  rename_i Ld E' k n r' ho hcast
  split at h
  case h_2=>cases h
  rename_i zm
  rcases eD h with ⟨hb,hx⟩ | ⟨_,hx⟩
  ·cases hx
   rw [hh id (by simp),ho,hcast]
   simp only [zm]
   exact h
  ·cases hx
 ·rename_i id bG hc
  split at h
  case h_2=>cases h
  rename_i Ld E' e' r ho
  split at h
  case h_2=>cases h
  rename_i r' hcast
  split at h
  case h_2=>cases h
  rename_i zm
  rcases eD h with ⟨hb,hx⟩ | ⟨_,hx⟩
  ·cases hx
   rw [hh id (by simp),ho]
   simp only [hcast,zm]
   exact h
  ·cases hx
 ·cases h
theorem ug {heap heap':Nat->bu}:∀ {l:List Slot},(∀ i∈xw l,heap' i=heap i)->l.map (qk heap')=l.map (qk heap)
 | [],_=>rfl
 | sl :: r,h=>by
  have ih:r.map (qk heap')=r.map (qk heap):=ug fun i hi=>h i (by
   unfold xw
   split
   ·rename_i q; cases q
   ·rename_i q; injection q with q1 q2; subst q2; exact .tail _ hi
   ·rename_i q; injection q with q1 q2; subst q2; exact hi)
  rw [List.map_cons,List.map_cons,ih]
  congr 1
  unfold qk
  split
  ·rename_i id bG i n
   rw [h id (.head _)]
  ·rfl
theorem Wf {lo base:Nat} {o:Oper} {env:Nat->Slot} {heap heap':Nat->bu} {e:mV} (h:(vm P E Γ lo base o env heap).run id=some e) (hh:∀ i∈e.rh,heap' i=heap i) :
  (vm P E Γ lo base o env heap').run id=some e:=by
 obtain ⟨dst,op,type,pos,after,guard⟩:=o
 cases op
 case box t x =>
  simp only [vm] at h ⊢
  split at h
  case h_2=>cases h
  rename_i cs h1 h2 h3
  cases h
  rw [hh _ (by simp),h1,h2,h3]; rfl
 case alloc t =>
  simp only [vm] at h ⊢
  split at h
  case h_2=>cases h
  rename_i cs h1 h2 h3
  cases h
  rw [hh _ (by simp),h1,h2,h3]; rfl
 case load t x =>
  simp only [vm,Vy] at h ⊢
  split at h
  ·rename_i id off hx
   split at h
   case h_2=>cases h
   rename_i ds ho
   have h1:=nh h
   rw [hh id (by rw [h1]; simp),ho]
   exact h
  ·rename_i id off hx
   split at h
   case h_2=>cases h
   rename_i ds ho
   have h1:=nh h
   rw [hh id (by rw [h1]; simp),ho]
   exact h
  ·rename_i id bG i off hx
   split at h
   case h_2=>cases h
   rename_i cur T el sl ho
   split at h
   case h_2=>cases h
   rename_i td
   have h1:=nh h
   rw [hh id (by rw [h1]; simp),ho]
   simp only [td]
   exact h
  ·rename_i id i hx
   split at h
   case h_2=>cases h
   rename_i cur T el d ho
   have h1:=nh h
   rw [hh id (by rw [h1]; simp),ho]
   exact h
  ·rename_i id bG i j off hx
   split at h
   case h_2=>cases h
   rename_i cur T el d ho
   split at h
   case h_2=>cases h
   rename_i td
   have h1:=nh h
   rw [hh id (by rw [h1]; simp),ho]
   simp only [td]
   exact h
  ·exact h
  ·cases h
 case store t x y =>
  simp only [vm] at h ⊢
  split at h
  case h_2=>cases h
  rename_i cs hcs
  unfold Le at h ⊢
  split at h
  ·rename_i id off hx
   split at h
   case h_2=>cases h
   rename_i ds n ho hn
   rcases eD h with ⟨hb,lP⟩ | ⟨_,lP⟩
   ·cases lP
    rw [hh id (by simp),ho,hn]
    exact h
   ·cases lP
  ·rename_i id off hx
   split at h
   case h_2=>cases h
   rename_i ds n ho hn
   rcases eD h with ⟨hb,lP⟩ | ⟨_,lP⟩
   ·cases lP
    rw [hh id (by simp),ho,hn]
    exact h
   ·cases lP
  ·rename_i id bG i off hx
   split at h
   case h_2=>cases h
   rename_i cur T el sl n ho hn
   split at h
   case h_2=>cases h
   rename_i x' hx'
   rcases eD h with ⟨hb,lP⟩ | ⟨_,lP⟩
   ·cases lP
    rw [hh id (by simp),ho,hn]
    simp only [hx']
    exact h
   ·cases lP
  ·rename_i id bG i j off hx
   split at h
   case h_2=>cases h
   rename_i cur T el sl n ho hn
   split at h
   case h_2=>cases h
   rename_i x' hx'
   rcases eD h with ⟨hb,lP⟩ | ⟨_,lP⟩
   ·cases lP
    rw [hh id (by simp),ho,hn]
    simp only [hx']
    exact h
   ·cases lP
  ·rename_i id i hx
   split at h
   case h_2=>cases h
   rename_i tS bG cur T el d n ho hn
   split at h
   case h_2=>cases h
   rename_i Sq T2 e2 s2 Bm
   split at h
   case h_2=>cases h
   rename_i s3 hcast zm
   have hrh:e.rh=[id,tS]:=by cases h; rfl
   rw [hh id (by rw [hrh]; simp),ho,hn]
   simp only
   rw [hh tS (by rw [hrh]; simp),Bm]
   simp only [hcast,zm]
   exact h
  ·cases h
 case indexAddr t x i =>
  simp only [vm,nN] at h ⊢
  split at h
  case h_2=>cases h
  split at h
  ·split at h
   ·rename_i id bG hidx
    split at h
    case h_2=>cases h
    rename_i cur T τ sl k ho hk
    split at h
    case h_2=>cases h
    rename_i hkc
    rcases eD h with ⟨hb,lP⟩ | ⟨_,lP⟩
    ·cases lP
     rw [hh id (by simp),ho,hk]
     simp only [hkc]
     exact h
    ·cases lP
   ·rename_i id hidx
    split at h
    case h_2=>cases h
    rename_i cur T τ d k ho hk
    split at h
    case h_2=>cases h
    rename_i hkc
    rcases eD h with ⟨hb,lP⟩ | ⟨_,lP⟩
    ·cases lP
     rw [hh id (by simp),ho,hk]
     simp only [hkc]
     exact h
    ·cases lP
   ·rename_i id bG i m hidx
    split at h
    case h_2=>cases h
    rename_i cur T τ d k ho hk
    split at h
    case h_2=>cases h
    rename_i hkc
    rcases eD h with ⟨hb,lP⟩ | ⟨_,lP⟩
    ·cases lP
     rw [hh id (by simp),ho,hk]
     simp only [hkc]
     exact h
    ·cases lP
   ·exact h
  ·exact h
  ·cases h
 case slice t x l hi m =>
  simp only [vm] at h ⊢
  split at h
  case h_2=>exact h
  split at h
  case h_2=>exact h
  rename_i id bG i n hx
  unfold sn at h ⊢
  split at h
  case h_2=>cases h
  rename_i el k b cur T τ d h1 h2 h3 h4
  split at h
  case h_2=>cases h
  rename_i sz h5 h6
  rcases eD h with ⟨hb,lP⟩ | ⟨_,lP⟩
  ·cases lP
   rw [hh id (by simp),h1,h2,h3,h4]
   simp only [h5,h6]
   exact h
  ·cases lP
 case buildSlice t n ps =>
  simp only [vm] at h ⊢
  split at h
  case h_2=>cases h
  rename_i h1 h2
  have hrh:e.rh=[base + dst.getD 0]:=by
   unfold lT at h
   repeat' (first | (cases h; rfl) | (cases h; done) | split at h)
  rw [hh _ (by rw [hrh]; simp),h1,h2]
  exact h
 case makeSlice t l c =>
  simp only [vm,nO] at h ⊢
  split at h
  case h_2=>cases h
  rename_i hlo
  split at h
  case h_2=>cases h
  rename_i el n h1 h2 h3 h4
  split at h
  case h_2=>cases h
  rename_i i cs h5 h6
  split at h
  case h_2 =>
   rename_i h7
   have hrh:e.rh=[base + dst.getD 0]:=by
    unfold sk at h
    split at h
    case h_2=>cases h
    split at h
    case h_2=>cases h
    split at h
    case h_2=>cases h
    rcases eD h with ⟨hb,lP⟩ | ⟨_,lP⟩ <;> cases lP
    rfl
   rw [hh _ (by rw [hrh]; simp),h1,h2,h3,h4]
   simp only [h5,h6,h7]
   exact h
  rename_i τ h7
  split at h
  case h_2=>cases h
  rename_i z h8
  split at h
  case h_2=>cases h
  rename_i h9
  rcases eD h with ⟨hb,lP⟩ | ⟨_,lP⟩
  ·cases lP
   rw [hh _ (by simp),h1,h2,h3,h4]
   simp only [h5,h6,h7,h8,h9]
   exact h
  ·cases lP
 case makeMap t r =>
  simp only [vm,vw] at h ⊢
  split at h
  case h_2=>cases h
  split at h
  case h_2=>cases h
  rename_i kt vt h1 h2
  split at h
  case h_2=>cases h
  rename_i k v h3 h4
  split at h
  case h_2=>cases h
  rename_i h5
  cases h
  rw [hh _ (by simp),h1,h2]
  simp only [h3,h4,h5]
  rfl
 case lookup t x i ok =>
  simp only [vm,zM] at h ⊢
  split at h
  case h_2=>cases h
  split at h
  case h_2=>cases h
  split at h
  case h_2=>cases h
  split at h
  ·rename_i id hidx
   split at h
   case h_2=>cases h
   rename_i k' v' m ho
   split at h
   case h_2=>cases h
   rename_i m' hm
   cases h
   rw [hh id (by simp),ho]
   simp only [hm]
   rfl
  ·exact h
  ·cases h
 case mapUpdate t x i y =>
  simp only [vm,nP] at h ⊢
  split at h
  case h_2=>cases h
  split at h
  case h_2=>cases h
  rename_i k v id h1 h2 h3 h4
  split at h
  case h_2=>cases h
  rename_i k' v' m ho
  split at h
  case h_2=>cases h
  rename_i m' key val q1 q2 q3 q4
  cases h
  rw [hh id (by simp),ho]
  simp only [q1,q2,q3,q4]
  rfl
 case call c =>
  obtain ⟨callee,args,argTypes⟩:=c
  cases callee with
  | builtin b =>
   cases b
   case append =>
    simp only [vm] at h ⊢
    split at h
    case h_2=>cases h
    split at h
    case h_2=>cases h
    exact IL h hh
   case len =>
    simp only [vm] at h ⊢
    split at h
    case h_2=>cases h
    split at h
    case h_2=>cases h
    split at h
    case h_2=>cases h
    unfold alp at h ⊢
    split at h
    ·exact h
    ·rename_i id bG hidx
     split at h
     case h_2=>cases h
     rename_i cur T el sl ho
     split at h
     case h_2=>cases h
     rename_i td
     cases h
     rw [hh id (by simp),ho]
     simp only [td]; rfl
    ·rename_i id hidx
     split at h
     case h_2=>cases h
     rename_i cur T el d ho
     cases h
     rw [hh id (by simp),ho]
     rfl
    ·rename_i id bG i n hidx
     split at h
     case h_2=>cases h
     rename_i cur T el d ho
     split at h
     case h_2=>cases h
     rename_i td
     cases h
     rw [hh id (by simp),ho]
     simp only [td]; rfl
    ·exact h
   all_goals exact h
  | value x =>
   simp only [vm] at h ⊢
   cases x with
   | func f =>
    simp only [AS] at h ⊢
    cases hf:Γ f with
    | none=>rw [hf] at h; exact h
    | some en =>
     rw [hf] at h
     cases en with
     | row w n τa T e R =>
      simp only at h ⊢
      split at h
      ·split at h
       ·unfold AR at h ⊢
        split at h
        case h_2=>cases h
        rename_i x0 τh R0 hpn hargs hno
        split at h
        case h_2=>cases h
        rename_i τy y0 hle
        split at h
        case h_2=>cases h
        rename_i y hcast
        rcases eD h with ⟨hb,lP⟩ | ⟨_,lP⟩
        ·cases lP
         have hl:=ug (heap:=heap) (heap':=heap') (l:=args.toList.map (val Γ env)) (fun i hi=>hh i (.tail _ hi))
         have hh0:=hh _ (List.Mem.head _)
         rw [hargs] at hl hpn h ⊢
         have hl:qk heap' x0=qk heap x0:=by simpa using hl
         simp only [hpn,hl,hle,hcast,hh0,hno]
         exact h
        ·cases lP
       unfold AQ at h ⊢
       split at h
       case h_2=>cases h
       rename_i y h1 h2 h3
       simp only [Br.run,er,bad] at h
       cases hs:(R y).isSome with
       | false=>simp only [hs,cond_false] at h; cases h
       | true =>
        simp only [hs,cond_true,id] at h
        cases h
        rw [hh _ (by simp),h3]
        simp only [h1,h2,hs,Br.run,er,cond_true,id]
      ·cases h
     | loc ids app =>
      simp only at h ⊢
      split at h
      ·have hfx:=(Br.zI h).1
       unfold Vv at h ⊢
       have hm:∀ i0,(∀ i∈i0 :: ids (args.toList.map (val Γ env)),heap' i=heap i)->(i0 :: ids (args.toList.map (val Γ env))).map heap'=(i0 :: ids (args.toList.map (val Γ env))).map heap:=fun i0 hi=>List.map_congr_left hi
       rw [hm _ (by rw [<- hfx]; exact hh)]
       exact h
      ·cases h
     | pure cc =>
      simp only at h ⊢
      split at h
      ·unfold Vz at h ⊢
       split at h
       case h_2=>cases h
       rename_i y h1 h2
       rcases eD h with ⟨hb,lP⟩ | ⟨_,lP⟩
       ·cases lP
        rw [ug (heap:=heap) hh]
        simp only [h1,h2]
        exact h
       ·cases lP
      ·exact h
     | _=>exact h
   | _=>exact h
  | invoke r m=>cases h
 all_goals exact h
theorem tf {o:Oper} {env env':Nat->Slot} {b:Bool} (h:fC ops o env=some b) (hl:∀ t,t∈o.looksAt ops->env' t=env t):fC ops o env'=some b:=by
 unfold fC at h ⊢
 cases hg:o.guard with
 | none=>rw [hg] at h; exact h
 | some jw =>
  obtain ⟨j,want⟩:=jw
  rw [hg] at h
  simp only at h ⊢
  cases ht:(ops[j]?).bind (·.dst) with
  | none=>rw [ht] at h; cases h
  | some t =>
   rw [ht] at h
   simp only at h ⊢
   rw [hl t (List.mem_append_right _ (by rw [hg]; simp only [ht]; simp))]
   exact h
theorem yH {lo base i:Nat} {o:Oper} {x y:X} {fp:FP} (h:iq P E Γ lo base N ops i o x=some (y,fp)) (alY:fp.loc=true) :
  ∃ sl hw,y=(gz x.1 o.dst sl,cE x.2.1 hw,x.2.2)/\fp.wh=hw.map (·.1)/\∀ x':X,(∀ t,t∈o.looksAt ops->x'.1 t=x.1 t)->(∀ i∈fp.rh,x'.2.1 i=x.2.1 i) ->
   iq P E Γ lo base N ops i o x'=some ((gz x'.1 o.dst sl,cE x'.2.1 hw,x'.2.2),fp):=by
 cases hd:o.dst.all (Nat.blt · N) with
 | false=>unfold iq at h; rw [hd] at h; cases h
 | true =>
  cases hg:fC ops o x.1 with
  | none=>unfold iq at h; rw [hd,hg] at h; cases h
  | some b =>
   cases b with
   | true =>
    rw [uf hd hg] at h
    simp only [Option.map_eq_some_iff] at h
    obtain ⟨⟨e,l⟩,he,hy⟩:=h
    simp only [Prod.mk.injEq] at hy
    obtain ⟨rfl,rfl⟩:=hy
    have alY:l=true:=alY
    subst alY
    unfold opY at he
    have ht:KQ P Γ lo base o x.1 x.2.1 x.2.2=none:=by
     cases ht:KQ P Γ lo base o x.1 x.2.1 x.2.2 with
     | none=>rfl
     | some t =>
      rw [ht] at he
      simp only [Option.map_eq_some_iff] at he
      obtain ⟨e',_,q⟩:=he
      cases q
    rw [ht] at he
    simp only [Option.map_eq_some_iff] at he
    obtain ⟨e',he,q⟩:=he
    cases q
    refine ⟨_,_,rfl,rfl,fun x' h1 h2=>?_⟩
    have avF:∀ t,Operand.tmp t∈o.op.operands->x'.1 t=x.1 t:=fun t ht=>h1 t (List.mem_append_left _ (List.mem_filterMap.2 ⟨.tmp t,by simpa using ht,rfl⟩))
    rw [uf hd (tf hg h1)]
    unfold opY
    rw [We avF ht]
    simp only
    rw [ady (env:=x.1) avF,Wf he h2]
    rfl
   | false =>
    rw [jz hd hg] at h
    cases h
    refine ⟨.un,[],rfl,rfl,fun x' h1 h2=>?_⟩
    rw [jz hd (tf hg h1)]
    rfl
theorem fY {env:Nat->Slot} {d:Option Nat} {sl:Slot} {t:Nat} (h:d≠some t):gz env d sl t=env t:=by
 cases d with
 | none=>rfl
 | some d=>simp only [gz,setEnv]; rw [bF (fun e=>h (by rw [e]))]; rfl
theorem gL:∀ {hw:List (Nat×bu)} {heap:Nat->bu} {i:Nat},i ∉ hw.map (·.1)->cE heap hw i=heap i
 | [],_,_,_=>rfl
 | (j,o) :: hw,heap,i,h=>by
  simp only [List.map_cons,List.mem_cons,not_or] at h
  rw [cE,gL h.2]
  simp only [aE,bF h.1,cond_false]
theorem SJ {env:Nat->Slot} {d d':Option Nat} {sl sl':Slot} (h:∀ t,d=some t->d'≠some t):gz (gz env d sl) d' sl'=gz (gz env d' sl') d sl:=by
 funext t
 by_cases h1:d=some t
 ·have h2:=h t h1
  rw [fY h2]
  subst h1
  simp [gz,setEnv]
 ·by_cases h2:d'=some t
  ·rw [fY (env:=gz env d' sl') h1]
   subst h2
   simp [gz,setEnv]
  ·rw [fY h2,fY h1,fY h1,fY h2]
theorem xF:∀ {hw:List (Nat×bu)} {heap heap':Nat->bu} {i:Nat},heap i=heap' i->cE heap hw i=cE heap' hw i
 | [],_,_,_,h=>h
 | (j,o) :: hw,heap,heap',i,h=>by
  rw [cE,cE]
  refine xF ?_
  simp only [aE]
  cases Nat.beq i j <;> simp [h]
theorem SK {heap:Nat->bu} {hw tg:List (Nat×bu)} (h:∀ i,i∈hw.map (·.1)->i ∉ tg.map (·.1)):cE (cE heap hw) tg=cE (cE heap tg) hw:=by
 funext i
 by_cases h1:i∈hw.map (·.1)
 ·rw [gL (h i h1)]
  exact xF (gL (h i h1)).symm
 ·rw [gL (heap:=cE heap tg) h1]
  exact xF (gL h1)
theorem qS {a b:List Nat} (h:meets a b=false):∀ i,i∈a->i ∉ b:=fun i hi hb=>by
 have:meets a b=true:=List.any_eq_true.2 ⟨i,hi,List.any_eq_true.2 ⟨i,hb,Nat.beq_refl i⟩⟩
 rw [h] at this; cases this
theorem Lv {lo base i j:Nat} {oi oj:Oper} {x x1 x2:X} {fi fj:FP} (h1:iq P E Γ lo base N ops i oi x=some (x1,fi)) (h2:iq P E Γ lo base N ops j oj x1=some (x2,fj)) (nY:fi.loc=true) (Vh:fj.loc=true)
  (ha:oi.apart ops oj=true) (hb:oj.apart ops oi=true) (hi:EB fi fj=true) :
  ∃ y,iq P E Γ lo base N ops j oj x=some (y,fj)/\iq P E Γ lo base N ops i oi y=some (x2,fi):=by
 obtain ⟨sl1,hw1,rfl,w1,l1⟩:=yH h1 nY
 obtain ⟨sl2,hw2,rfl,w2,l2⟩:=yH h2 Vh
 obtain ⟨a1,a2,a3⟩:=Oper.apart_spec ha
 simp only [EB,Bool.and_eq_true,Bool.not_eq_true'] at hi
 obtain ⟨⟨i1,i2⟩,i3⟩:=hi
 have i1:=qS i1
 have i2:=qS i2
 have i3:=qS i3
 rw [w1] at i1 i3
 rw [w2] at i2 i3
 have q:=l2 x (fun t ht=>(fY (fun e=>a1 t e ht)).symm) (fun k hk=>(gL (fun e=>i1 k e hk)).symm)
 refine ⟨_,q,?_⟩
 have q2:=l1 (gz x.1 oj.dst sl2,cE x.2.1 hw2,x.2.2) (fun t ht=>fY (fun e=>a3 t e ht)) (fun k hk=>gL (fun e=>i2 k e hk))
 rw [q2]
 simp only
 rw [SJ (fun t ht=>(a2 t ht)),SK i3]
end Go.Dm
namespace Go.Dm
open Go.RowKit
variable {P:Program} {N:Nat} {G:Gh} {S S':CS} {w w':World} {s:St} {a:Act} {ρ ρ':fA} {F F':Nat->Prop} {heap heap':Nat->bu} {Y:Value} {E:cg} {Γ:Ctx} {Fw:Fence} {r:Nat} {ops:Array Oper} {lo base:Nat} {bw:List fu}
def SL (P:Program) (E:cg) (Γ:Ctx) (lo base N:Nat) (ops:Array Oper):List FP->X->X->Prop
 | [],x,y=>x=y
 | f :: l,x,y=>∃ o x1,ops[f.i]? = some o/\iq P E Γ lo base N ops f.i o x=some (x1,f)/\SL P E Γ lo base N ops l x1 y
theorem adz {i:Nat} {o:Oper} {x y:X} {fp:FP} (h:iq P E Γ lo base N ops i o x=some (y,fp)):fp.i=i:=by
 unfold iq at h
 split at h
 ·simp only [Option.map_eq_some_iff] at h
  obtain ⟨e,_,h⟩:=h
  cases h; rfl
 ·cases h; rfl
 ·cases h
theorem ni {β:Type} {K:Option (St×List FP)->β}:∀ {l:List Oper} {i:Nat} {log:List FP} {s:St},(∀ j o,l[j]? = some o->ops[i + j]? = some o) ->
  (∃ s' ER,SL P E Γ lo s.base N ops ER s.x s'.x/\s'.base=s.base/\s'.bw=s.bw/\ER.map (·.i)=List.range' i l.length/\tU P E Γ lo N ops l i log s K=K (some (s',ER.reverse ++ log)))\/tU P E Γ lo N ops l i log s K=K none
 | [],i,log,s,_=>.inl ⟨s,[],rfl,rfl,rfl,rfl,rfl⟩
 | o :: l,i,log,s,h=>by
  have h0:ops[i]? = some o:=by simpa using h 0 o (by simp)
  let K':Option (St×FP)->β:=fun
   | some (s',fp)=>tU P E Γ lo N ops l (i + 1) (fp :: log) s' K
   | none=>K none
  have hK:tU P E Γ lo N ops (o :: l) i log s K=iN P E Γ lo N ops i o s K':=rfl
  rcases Lu (P:=P) (E:=E) (Γ:=Γ) (N:=N) (ops:=ops) (lo:=lo) i o s K' with ⟨s',fp,h1,hb,hd,h2⟩ | h2
  ·have hi:fp.i=i:=adz h1
   rcases ni (K:=K) (l:=l) (i:=i + 1) (log:=fp :: log) (s:=s') (fun j o' hj=>by have:=h (j + 1) o' (by simpa using hj); simpa [Nat.add_assoc,Nat.add_comm 1 j] using this) with ⟨s2,ER,q1,qb,qd,q2,q3⟩ | q
   ·refine .inl ⟨s2,fp :: ER,⟨o,s'.x,by rw [hi]; exact h0,by rw [hi]; exact h1,by rw [hb] at q1; exact q1⟩,qb.trans hb,qd.trans hd,?_,?_⟩
    ·simp [hi,q2,List.range'_succ]
    ·refine (hK.trans h2).trans (q3.trans ?_)
     simp
   ·exact .inr ((hK.trans h2).trans q)
  ·exact .inr (hK.trans h2)
theorem uh {g:FP} {y:X} {l2:List FP}:∀ {l1:List FP} {x:X},SL P E Γ lo base N ops (l1 ++ g :: l2) x y ->
  (∀ f∈l1,∃ of og,ops[f.i]? = some of/\ops[g.i]? = some og/\f.loc=true/\g.loc=true/\of.apart ops og=true/\og.apart ops of=true/\EB f g=true) ->
  SL P E Γ lo base N ops (g :: l1 ++ l2) x y
 | [],x,h,_=>h
 | f :: l1,x,h,hf=>by
  obtain ⟨o,x1,h1,h2,h3⟩:=h
  have ih:=uh h3 (fun f hm=>hf f (List.mem_cons_of_mem _ hm))
  obtain ⟨og,x2,g1,g2,g3⟩:=ih
  obtain ⟨of,og',e1,e2,l1',l2',e3,e4,e5⟩:=hf f (List.mem_cons_self ..)
  rw [h1] at e1; cases e1
  rw [g1] at e2; cases e2
  obtain ⟨z,z1,z2⟩:=Lv h2 g2 l1' l2' e3 e4 e5
  exact ⟨og,z,g1,z1,o,x2,h1,z2,g3⟩
theorem iu (h:eC ops=true) {i:Nat} {o:Oper} (ho:ops[i]? = some o):∀ e∈o.after,Region.binds .any e=true->e.on < i:=fun e he hb=>by
 unfold eC at h
 rw [List.all_eq_true] at h
 have hm:(o,i)∈ops.toList.zipIdx:=by
  rw [List.mem_zipIdx_iff_getElem?]; simpa using ho
 have:=h _ hm
 rw [List.all_eq_true] at this
 have:=this e (by simpa using he)
 simpa [hb] using this
def qT (ops:Array Oper) (listed:Array Bool):Prop:=∀ i o,ops[i]? = some o->listed.getD i false=true->∀ e∈o.after,Region.binds .any e=true->listed.getD e.on false=true
theorem eJ {listed:Array Bool} (hc:qT ops listed):∀ (n j i:Nat),dH ops n j i=true->(∀ o,ops[j]? = some o->∀ e∈o.after,Region.binds .any e=true->listed.getD e.on false=true)->listed.getD i false=true
 | 0,_,_,h,_=>by cases h
 | n + 1,j,i,h,hj=>by
  unfold dH at h
  split at h
  ·rename_i o ho
   rw [List.any_eq_true] at h
   obtain ⟨e,he,h⟩:=h
   simp only [Bool.and_eq_true,Bool.or_eq_true] at h
   have hl:=hj o ho e (by simpa using he) h.1
   rcases h.2 with q | q
   ·have:=Nat.eq_of_beq_eq_true q
    rw [<- this]; exact hl
   ·exact eJ hc n e.on i q (fun o' ho'=>hc e.on o' ho' hl)
  ·cases h
theorem jK (hE:Env P E Γ G Fw) (DJ:∀ (i:Nat) (o:Oper),ops[i]? = some o->∀ c,o.op ≠ .defer c) (hed:eC ops=true) {Q:Exit->Act->World->Prop} {y:X} (hQ:∀ a w,SX P N G (y.st base bw) a w->Q .normal a w) :
  ∀ (n:Nat) {l:List FP} {listed:Array Bool} {x:X} {a:Act} {w:World},l.length=n->(l.map (·.i)).Pairwise (· < ·)->(∀ f∈l,f.i < ops.size)->(∀ i,i < ops.size->(listed.getD i true=false↔i∈l.map (·.i)))->listed.size=ops.size->qT ops listed ->
   l.Pairwise (fun f g=>qG ops g f=true)->SL P E Γ G.lo base N ops l x y->SX P N G (x.st base bw) a w->wpAnyIn Fw r P .any ops Q n listed a w
 | 0,l,listed,x,a,w,hl,hs,hb,hu,hsz,gY,hp,hr,hx=>by
  have:l=[]:=List.eq_nil_of_length_eq_zero hl
  subst this
  cases hr
  refine ⟨?_,hQ _ _ hx⟩
  refine List.eq_nil_iff_forall_not_mem.2 fun i hi=>?_
  obtain ⟨h1,o,h2,_⟩:=mem_ready.1 hi
  have:=(hu i (Array.getElem?_eq_some_iff.1 h2).1).1 h1
  cases this
 | n + 1,l,listed,x,a,w,hl,hs,hb,hu,hsz,gY,hp,hr,hx=>by
  have Bu:∀ i,i < ops.size->i ∉ l.map (·.i)->listed.getD i false=true:=fun i hi hn=>by
   have h1:¬ listed.getD i true=false:=fun e=>hn ((hu i hi).1 e)
   have hlt:i < listed.size:=by omega
   simp [Array.getD_eq_getD_getElem?,hlt] at h1 ⊢
   exact h1
  refine ⟨fun h0=>?_,fun i hi=>?_⟩
  ·exfalso
   cases l with
   | nil=>cases hl
   | cons f l =>
    have hf:f.i < ops.size:=hb f (List.mem_cons_self ..)
    have:f.i∈Region.ready .any ops listed:=mem_ready.2 ⟨(hu _ hf).2 (by simp),ops[f.i],Array.getElem?_eq_getElem hf,fun e he hbd=>by
     have hlt:=iu hed (Array.getElem?_eq_getElem hf) e he hbd
     refine Bu e.on (by omega) fun hm=>?_
     rw [List.map_cons,List.pairwise_cons] at hs
     rw [List.map_cons,List.mem_cons] at hm
     rcases hm with hm | hm
     ·omega
     ·have:=hs.1 _ hm; omega⟩
    rw [h0] at this; cases this
  ·obtain ⟨h1,o,h2,h3⟩:=mem_ready.1 hi
   have him:=(hu i (Array.getElem?_eq_some_iff.1 h2).1).1 h1
   obtain ⟨g,hg,rfl⟩:=List.mem_map.1 him
   obtain ⟨l1,l2,rfl⟩:=List.append_of_mem hg
   have hr':=uh hr (fun f hf=>by
    have hpf:qG ops g f=true:=by
     rw [List.pairwise_append] at hp
     exact hp.2.2 f hf g (List.mem_cons_self ..)
    unfold qG at hpf
    rw [h2] at hpf
    have Sz:f.i < ops.size:=hb f (by simp [hf])
    rw [Array.getElem?_eq_getElem Sz] at hpf
    simp only at hpf
    have hw:dH ops ops.size g.i f.i=false:=by
     cases hq:dH ops ops.size g.i f.i with
     | false=>rfl
     | true =>
      have:=eJ gY _ _ _ hq (fun o' ho' e he hbd=>by rw [h2] at ho'; cases ho'; exact h3 e he hbd)
      have h4:=(hu f.i Sz).2 (by simp only [List.map_append,List.mem_append]; exact .inl (List.mem_map.2 ⟨f,hf,rfl⟩))
      have hlt:f.i < listed.size:=by omega
      simp [Array.getD_eq_getD_getElem?,hlt] at this h4
      rw [this] at h4; cases h4
    rw [hw] at hpf
    simp only [Bool.or_false,Bool.and_eq_true] at hpf
    exact ⟨_,o,Array.getElem?_eq_getElem Sz,h2,hpf.1.2,hpf.1.1,hpf.2.1.1,hpf.2.1.2,hpf.2.2⟩)
   obtain ⟨o',x1,q1,q2,q3⟩:=hr'
   rw [h2] at q1; cases q1
   refine wpOpIn_mono (fun a' w' hx'=>?_) (yG hE h2 (DJ _ _ h2) q2 hx)
   have hsub:(l1 ++ l2).Sublist (l1 ++ g :: l2):=List.Sublist.append_left (List.sublist_cons_self _ _) _
   refine jK hE DJ hed hQ n (l:=l1 ++ l2) (by simp at hl ⊢; omega) (hs.sublist (hsub.map _)) (fun f hf=>hb f (hsub.subset hf)) (fun i hi'=>?_) (by simpa using hsz) ?_ (hp.sublist hsub) q3 hx'
   ·have hgn:g.i ∉ (l1 ++ l2).map (·.i):=by
     have:=hs.imp (fun {a b} (h:a < b)=>Nat.ne_of_lt h)
     rw [List.map_append,List.map_cons,List.pairwise_append,List.pairwise_cons] at this
     rw [List.map_append,List.mem_append]
     rintro (hm | hm)
     ·exact this.2.2 _ hm _ (List.mem_cons_self ..) rfl
     ·exact this.2.1.1 _ hm rfl
    by_cases hig:g.i=i
    ·subst hig
     have hlt:g.i < listed.size:=by omega
     simp only [hgn,iff_false]
     simp [Array.getD_eq_getD_getElem?,hlt]
    ·rw [getD_set_ne true hig,hu i hi']
     simp only [List.map_append,List.map_cons,List.mem_append,List.mem_cons]
     constructor
     ·rintro (h | h | h)
      ·exact .inl h
      ·exact absurd h.symm hig
      ·exact .inr h
     ·rintro (h | h)
      ·exact .inl h
      ·exact .inr (.inr h)
   ·intro i' o' ho' nY e he hbd
    have keep:∀ k,listed.getD k false=true->(listed.setIfInBounds g.i true).getD k false=true:=fun k hk=>by
     by_cases Vm:g.i=k
     ·subst Vm
      have hgs:g.i < listed.size:=by
       rw [hsz]; exact (Array.getElem?_eq_some_iff.1 h2).1
      simp [Array.getD_eq_getD_getElem?,hgs]
     ·rw [getD_set_ne false Vm]; exact hk
    by_cases Lw:g.i=i'
    ·subst Lw
     rw [h2] at ho'; cases ho'
     exact keep _ (h3 e he hbd)
    ·rw [getD_set_ne false Lw] at nY
     exact keep _ (gY i' o' ho' nY e he hbd)
theorem qU (hE:Env P E Γ G Fw) (DJ:∀ (i:Nat) (o:Oper),ops[i]? = some o->∀ c,o.op ≠ .defer c) (hed:eC ops=true) {Q:Exit->Act->World->Prop} {y:X} {k m:Nat} (hks:k<=ops.size)
  (hk:∀ j,k<=j->j < ops.size->(∀ i,i < k->dH ops ops.size j i=true)\/∃ i,k<=i/\i < ops.size/\dH ops ops.size j i=true)
  (hQ:∀ (listed:Array Bool) a w,(∀ i,i < ops.size->(listed.getD i true=false↔k<=i))->listed.size=ops.size->qT ops listed->SX P N G (y.st base bw) a w->wpAnyIn Fw r P .any ops Q m listed a w) :
  ∀ (n:Nat) {l:List FP} {listed:Array Bool} {x:X} {a:Act} {w:World},l.length=n->(l.map (·.i)).Pairwise (· < ·)->(∀ f∈l,f.i < k)->(∀ i,i < ops.size->(listed.getD i true=false↔i∈l.map (·.i)\/k<=i))->listed.size=ops.size->qT ops listed ->
   l.Pairwise (fun f g=>qG ops g f=true)->SL P E Γ G.lo base N ops l x y->SX P N G (x.st base bw) a w->wpAnyIn Fw r P .any ops Q (m + n) listed a w
 | 0,l,listed,x,a,w,hl,hs,hb,hu,hsz,gY,hp,hr,hx=>by
  have:l=[]:=List.eq_nil_of_length_eq_zero hl
  subst this
  cases hr
  exact hQ _ _ _ (fun i hi=>(hu i hi).trans (by simp)) hsz gY hx
 | n + 1,l,listed,x,a,w,hl,hs,hb,hu,hsz,gY,hp,hr,hx=>by
  have Bu:∀ i,i < k->i ∉ l.map (·.i)->listed.getD i false=true:=fun i hi hn=>by
   have h1:¬ listed.getD i true=false:=fun e=>by
    rcases (hu i (by omega)).1 e with q | q
    ·exact hn q
    ·omega
   have hlt:i < listed.size:=by omega
   simp [Array.getD_eq_getD_getElem?,hlt] at h1 ⊢
   exact h1
  have unl:∀ i,i < ops.size->listed.getD i true=false->listed.getD i false=true->False:=fun i hi h1 h2=>by
   have hlt:i < listed.size:=by omega
   simp [Array.getD_eq_getD_getElem?,hlt] at h1 h2
   rw [h1] at h2; cases h2
  refine ⟨fun h0=>?_,fun i hi=>?_⟩
  ·exfalso
   cases l with
   | nil=>cases hl
   | cons f l =>
    have Pz:f.i < k:=hb f (List.mem_cons_self ..)
    have hf:f.i < ops.size:=by omega
    have:f.i∈Region.ready .any ops listed:=mem_ready.2 ⟨(hu _ hf).2 (.inl (by simp)),ops[f.i],Array.getElem?_eq_getElem hf,fun e he hbd=>by
     have hlt:=iu hed (Array.getElem?_eq_getElem hf) e he hbd
     refine Bu e.on (by omega) fun hm=>?_
     rw [List.map_cons,List.pairwise_cons] at hs
     rw [List.map_cons,List.mem_cons] at hm
     rcases hm with hm | hm
     ·omega
     ·have:=hs.1 _ hm; omega⟩
    rw [h0] at this; cases this
  ·obtain ⟨h1,o,h2,h3⟩:=mem_ready.1 hi
   have SM:i < ops.size:=(Array.getElem?_eq_some_iff.1 h2).1
   have him:i∈l.map (·.i):=by
    rcases (hu i SM).1 h1 with q | q
    ·exact q
    exfalso
    rcases hk i q SM with hw | ⟨j,j1,j2,hw⟩
    ·cases l with
     | nil=>cases hl
     | cons f l =>
      have Pz:f.i < k:=hb f (List.mem_cons_self ..)
      have:=eJ gY _ _ _ (hw f.i Pz) (fun o' ho' e he hbd=>by rw [h2] at ho'; cases ho'; exact h3 e he hbd)
      exact unl f.i (by omega) ((hu f.i (by omega)).2 (.inl (by simp))) this
    ·have:=eJ gY _ _ _ hw (fun o' ho' e he hbd=>by rw [h2] at ho'; cases ho'; exact h3 e he hbd)
     exact unl j j2 ((hu j j2).2 (.inr j1)) this
   obtain ⟨g,hg,rfl⟩:=List.mem_map.1 him
   obtain ⟨l1,l2,rfl⟩:=List.append_of_mem hg
   have hr':=uh hr (fun f hf=>by
    have hpf:qG ops g f=true:=by
     rw [List.pairwise_append] at hp
     exact hp.2.2 f hf g (List.mem_cons_self ..)
    unfold qG at hpf
    rw [h2] at hpf
    have Sz:f.i < ops.size:=by have:=hb f (by simp [hf]); omega
    rw [Array.getElem?_eq_getElem Sz] at hpf
    simp only at hpf
    have hw:dH ops ops.size g.i f.i=false:=by
     cases hq:dH ops ops.size g.i f.i with
     | false=>rfl
     | true =>
      have:=eJ gY _ _ _ hq (fun o' ho' e he hbd=>by rw [h2] at ho'; cases ho'; exact h3 e he hbd)
      exact (unl f.i Sz ((hu f.i Sz).2 (.inl (by simp only [List.map_append,List.mem_append]; exact .inl (List.mem_map.2 ⟨f,hf,rfl⟩)))) this).elim
    rw [hw] at hpf
    simp only [Bool.or_false,Bool.and_eq_true] at hpf
    exact ⟨_,o,Array.getElem?_eq_getElem Sz,h2,hpf.1.2,hpf.1.1,hpf.2.1.1,hpf.2.1.2,hpf.2.2⟩)
   obtain ⟨o',x1,q1,q2,q3⟩:=hr'
   rw [h2] at q1; cases q1
   refine wpOpIn_mono (fun a' w' hx'=>?_) (yG hE h2 (DJ _ _ h2) q2 hx)
   have hsub:(l1 ++ l2).Sublist (l1 ++ g :: l2):=List.Sublist.append_left (List.sublist_cons_self _ _) _
   refine qU hE DJ hed hks hk hQ n (l:=l1 ++ l2) (by simp at hl ⊢; omega) (hs.sublist (hsub.map _)) (fun f hf=>hb f (hsub.subset hf)) (fun i hi'=>?_) (by simpa using hsz) ?_ (hp.sublist hsub) q3 hx'
   ·have Vm:g.i < k:=hb g hg
    have hgn:g.i ∉ (l1 ++ l2).map (·.i):=by
     have:=hs.imp (fun {a b} (h:a < b)=>Nat.ne_of_lt h)
     rw [List.map_append,List.map_cons,List.pairwise_append,List.pairwise_cons] at this
     rw [List.map_append,List.mem_append]
     rintro (hm | hm)
     ·exact this.2.2 _ hm _ (List.mem_cons_self ..) rfl
     ·exact this.2.1.1 _ hm rfl
    by_cases hig:g.i=i
    ·subst hig
     have hlt:g.i < listed.size:=by omega
     simp only [hgn,false_or]
     simp [Array.getD_eq_getD_getElem?,hlt]
     omega
    ·rw [getD_set_ne true hig,hu i hi']
     simp only [List.map_append,List.map_cons,List.mem_append,List.mem_cons]
     constructor
     ·rintro ((h | h | h) | h)
      ·exact .inl (.inl h)
      ·exact absurd h.symm hig
      ·exact .inl (.inr h)
      ·exact .inr h
     ·rintro ((h | h) | h)
      ·exact .inl (.inl h)
      ·exact .inl (.inr (.inr h))
      ·exact .inr h
   ·intro i' o' ho' nY e he hbd
    have keep:∀ k,listed.getD k false=true->(listed.setIfInBounds g.i true).getD k false=true:=fun k hk=>by
     by_cases Vm:g.i=k
     ·subst Vm
      have hgs:g.i < listed.size:=by
       rw [hsz]; exact (Array.getElem?_eq_some_iff.1 h2).1
      simp [Array.getD_eq_getD_getElem?,hgs]
     ·rw [getD_set_ne false Vm]; exact hk
    by_cases Lw:g.i=i'
    ·subst Lw
     rw [h2] at ho'; cases ho'
     exact keep _ (h3 e he hbd)
    ·rw [getD_set_ne false Lw] at nY
     exact keep _ (gY i' o' ho' nY e he hbd)
theorem fZ:∀ {l:List FP},lU ops l=true->l.Pairwise (fun f g=>qG ops f g=true)
 | [],_=>.nil
 | f :: l,h=>by
  simp only [lU,Bool.and_eq_true,List.all_eq_true] at h
  exact .cons h.1 (fZ h.2)
end Go.Dm
namespace Go.Dm
open Go.RowKit
variable {P:Program} {N:Nat} {G:Gh} {S S':CS} {w w':World} {s s2:St} {a:Act} {ρ ρ':fA} {F F':Nat->Prop} {heap heap':Nat->bu} {Y:Value} {E:cg} {Γ:Ctx} {Fw:Fence} {r:Nat} {ops:Array Oper} {lo base:Nat} {bw:List fu}
theorem kS {i:Nat} {p:Op×Option Nat} (h:AV ops i=some p):∃ o,ops[i]? = some o/\o.guard=none/\o.op=p.1/\o.dst=p.2:=by
 unfold AV at h
 split at h
 ·rename_i o ho
  split at h
  ·rename_i hg
   cases h
   exact ⟨o,ho,hg,rfl,rfl⟩
  ·cases h
 ·cases h
theorem SN {o:Op} {T:TypeId} {m x:Nat} (h:alv o=some (T,m,x)):o = .lookup T (.tmp m) (.tmp x) false:=by
 unfold alv at h
 split at h
 ·cases h; rfl
 ·cases h
theorem SQ {o:Op} {x:Nat} {y:Operand} (h:alx o=some (x,y)):∃ t z,o = .binOp .add t (.tmp x) y z:=by
 unfold alx at h
 split at h
 ·cases h; exact ⟨_,_,rfl⟩
 ·cases h
theorem SS {o:Op} {T:TypeId} {m x:Nat} (h:aly o=some (T,m,x)):o = .mapEntry T (.tmp m) (.tmp x):=by
 unfold aly at h
 split at h
 ·cases h; rfl
 ·cases h
theorem SU {o:Op} {t i:Nat} (h:alz o=some (t,i)):o = .extract (.tmp t) i:=by
 unfold alz at h
 split at h
 ·cases h; rfl
 ·cases h
theorem SV {o:Op} {m t y:Nat} (h:alA o=some (m,t,y)):∃ T,o = .entryStore T (.tmp m) (.tmp t) (.tmp y):=by
 unfold alA at h
 split at h
 ·cases h; exact ⟨_,rfl⟩
 ·cases h
structure aiG (ops:Array Oper) (k:Nat) (c:Pq) (o0 o1 o2 o3 o4:Oper):Prop where
 h0:ops[k]? = some o0
 h1:ops[k + 1]? = some o1
 h2:ops[k + 2]? = some o2
 h3:ops[k + 3]? = some o3
 h4:ops[k + 4]? = some o4
 g0:o0.guard=none
 g1:o1.guard=none
 g2:o2.guard=none
 g3:o3.guard=none
 g4:o4.guard=none
 p0:o0.op = .lookup c.T (.tmp c.m) (.tmp c.x) false
 p1:∃ t z,o1.op = .binOp .add t (.tmp c.d0) c.y z
 p2:o2.op = .mapEntry c.T (.tmp c.m) (.tmp c.x)
 p3:o3.op = .extract (.tmp c.d2) 1
 p4:∃ T,o4.op = .entryStore T (.tmp c.m) (.tmp c.d3) (.tmp c.d1)
 d0:o0.dst=some c.d0
 d1:o1.dst=some c.d1
 d2:o2.dst=some c.d2
 d3:o3.dst=some c.d3
 d4:o4.dst=none
 y:aiq c.y=true
theorem IM {k:Nat} {c:Pq} (h:xy ops k=some c):∃ o0 o1 o2 o3 o4,aiG ops k c o0 o1 o2 o3 o4:=by
 unfold xy at h
 split at h
 case h_2=>cases h
 rename_i o0 d0 o1 d1 o2 d2 o3 d3 o4 e0 e1 e2 e3 e4
 split at h
 case h_2=>cases h
 rename_i T m x x1 y T2 m2 x2 t3 i3 m4 t4 y4 l0 l1 l2 l3 l4
 split at h
 case h_2=>cases h
 rename_i hb
 cases h
 simp only [Bool.and_eq_true] at hb
 obtain ⟨⟨⟨⟨⟨⟨⟨⟨⟨b1,b2⟩,b3⟩,b4⟩,b5⟩,b6⟩,b7⟩,b8⟩,b9⟩,b10⟩:=hb
 cases Nat.eq_of_beq_eq_true b1
 cases Nat.eq_of_beq_eq_true b3
 cases Nat.eq_of_beq_eq_true b4
 cases Nat.eq_of_beq_eq_true b5
 cases Nat.eq_of_beq_eq_true b6
 cases Nat.eq_of_beq_eq_true b7
 cases Nat.eq_of_beq_eq_true b8
 cases Nat.eq_of_beq_eq_true b9
 cases Nat.eq_of_beq_eq_true b10
 obtain ⟨p0,q01,q02,q03,q04⟩:=kS e0
 obtain ⟨p1,q11,q12,q13,q14⟩:=kS e1
 obtain ⟨p2,q21,q22,q23,q24⟩:=kS e2
 obtain ⟨p3,q31,q32,q33,q34⟩:=kS e3
 obtain ⟨p4,q41,q42,q43,q44⟩:=kS e4
 obtain ⟨t1,z1,r1⟩:=SQ l1
 obtain ⟨T4,r4⟩:=SV l4
 exact ⟨p0,p1,p2,p3,p4,q01,q11,q21,q31,q41,q02,q12,q22,q32,q42,q03.trans (SN l0),⟨t1,z1,q13.trans r1⟩,q23.trans (SS l2),q33.trans (SU l3),⟨T4,q43.trans r4⟩,q04,q14,q24,q34,q44,b2⟩
theorem kT (hE:Env P E Γ G Fw) {i:Nat} {o:Oper} (ho:ops[i]? = some o) (hg:o.guard=none) (DJ:∀ c,o.op ≠ .defer c) {Q:Exit->Act->World->Prop} {K:Act->World->Prop} {v:Value}
  (hr:(execOp a.eval o).run P w = .ok (.value v) w'\/(execOp a.eval o).run P w = .ok .skip w'/\v=undef) (hK:K (a.put o.dst v) w'):wpOpIn Fw r P ops Q i K a w:=by
 unfold wpOpIn
 simp only [ho]
 have hw:Region.wanted o (yielded ops a.tmps)=true:=by simp [Region.wanted,hg]
 rw [if_pos hw]
 refine iV hE.wide DJ ?_
 unfold Oper.wp
 rcases hr with hr | ⟨hr,rfl⟩
 ·rw [hr]; exact hK
 ·rw [hr]; exact hK
def vP (l:Bool) (a:Act) (d:Nat) (v:Value):Act:=bif l then a.put (some d) v else a
theorem eK {l:Bool} {d:Nat} {v:Value} {x:Operand} (h:x ≠ .tmp d):(vP l a d v).eval x=a.eval x:=by
 cases l
 ·rfl
 ·exact Act.eval_put (dst:=some d) (fun d' hd'=>by cases hd'; exact h)
theorem iW {l:Bool} {d:Nat} {v:Value}:(vP l a d v).tmps.size=a.tmps.size:=by
 cases l
 ·rfl
 ·show (a.tmps.setIfInBounds d v).size=_
  simp
theorem vQ {d:Nat} {v:Value} (h:d < a.tmps.size):(vP true a d v).eval (.tmp d)=v:=by
 show (a.tmps.setIfInBounds d v).getD d undef=v
 simp [Array.getD_eq_getD_getElem?,h]
theorem kH {l:Bool} {d e:Nat} {v u:Value} (h:d≠e):(vP l a e u).put (some d) v=vP l (a.put (some d) v) e u:=by
 cases l
 ·rfl
 ·show ({ a with tmps:=(a.tmps.setIfInBounds e u).setIfInBounds d v }:Act)={ a with tmps:=(a.tmps.setIfInBounds d v).setIfInBounds e u }
  rw [Array.setIfInBounds_comm _ _ (Ne.symm h)]
def cA (a:Act) (c:Pq) (v0 v1 v2 v3:Value) (l0 l1 l2 l3:Bool):Act:=vP l3 (vP l2 (vP l1 (vP l0 a c.d0 v0) c.d1 v1) c.d2 v2) c.d3 v3
theorem sC {c:Pq} {v0 v1 v2 v3:Value} {l0 l1 l2 l3:Bool} {x:Operand} (h0:x ≠ .tmp c.d0) (h1:x ≠ .tmp c.d1) (h2:x ≠ .tmp c.d2) (h3:x ≠ .tmp c.d3):(cA a c v0 v1 v2 v3 l0 l1 l2 l3).eval x=a.eval x:=by
 unfold cA
 rw [eK h3,eK h2,eK h1,eK h0]
theorem IN {listed:Array Bool} {i j:Nat} (hj:j < listed.size):(listed.setIfInBounds j true).getD i true=false↔i≠j/\listed.getD i true=false:=by
 by_cases h:j=i
 ·subst h
  simp [Array.getD_eq_getD_getElem?,hj]
 ·rw [getD_set_ne true h]
  exact ⟨fun q=>⟨fun e=>h e.symm,q⟩,fun q=>q.2⟩
theorem Lx {listed:Array Bool} {j:Nat} {o:Oper} (hc:qT ops listed) (ho:ops[j]? = some o) (hl:∀ e∈o.after,Region.binds .any e=true->listed.getD e.on false=true) (hj:j < listed.size):qT ops (listed.setIfInBounds j true):=by
 intro i' o' ho' nY e he hbd
 have keep:∀ k,listed.getD k false=true->(listed.setIfInBounds j true).getD k false=true:=fun k hk=>by
  by_cases Vm:j=k
  ·subst Vm
   simp [Array.getD_eq_getD_getElem?,hj]
  ·rw [getD_set_ne false Vm]; exact hk
 by_cases Lw:j=i'
 ·subst Lw
  rw [ho] at ho'; cases ho'
  exact keep _ (hl e he hbd)
 ·rw [getD_set_ne false Lw] at nY
  exact keep _ (hc i' o' ho' nY e he hbd)
theorem uj {listed:Array Bool} {i:Nat} (hi:i < listed.size):listed.getD i false=true↔¬ listed.getD i true=false:=by
 simp [Array.getD_eq_getD_getElem?,hi]
def left (l:Bool):Nat:=bif l then 0 else 1
theorem Bv:left true=0:=rfl
theorem ES:left false=1:=rfl
theorem ET {l:Bool} (h:left l=0):l=true:=by
 cases l
 ·cases h
 ·rfl
theorem adA (hE:Env P E Γ G Fw) {k:Nat} {c:Pq} {o0 o1 o2 o3 o4:Oper} (hc:aiG ops k c o0 o1 o2 o3 o4) (hed:eC ops=true) (hw:jx ops k=true) (hf:Pq.Lh c N=true) {Q:Exit->Act->World->Prop}
  {b:Nat} {kv:Value} {ki:IntKind} {x0 n:Int} {v0:Value} {st:Int} {w1 w2:World}
  (hsz:a.tmps.size=N) (hm:a.eval (.tmp c.m) = .map (some b)) (hk:a.eval (.tmp c.x)=kv) (hy:a.eval c.y = .int ki n)
  (hl0:(Instr.lookup c.T (.map (some b)) kv false).run P w = .ok (.int ki x0) w) (hl1:(Instr.lookup c.T (.map (some b)) kv false).run P w1 = .ok (.int ki x0) w1)
  (hen:(Instr.mapEntry c.T (.map (some b)) kv).run P w = .ok (.tuple #[v0,goInt st]) w1)
  (hes:∀ T,(Instr.entryStore T (.map (some b)) (goInt st) (.int ki (ki.wrap (x0 + n)))).run P w1 = .ok () w2)
  (hQ:Q .normal (cA a c (.int ki x0) (.int ki (ki.wrap (x0 + n))) (.tuple #[v0,goInt st]) (goInt st) true true true true) w2) :
  ∀ (z:Nat) (l0 l1 l2 l3:Bool) (listed:Array Bool),z=left l0 + left l1 + left l2 + left l3->(l1=true->l0=true)->(l3=true->l2=true)->listed.size=ops.size->qT ops listed ->
   (∀ i,i < ops.size->(listed.getD i true=false↔(i=k/\l0=false)\/(i=k + 1/\l1=false)\/(i=k + 2/\l2=false)\/(i=k + 3/\l3=false)\/i=k + 4)) ->
   wpAnyIn Fw r P .any ops Q (z + 1) listed (cA a c (.int ki x0) (.int ki (ki.wrap (x0 + n))) (.tuple #[v0,goInt st]) (goInt st) l0 l1 l2 l3) (bif l2 then w1 else w):=by
 have hsize:ops.size=k + 5:=by
  unfold jx at hw
  simp only [Bool.and_eq_true] at hw
  exact Nat.eq_of_beq_eq_true hw.1.1.1.1.1
 have hwt:dH ops ops.size (k + 1) k=true/\dH ops ops.size (k + 3) (k + 2)=true/\dH ops ops.size (k + 4) (k + 1)=true/\dH ops ops.size (k + 4) (k + 3)=true:=by
  unfold jx at hw
  simp only [Bool.and_eq_true] at hw
  exact ⟨hw.1.1.1.2,hw.1.1.2,hw.1.2,hw.2⟩
 unfold Pq.Lh at hf
 simp only [Bool.and_eq_true,Bool.not_eq_true',Nat.blt_eq] at hf
 have bne:∀ {x y:Nat},Nat.beq x y=false->x≠y:=fun h e=>by subst e; rw [Nat.beq_refl] at h; cases h
 have yI:∀ {x y:Nat},Nat.beq x y=false->Operand.tmp x ≠ .tmp y:=fun h e=>by cases e; rw [Nat.beq_refl] at h; cases h
 obtain ⟨⟨⟨⟨⟨⟨⟨⟨⟨⟨⟨⟨⟨⟨⟨⟨⟨f0,f1⟩,f2⟩,f3⟩,f01⟩,f02⟩,f03⟩,f12⟩,f13⟩,f23⟩,m0⟩,m1⟩,m2⟩,m3⟩,x0'⟩,x1'⟩,x2'⟩,x3'⟩:=hf
 have yne:∀ d,c.y ≠ .tmp d:=fun d e=>by have:=hc.y; rw [e] at this; cases this
 intro z
 induction z with
 | zero =>
  intro l0 l1 l2 l3 listed hz hi1 hi2 hls gY hu
  have e0:l0=true:=ET (by omega)
  have e1:l1=true:=ET (by omega)
  have e2:l2=true:=ET (by omega)
  have e3:l3=true:=ET (by omega)
  subst e0 e1 e2 e3
  have hrd:k + 4∈Region.ready .any ops listed:=mem_ready.2 ⟨(hu (k + 4) (by omega)).2 (by simp),o4,hc.h4,fun e he hbd=>by
   have hlt:=iu hed hc.h4 e he hbd
   rw [uj (by omega),hu _ (by omega)]
   rintro (h | h | h | h | h)
   ·cases h.2
   ·cases h.2
   ·cases h.2
   ·cases h.2
   ·omega⟩
  refine ⟨fun h0=>(by rw [h0] at hrd; cases hrd),fun i hi=>?_⟩
  obtain ⟨i1,oi,i2,i3⟩:=mem_ready.1 hi
  have SM:i < ops.size:=(Array.getElem?_eq_some_iff.1 i2).1
  have hik:i=k + 4:=by
   rcases (hu i SM).1 i1 with h | h | h | h | h
   ·cases h.2
   ·cases h.2
   ·cases h.2
   ·cases h.2
   ·exact h
  subst hik
  rw [hc.h4] at i2; cases i2
  obtain ⟨T4,p4⟩:=hc.p4
  have ev1:(cA a c (.int ki x0) (.int ki (ki.wrap (x0 + n))) (.tuple #[v0,goInt st]) (goInt st) true true true true).eval (.tmp c.m) = .map (some b):=by
   rw [sC (yI m0) (yI m1) (yI m2) (yI m3),hm]
  have ev2:(cA a c (.int ki x0) (.int ki (ki.wrap (x0 + n))) (.tuple #[v0,goInt st]) (goInt st) true true true true).eval (.tmp c.d3)=goInt st:=by
   unfold cA
   exact vQ (by rw [iW,iW,iW,hsz]; exact f3)
  have ev3:(cA a c (.int ki x0) (.int ki (ki.wrap (x0 + n))) (.tuple #[v0,goInt st]) (goInt st) true true true true).eval (.tmp c.d1) = .int ki (ki.wrap (x0 + n)):=by
   unfold cA
   rw [eK (yI f13),eK (yI f12)]
   exact vQ (by rw [iW,hsz]; exact f1)
  refine kT hE hc.h4 hc.g4 (fun c' e=>by rw [p4] at e; cases e) (v:=undef) (w':=w2) (.inr ⟨?_,rfl⟩) ?_
  ·show (execOp _ o4).run P w1=_
   simp only [execOp,p4,ev1,ev2,ev3,Sem.run_bind,hes,Result.andThen_ok,Sem.run_pure]
  ·rw [hc.d4]
   refine ⟨List.eq_nil_iff_forall_not_mem.2 fun i hi=>?_,hQ⟩
   obtain ⟨j1,oj,j2,_⟩:=mem_ready.1 hi
   have hjs:i < ops.size:=(Array.getElem?_eq_some_iff.1 j2).1
   obtain ⟨j3,j4⟩:=(IN (by omega)).1 j1
   rcases (hu i hjs).1 j4 with h | h | h | h | h
   ·cases h.2
   ·cases h.2
   ·cases h.2
   ·cases h.2
   ·exact j3 h
 | succ z ih =>
  intro l0 l1 l2 l3 listed hz hi1 hi2 hls gY hu
  have mkU:∀ (j:Nat) (m0 m1 m2 m3:Bool),j < ops.size->(∀ i,((i=k/\m0=false)\/(i=k + 1/\m1=false)\/(i=k + 2/\m2=false)\/(i=k + 3/\m3=false)\/i=k + 4)↔i≠j/\((i=k/\l0=false)\/(i=k + 1/\l1=false)\/(i=k + 2/\l2=false)\/(i=k + 3/\l3=false)\/i=k + 4)) ->
    ∀ i,i < ops.size->((listed.setIfInBounds j true).getD i true=false↔(i=k/\m0=false)\/(i=k + 1/\m1=false)\/(i=k + 2/\m2=false)\/(i=k + 3/\m3=false)\/i=k + 4):=fun j m0 m1 m2 m3 hj h i hi=>by
   rw [IN (by omega),h i,hu i hi]
  refine ⟨fun h0=>?_,fun i hi=>?_⟩
  ·exfalso
   have mk:∀ (j:Nat) (o:Oper),ops[j]? = some o->listed.getD j true=false->(∀ i,i < j->¬ listed.getD i true=false)->False:=fun j o ho hj hlt=>by
    have hjs:j < ops.size:=(Array.getElem?_eq_some_iff.1 ho).1
    have:j∈Region.ready .any ops listed:=mem_ready.2 ⟨hj,o,ho,fun e he hbd=>by
     have:=iu hed ho e he hbd
     rw [uj (by omega)]
     exact hlt _ this⟩
    rw [h0] at this; cases this
   cases l0 with
   | false=>exact mk k o0 hc.h0 ((hu k (by omega)).2 (by simp)) fun i hi=>by rw [hu i (by omega)]; omega
   | true =>
    cases l1 with
    | false=>exact mk (k + 1) o1 hc.h1 ((hu (k + 1) (by omega)).2 (by simp)) fun i hi=>by rw [hu i (by omega)]; simp; omega
    | true =>
     cases l2 with
     | false=>exact mk (k + 2) o2 hc.h2 ((hu (k + 2) (by omega)).2 (by simp)) fun i hi=>by rw [hu i (by omega)]; simp; omega
     | true =>
      cases l3 with
      | false=>exact mk (k + 3) o3 hc.h3 ((hu (k + 3) (by omega)).2 (by simp)) fun i hi=>by rw [hu i (by omega)]; simp; omega
      | true=>exact mk (k + 4) o4 hc.h4 ((hu (k + 4) (by omega)).2 (by simp)) fun i hi=>by rw [hu i (by omega)]; simp; omega
  ·obtain ⟨i1,oi,i2,i3⟩:=mem_ready.1 hi
   have SM:i < ops.size:=(Array.getElem?_eq_some_iff.1 i2).1
   have IP:=Lx gY i2 i3 (by omega)
   have wl:∀ j,dH ops ops.size i j=true->j < ops.size->¬ listed.getD j true=false:=fun j hj hjs=>by
    rw [<- uj (by omega)]
    exact eJ gY _ _ _ hj (fun o' ho' e he hbd=>by rw [i2] at ho'; cases ho'; exact i3 e he hbd)
   rcases (hu i SM).1 i1 with ⟨rfl,rfl⟩ | ⟨rfl,rfl⟩ | ⟨rfl,rfl⟩ | ⟨rfl,rfl⟩ | rfl
   ·-- lookup
    have e1:l1=false:=by
     cases l1 with
     | false=>rfl
     | true=>exact absurd (hi1 rfl) (by simp)
    subst e1
    have Px:z=left true + left false + left l2 + left l3:=by rw [Bv]; rw [ES] at *; omega
    have:=ih true false l2 l3 (listed.setIfInBounds i true) Px (by simp) hi2 (by simpa using hls) IP (mkU i _ _ _ _ SM fun j=>by clear hu IP Px hz hi2; cases l2 <;> cases l3 <;> simp <;> omega)
    rw [hc.h0] at i2; cases i2
    refine kT hE hc.h0 hc.g0 (fun c' e=>by rw [hc.p0] at e; cases e) (v:=.int ki x0) (w':=bif l2 then w1 else w) (.inl ?_) ?_
    ·simp only [execOp,hc.p0,sC (yI m0) (yI m1) (yI m2) (yI m3),sC (yI x0') (yI x1') (yI x2') (yI x3'),hm,hk]
     cases l2
     ·simp only [cond_false,Sem.run_bind,hl0,Result.andThen_ok,Sem.run_pure]
     ·simp only [cond_true,Sem.run_bind,hl1,Result.andThen_ok,Sem.run_pure]
    ·rw [hc.d0]
     have e:(cA a c (.int ki x0) (.int ki (ki.wrap (x0 + n))) (.tuple #[v0,goInt st]) (goInt st) false false l2 l3).put (some c.d0) (.int ki x0)=cA a c (.int ki x0) (.int ki (ki.wrap (x0 + n))) (.tuple #[v0,goInt st]) (goInt st) true false l2 l3:=by
      unfold cA
      rw [kH (bne f03),kH (bne f02),kH (bne f01)]
      rfl
     rw [e]; exact this
   ·-- add
    have e0:l0=true:=by
     cases l0 with
     | true=>rfl
     | false=>exact absurd ((hu k (by omega)).2 (by simp)) (wl k hwt.1 (by omega))
    subst e0
    have Px:z=left true + left true + left l2 + left l3:=by rw [Bv] at *; rw [ES] at hz; omega
    have:=ih true true l2 l3 (listed.setIfInBounds (k + 1) true) Px (by simp) hi2 (by simpa using hls) IP (mkU (k + 1) _ _ _ _ SM fun j=>by clear hu IP Px hz hi2; cases l2 <;> cases l3 <;> simp <;> omega)
    rw [hc.h1] at i2; cases i2
    obtain ⟨t1,z1,p1⟩:=hc.p1
    have ev:(cA a c (.int ki x0) (.int ki (ki.wrap (x0 + n))) (.tuple #[v0,goInt st]) (goInt st) true false l2 l3).eval (.tmp c.d0) = .int ki x0:=by
     unfold cA
     rw [eK (yI f03),eK (yI f02),eK (yI f01)]
     exact vQ (by rw [hsz]; exact f0)
    refine kT hE hc.h1 hc.g1 (fun c' e=>by rw [p1] at e; cases e) (v:=.int ki (ki.wrap (x0 + n))) (w':=bif l2 then w1 else w) (.inl ?_) ?_
    ·simp only [execOp,p1,ev,sC (yne _) (yne _) (yne _) (yne _),hy]
     simp [eqGuard,binOp,Op.intArith]
    ·rw [hc.d1]
     have e:(cA a c (.int ki x0) (.int ki (ki.wrap (x0 + n))) (.tuple #[v0,goInt st]) (goInt st) true false l2 l3).put (some c.d1) (.int ki (ki.wrap (x0 + n)))=cA a c (.int ki x0) (.int ki (ki.wrap (x0 + n))) (.tuple #[v0,goInt st]) (goInt st) true true l2 l3:=by
      unfold cA
      rw [kH (bne f13),kH (bne f12)]
      rfl
     rw [e]; exact this
   ·-- the entry
    have e3:l3=false:=by
     cases l3 with
     | false=>rfl
     | true=>exact absurd (hi2 rfl) (by simp)
    subst e3
    have Px:z=left l0 + left l1 + left true + left false:=by rw [Bv]; rw [ES] at *; omega
    have:=ih l0 l1 true false (listed.setIfInBounds (k + 2) true) Px hi1 (by simp) (by simpa using hls) IP (mkU (k + 2) _ _ _ _ SM fun j=>by clear hu IP Px hz hi1; cases l0 <;> cases l1 <;> simp <;> omega)
    rw [hc.h2] at i2; cases i2
    refine kT hE hc.h2 hc.g2 (fun c' e=>by rw [hc.p2] at e; cases e) (v:=.tuple #[v0,goInt st]) (w':=w1) (.inl ?_) ?_
    ·simp only [execOp,hc.p2,sC (yI m0) (yI m1) (yI m2) (yI m3),sC (yI x0') (yI x1') (yI x2') (yI x3'),hm,hk,cond_false,Sem.run_bind,hen,Result.andThen_ok,Sem.run_pure]
    ·rw [hc.d2]
     have e:(cA a c (.int ki x0) (.int ki (ki.wrap (x0 + n))) (.tuple #[v0,goInt st]) (goInt st) l0 l1 false false).put (some c.d2) (.tuple #[v0,goInt st])=cA a c (.int ki x0) (.int ki (ki.wrap (x0 + n))) (.tuple #[v0,goInt st]) (goInt st) l0 l1 true false:=by
      unfold cA
      rw [kH (bne f23)]
      rfl
     rw [e]; exact this
   ·-- its stamp
    have e2:l2=true:=by
     cases l2 with
     | true=>rfl
     | false=>exact absurd ((hu (k + 2) (by omega)).2 (by simp)) (wl (k + 2) hwt.2.1 (by omega))
    subst e2
    have Px:z=left l0 + left l1 + left true + left true:=by rw [Bv] at *; rw [ES] at hz; omega
    have:=ih l0 l1 true true (listed.setIfInBounds (k + 3) true) Px hi1 (by simp) (by simpa using hls) IP (mkU (k + 3) _ _ _ _ SM fun j=>by clear hu IP Px hz hi1; cases l0 <;> cases l1 <;> simp <;> omega)
    rw [hc.h3] at i2; cases i2
    have ev:(cA a c (.int ki x0) (.int ki (ki.wrap (x0 + n))) (.tuple #[v0,goInt st]) (goInt st) l0 l1 true false).eval (.tmp c.d2) = .tuple #[v0,goInt st]:=by
     unfold cA
     rw [eK (yI f23)]
     exact vQ (by rw [iW,iW,hsz]; exact f2)
    refine kT hE hc.h3 hc.g3 (fun c' e=>by rw [hc.p3] at e; cases e) (v:=goInt st) (w':=w1) (.inl ?_) ?_
    ·simp only [execOp,hc.p3,ev,cond_true]
     simp [Instr.extract]
    ·rw [hc.d3]
     exact this
   ·-- the store waits for all
    exfalso
    have a1:=wl (k + 1) hwt.2.2.1 (by omega)
    have a2:=wl (k + 3) hwt.2.2.2 (by omega)
    rw [hu _ (by omega)] at a1 a2
    have e1:l1=true:=by cases l1 <;> simp at a1 ⊢
    have e3:l3=true:=by cases l3 <;> simp at a2 ⊢
    have e0:=hi1 e1
    have e2:=hi2 e3
    subst e0 e1 e2 e3
    simp only [Bv] at hz; omega
theorem SR.EU (h:SR P N G s a w ρ S F) {d:Nat} (hd:d < N) (v:Value):SR P N G { s with env:=setEnv s.env d .top } (a.put (some d) v) w ρ S F:=
 h.put (dst:=some d) (by simpa [Nat.blt_eq] using hd) (sl:=.top) trivial
theorem SW (hE:Env P E Γ G Fw) {k:Nat} {c:Pq} (hp:xy ops k=some c) (hed:eC ops=true) (hw:jx ops k=true) (hd:VH P E Γ N c s=some s2) {Q:Exit->Act->World->Prop}
  (hQ:∀ a' w',SX P N G s2 a' w'->Q .normal a' w') {listed:Array Bool} (hu:∀ i,i < ops.size->(listed.getD i true=false↔k<=i)) (hls:listed.size=ops.size) (gY:qT ops listed) (h:SX P N G s a w) :
  wpAnyIn Fw r P .any ops Q 5 listed a w:=by
 obtain ⟨o0,o1,o2,o3,o4,hc⟩:=IM hp
 obtain ⟨ρ,S,F,h⟩:=h
 unfold VH at hd
 split at hd
 case h_2=>cases hd
 rename_i kt vt IA
 split at hd
 case h_2=>cases hd
 rename_i kk ki z id kj n hK hk hv hz hem hey bT
 split at hd
 case h_2=>cases hd
 rename_i k' v' m' key zd ho hkey hzd aGi
 split at hd
 case h_2=>cases hd
 rename_i m hcast
 cases hd
 obtain rfl:=of_decide_eq_true aGi
 obtain ⟨e1,hm'⟩:=bY hcast
 obtain ⟨rfl,rfl⟩:k'=kk/\v' = .int ki:=by injection e1 with a b; exact ⟨a,b⟩
 obtain rfl:m=m':=hm'
 have hsize:ops.size=k + 5:=by
  unfold jx at hw
  simp only [Bool.and_eq_true] at hw
  exact Nat.eq_of_beq_eq_true hw.1.1.1.1.1
 have cK:=h.obj id
 rw [ho] at cK
 obtain ⟨b,es,cc,q1,q2,q3,⟨p1,p2,p3,p4⟩,q5,q6⟩:=cK
 have hx:=h.env c.m
 rw [hem] at hx
 obtain ⟨_,_,hx3⟩:=hx
 obtain ⟨b',hb',cP⟩:=hx3 _ _ _ ho
 rw [q1] at hb'; cases hb'
 have hKA:=hE.key kt k' hK hk
 have avH:(Ty.int ki).one=true:=rfl
 obtain ⟨ti,zv,hti,htz,DM⟩:=Lq p2 (Dj avH) hz hzd
 have hkv:=jY p1 p3 (h.env c.x) hkey
 have hyv:a.eval c.y = .int ki n:=by
  have:=xB hE.fns h c.y
  rw [hey] at this
  exact ij this
 have hlt:=(Array.getElem?_eq_some_iff.1 q3).1
 obtain ⟨es1,c1,st,v0,m1,r1,r2,r3,r4⟩:=SF (P:=P) IA hKA q3 q5 key hti htz DM
 obtain ⟨es',c',r5,r6⟩:=r4 (ki.wrap ((show Int from (m key).getD zd) + (show Int from n)))
 have hl0:=ue (P:=P) (w:=w) IA hKA (.inr ⟨b,cc,rfl,q3⟩) q5.1 key hti htz DM false
 have hl1:=ue (P:=P) (w:=w.putObj b (.map es1 c1)) IA hKA (.inr ⟨b,c1,rfl,World.putObj_heap_same hlt⟩) r2 key hti htz DM false
 rw [r3] at hl1
 have hf:=bT
 unfold Pq.Lh at hf
 simp only [Bool.and_eq_true,Bool.not_eq_true',Nat.blt_eq] at hf
 obtain ⟨⟨⟨⟨⟨⟨⟨⟨⟨⟨⟨⟨⟨⟨⟨⟨⟨f0,f1⟩,f2⟩,f3⟩,f01⟩,f02⟩,f03⟩,f12⟩,f13⟩,f23⟩,m0⟩,m1'⟩,m2⟩,m3⟩,x0'⟩,x1'⟩,x2'⟩,x3'⟩:=hf
 have avI:(w.putObj b (.map es1 c1)).putObj b (.map es' c')=w.putObj b (.map es' c'):=by simp [World.putObj]
 have aGj:=adA (Fw:=Fw) (r:=r) (a:=a) (w:=w) (w1:=w.putObj b (.map es1 c1)) (w2:=w.putObj b (.map es' c')) hE hc hed hw bT (Q:=Q) (b:=b) (kv:=pack (encs k' key)) (ki:=ki) (x0:=(m key).getD zd) (n:=n) (v0:=v0) (st:=st) h.size cP hkv hyv hl0 hl1 r1 (fun T=>by
   have:=r5 (w.putObj b (.map es1 c1)) (World.putObj_heap_same hlt)
   rw [avI] at this
   exact this) ?_ 4 false false false false listed rfl (by simp) (by simp) hls gY (fun i hi=>by rw [hu i hi]; simp; omega)
 ·exact aGj
 ·refine hQ _ _ ?_
  have h2:=(((h.EU f0 (.int ki ((m key).getD zd))).EU f1 (.int ki (ki.wrap ((show Int from (m key).getD zd) + (show Int from n))))).EU f2 (.tuple #[v0,goInt st])).EU f3 (goInt st)
  obtain ⟨es2,c2,g1,g2⟩:=mO (P:=P) (w:=w) IA hKA q3 q5 key (v:=.int ki) (ki.wrap ((show Int from (m key).getD zd) + (show Int from n)))
  rw [r6] at g1
  injection g1 with _ g1
  have e1:(w.putObj b (.map es' c')).heap[b]? = some (.map es' c'):=World.putObj_heap_same hlt
  rw [g1,World.putObj_heap_same hlt] at e1
  injection e1 with e1
  injection e1 with e1 e2
  subst e1 e2
  have fU:∀ j,j≠b->(w.putObj b (.map es2 c2)).heap[j]? = w.heap[j]? := fun j hj=>World.putObj_heap_other hj
  have hsz:(w.putObj b (.map es2 c2)).heap.size=w.heap.size:=by simp [World.putObj]
  have ex:Ext0 S w S (w.putObj b (.map es2 c2)):=⟨by omega,fun _ _ x=>x,fun b' o hS=>World.cell?_of_block (a:=⟨b',o,none⟩) (fU b' (fun e=>q6 o (e ▸ hS))),fun b' o es c hS hm=>(fU b' (fun e=>q6 o (e ▸ hS))).trans hm,fun b' o hS=>by rw [hsz]; exact h.bd b' o hS,.putObj hlt (fun _ _ _=>by simp)⟩
  have q:=h2.Lj hE.gh (id:=id) (o:=.mp k' (.int ki) (fP (nJ k') m key (ki.wrap ((show Int from (m key).getD zd) + (show Int from n))))) (by show live (s.heap id); rw [ho]; trivial) q1 ex ⟨rfl,rfl,rfl,by omega,fun j hj=>fU j hj.2⟩ hsz (fun _ _ q=>.inl q) (by show Kept _ _ _ _ _ (s.heap id) _; rw [ho]; exact .inr ⟨⟨_,rfl⟩,rfl⟩)
   ⟨b,es2,c2,q1,q2,World.putObj_heap_same hlt,⟨p1,p2,p3,p4⟩,g2,q6⟩
  exact ⟨ρ,S,F,q.of_eq rfl rfl rfl rfl⟩
end Go.Dm
namespace Go.Dm
variable {P:Program} {F:Fence} {n:Nat} {fid:FuncId} {Q Q':Exit->Act->World->Prop} {a:Act} {w:World}
def yJ (fid:FuncId) (F:Fence) (n:Nat) (P:Program) (c:Code) (Q:Exit->Act->World->Prop) (a:Act) (w:World):Prop:=
 ∀ (b:Frame) (k:List Item) (cs:List Frame),b.fn=fid->b.roundOf=F.round->F.fn b.fn->F.room (cs.length + 1 + n) ->
  ∃ e a' w',Q e a' w'/\ArrivesIn (Machine.fenced P F) P (lone (b.atR a (.code c :: k)) cs w) b k cs e a' w'
theorem Bw {c:Code} (h:c.wpIn F n P Q a w):yJ fid F n P c Q a w:=fun b k cs _=>h b k cs
theorem cN {c:Code} (h:yJ fid F n P c Q a w) (hq:∀ e a w,Q e a w->Q' e a w):yJ fid F n P c Q' a w:=
 fun b k cs hf hro hb hr=>let ⟨e,a',w',q,r⟩:=h b k cs hf hro hb hr; ⟨e,a',w',hq _ _ _ q,r⟩
theorem adB {x y:Code} (h:yJ fid F n P x (Exit.then (yJ fid F n P y Q) Q) a w):yJ fid F n P (.seq x y) Q a w:=by
 intro b k cs hf hro hb hr
 have h0:(lone (b.atR a (.code (.seq x y) :: k)) cs w).fenced P F:=fenced_calm hb hr rfl
 obtain ⟨e,a₁,w₁,hq,cS⟩:=h b (.code y :: k) cs hf hro hb hr
 cases e with
 | normal =>
  obtain ⟨e₂,a₂,w₂,Vn,th⟩:=hq b k cs hf hro hb hr
  exact ⟨e₂,a₂,w₂,Vn,.of_steps (.head h0 stepR_seq cS) th⟩
 | exit id=>exact ⟨_,a₁,w₁,hq,.of_steps (.one h0 stepR_seq) (.pass (x:=.code y) rfl (fun _ _=>.inl (by simp)) cS)⟩
 | goto l=>exact ⟨_,a₁,w₁,hq,.of_steps (.one h0 stepR_seq) (.pass (x:=.code y) rfl (fun _ _=>.inl (by simp)) cS)⟩
 | ret=>exact ⟨_,a₁,w₁,hq,.of_steps (.one h0 stepR_seq) (.pass (x:=.code y) rfl (fun _ _=>.inl (by simp)) cS)⟩
 | panic ch=>exact ⟨_,a₁,w₁,hq,.of_steps (.one h0 stepR_seq) (.pass (x:=.code y) rfl (fun _ _=>.inl (by simp)) cS)⟩
 | outgrown=>exact ⟨_,a₁,w₁,hq,.of_steps (.one h0 stepR_seq) (.pass (x:=.code y) rfl (fun _ _=>.inl (by simp)) cS)⟩
theorem IQ {c:Operand} {x y:Code} {t:Bool} (hc:a.eval c = .bool t) (h:yJ fid F n P (if t then x else y) Q a w):yJ fid F n P (.cond c x y) Q a w:=
 fun b k cs hf hro hb hr=>let ⟨e,a',w',q,r⟩:=h b k cs hf hro hb hr; ⟨e,a',w',q,.of_steps (.one (fenced_calm hb hr rfl) (stepR_cond hc)) r⟩
theorem Dl {c:Operand} {x y:Code} (hc:a.eval c = .bool true) (h:yJ fid F n P x Q a w):yJ fid F n P (.cond c x y) Q a w:=IQ hc h
theorem Bx {c:Operand} {x y:Code} (hc:a.eval c = .bool false) (h:yJ fid F n P y Q a w):yJ fid F n P (.cond c x y) Q a w:=IQ hc h
theorem SY {id:Nat} {c:Code} (h:yJ fid F n P c (Exit.inBlock id Q) a w):yJ fid F n P (.block id c) Q a w:=by
 intro b k cs hf hro hb hr
 have h0:(lone (b.atR a (.code (.block id c) :: k)) cs w).fenced P F:=fenced_calm hb hr rfl
 obtain ⟨e,a₁,w₁,hq,cS⟩:=h b (.inBlock id :: k) cs hf hro hb hr
 cases e with
 | normal=>exact ⟨.normal,a₁,w₁,hq,.head h0 stepR_block (StepsIn.trans cS (.one (fenced_calm hb hr rfl) stepR_inBlock))⟩
 | exit id' =>
  by_cases hid:id'=id
  ·simp only [Exit.inBlock,hid,if_true] at hq
   exact ⟨.normal,a₁,w₁,hq,.head h0 stepR_block (cS.1 k (by simp [exitTo,hid]))⟩
  ·simp only [Exit.inBlock,hid,if_false] at hq
   have this:(id == id')=false:=by simp; exact fun h=>hid h.symm
   have hx:exitTo id' (.inBlock id :: k)=exitTo id' k:=by simp [exitTo,this]
   exact ⟨.exit id',a₁,w₁,hq,fun k' hk=>.head h0 stepR_block (cS.1 k' (by rw [hx]; exact hk)),
    fun hr' hk=>let ⟨k₁,h1,h2⟩:=cS.2 hr' (by rw [hx]; exact hk); ⟨k₁,h1,.head h0 stepR_block h2⟩⟩
 | goto l =>
  have hx:gotoIn l (.inBlock id :: k)=gotoIn l k:=by simp [gotoIn]
  exact ⟨_,a₁,w₁,hq,fun k' hk=>.head h0 stepR_block (cS.1 k' (by rw [hx]; exact hk)),
   fun hr' hk=>let ⟨k₁,h1,h2⟩:=cS.2 hr' (by rw [hx]; exact hk); ⟨k₁,h1,.head h0 stepR_block h2⟩⟩
 | ret=>exact ⟨_,a₁,w₁,hq,.of_steps (.one h0 stepR_block) cS⟩
 | panic ch=>exact ⟨_,a₁,w₁,hq,.of_steps (.one h0 stepR_block) cS⟩
 | outgrown=>exact ⟨_,a₁,w₁,hq,.of_steps (.one h0 stepR_block) cS⟩
theorem gP {b:Frame} {k:List Item} {cs:List Frame} {c:Code}:step P (lone (b.atR a (.code (.scope c) :: k)) cs w) = .next (lone (b.atR a (.code c :: .inScope c :: k)) cs w):=
 step_lone_go (by simp [stepG,stepG.exec,Frame.atR])
theorem Dn {b:Frame} {k:List Item} {cs:List Frame} {c:Code}:step P (lone (b.atR a (.inScope c :: k)) cs w) = .next (lone (b.atR a k) cs w):=
 step_lone_go (by simp [stepG,stepG.exec,Frame.atR])
theorem uk {c:Code} (h:yJ fid F n P c (Exit.noGoto Q) a w):yJ fid F n P (.scope c) Q a w:=by
 intro b k cs hf hro hb hr
 have h0:(lone (b.atR a (.code (.scope c) :: k)) cs w).fenced P F:=fenced_calm hb hr rfl
 obtain ⟨e,a₁,w₁,hq,cS⟩:=h b (.inScope c :: k) cs hf hro hb hr
 cases e with
 | normal =>
  exact ⟨.normal,a₁,w₁,hq,.head h0 gP (StepsIn.trans cS (.one (fenced_calm hb hr rfl) Dn))⟩
 | exit id =>
  have hx:exitTo id (.inScope c :: k)=exitTo id k:=by simp [exitTo]
  exact ⟨.exit id,a₁,w₁,hq,fun k' hk=>.head h0 gP (cS.1 k' (by rw [hx]; exact hk)),
   fun hr' hk=>let ⟨k₁,h1,h2⟩:=cS.2 hr' (by rw [hx]; exact hk); ⟨k₁,h1,.head h0 gP h2⟩⟩
 | goto l=>exact hq.elim
 | ret=>exact ⟨_,a₁,w₁,hq,.of_steps (.one h0 gP) cS⟩
 | panic ch=>exact ⟨_,a₁,w₁,hq,.of_steps (.one h0 gP) cS⟩
 | outgrown=>exact ⟨_,a₁,w₁,hq,.of_steps (.one h0 gP) cS⟩
def jZ (fid:FuncId) (F:Fence) (n:Nat) (P:Program) (c:Code) (Q:Exit->Act->World->Prop):Nat->Act->World->Prop
 | 0,_,_=>False
 | m + 1,a,w=>yJ fid F n P c (Exit.then (jZ fid F n P c Q m) Q) a w
theorem jL {c:Code} (m:Nat) (h:jZ fid F n P c Q m a w):yJ fid F n P (.loop c) Q a w:=by
 intro b k cs hf hro hb hr
 have key:∀ m a w,jZ fid F n P c Q m a w ->
   ∃ e a' w',Q e a' w'/\ArrivesIn (Machine.fenced P F) P (lone (b.atR a (.code c :: .inLoop c :: k)) cs w) b k cs e a' w':=by
  intro m
  induction m with
  | zero=>intro a w h; exact h.elim
  | succ m ih =>
   intro a w h
   obtain ⟨e,a₁,w₁,hq,cS⟩:=h b (.inLoop c :: k) cs hf hro hb hr
   cases e with
   | normal =>
    obtain ⟨e₂,a₂,w₂,Vn,th⟩:=ih a₁ w₁ hq
    exact ⟨e₂,a₂,w₂,Vn,.of_steps (StepsIn.trans cS (.one (fenced_calm hb hr rfl) stepR_inLoop)) th⟩
   | exit id=>exact ⟨_,a₁,w₁,hq,.pass (x:=.inLoop c) rfl (fun _ _=>.inl (by simp)) cS⟩
   | goto l=>exact ⟨_,a₁,w₁,hq,.pass (x:=.inLoop c) rfl (fun _ _=>.inl (by simp)) cS⟩
   | ret=>exact ⟨_,a₁,w₁,hq,.pass (x:=.inLoop c) rfl (fun _ _=>.inl (by simp)) cS⟩
   | panic ch=>exact ⟨_,a₁,w₁,hq,.pass (x:=.inLoop c) rfl (fun _ _=>.inl (by simp)) cS⟩
   | outgrown=>exact ⟨_,a₁,w₁,hq,.pass (x:=.inLoop c) rfl (fun _ _=>.inl (by simp)) cS⟩
 obtain ⟨e,a',w',hq,cS⟩:=key m a w h
 exact ⟨e,a',w',hq,.of_steps (.one (fenced_calm hb hr rfl) stepR_loop) cS⟩
theorem fe {fn:Func} {c:Code} {args:Array Value} {w:World} {R:Ending->World->Prop}
  (hf:P.funcs[fid]? = some fn) (hb:fn.body=some c) (hF:F.fn fid)
  (h:yJ fid F n P c (bodyPostM F n P fn R) { tmps:=args ++ Array.replicate (fn.ntmps - args.size) undef,defers:=[] } w) (hro:F.round=none:=by rfl):CallsIn F n P fid args w R:=by
 refine ⟨hF,fun cs hr=>?_⟩
 let b:Frame:={ (default:Frame) with fn:=fid,kind:=.normal,roundOf:=none }
 have um:Frame.enter P fid args .normal =
   b.atR { tmps:=args ++ Array.replicate (fn.ntmps - args.size) undef,defers:=[] } [.code c]:=by
  simp [Frame.enter,Frame.atR,hf,hb,b]
 obtain ⟨e,a',w',hq,cS⟩:=h b [] cs rfl hro.symm hF hr
 rw [<- um] at cS
 cases e with
 | normal =>
  obtain ⟨e',w'',fr',hR,hs,hfn,hl⟩:=leaves_stepsInM a'.defers .returning w' { b.atR a' [] with mode:=.returning } cs rfl rfl rfl hf rfl hF hr hq
  exact ⟨e',w'',fr',hR,ComesIn.of_steps (StepsIn.trans cS (.one (fenced_calm (fr:=b.atR a' []) hF hr rfl) (stepR_end rfl))) hs,hfn,hl⟩
 | ret =>
  obtain ⟨todo,aGk⟩:=cS.1 rfl
  obtain ⟨e',w'',fr',hR,hs,hfn,hl⟩:=leaves_stepsInM a'.defers .returning w' { b.atR a' todo with mode:=.returning } cs rfl rfl rfl hf rfl hF hr hq
  exact ⟨e',w'',fr',hR,ComesIn.of_steps aGk hs,hfn,hl⟩
 | panic chain =>
  obtain ⟨todo,aGk⟩:=cS
  obtain ⟨e',w'',fr',hR,hs,hfn,hl⟩:=leaves_stepsInM a'.defers (.panicking chain) w' { b.atR a' todo with mode:=.panicking chain } cs rfl rfl rfl hf rfl hF hr hq
  exact ⟨e',w'',fr',hR,ComesIn.of_steps aGk hs,hfn,hl⟩
 | exit id=>exact hq.elim
 | goto l=>exact hq.elim
 | outgrown=>exact ⟨.outgrown,w',b,hq,cS.resolve_left (by simp [b]),rfl,trivial⟩
end Go.Dm
namespace Go.Dm
open Go.RowKit
variable {P:Program} {N:Nat} {G:Gh} {S S':CS} {w w':World} {s:St} {a:Act} {ρ ρ':fA} {F F':Nat->Prop} {heap heap':Nat->bu} {Y:Value} {E:cg} {Γ:Ctx} {Fw:Fence} {r:Nat} {ops:Array Oper} {lo base:Nat} {bw:List fu}
theorem SR.gone (hG:G.Ok P) (h:SR P N G s a w ρ S F) {id b m:Nat} (hl:live (s.heap id)) (hc:gp (s.heap id)=false) (hb:ρ id=some b) :
  SR P N G { s with heap:=aE s.heap id .gone } a w ρ (fun b' o=>S b' o\/(b'=b/\o < m)) F:=by
 have hlt:=(h.eG hl hb).1
 have ex:Ext0 S w (fun b' o=>S b' o\/(b'=b/\o < m)) w:=⟨Nat.le_refl _,fun _ _ q=>.inl q,fun _ _ _=>rfl,fun _ _ _ _ _ q=>q,fun b' o q=>by
  rcases q with q | q
  ·exact h.bd b' o q
  ·omega,.refl w⟩
 refine h.Lj hG hl hb ex (dX.refl _ _) rfl (fun k i q=>q.imp (fun x=>x) (fun x=>x.1)) ?_ trivial
 cases ho:s.heap id with
 | none=>rw [ho] at hl; exact hl.elim
 | gone=>rw [ho] at hl; exact hl.elim
 | box ds=>exact .inl rfl
 | chain _ _ _ _=>rw [ho] at hc; cases hc
 | row cur T e s'=>exact .inl rfl
 | mp k v m=>exact .inl rfl
 | rows cur T e d=>exact .inl rfl
theorem SR.avJ (hG:G.Ok P) (h:SR P N G s a w ρ S F) {id cur:Nat} {T:TypeId} {e:Ty} {x:Sl e.den} (ho:s.heap id = .row cur T e x) (hb:ρ id=none) :
  SR P N G { s with heap:=aE s.heap id .gone } a w ρ S F:=by
 have hk:∀ j,Kept w w ρ ρ j (s.heap j) (aE s.heap id .gone j):=fun j=>by
  by_cases hj:j=id
  ·subst hj; simp only [aE,Nat.beq_refl,cond_true]; rw [ho]; exact .inl rfl
  ·simp only [aE,bF hj,cond_false]
   exact .refl rfl fun b hb hl=>rfl
 have hl:∀ j,live (aE s.heap id .gone j)->live (s.heap j):=fun j hj=>by
  by_cases zO:j=id
  ·subst zO; simp only [aE,Nat.beq_refl,cond_true] at hj; exact hj.elim
  ·simpa only [aE,bF zO,cond_false] using hj
 refine ⟨h.size,h.bw.tr hk (fun D hF hD=>⟨hD,hF⟩),fun t=>(h.env t).tr (.refl h.bd) hk,fun j=>?_,h.su (fun _ _=>rfl) (fun _ _ _ _ _=>rfl) (fun _ q=>q.elim),h.ext,h.new,h.same,h.tr,h.fb,h.f0,h.sub,h.fs,fun j b hj=>⟨(h.pins j b hj).1,?_⟩⟩
 ·by_cases hj:j=id
  ·subst hj; simp only [aE,Nat.beq_refl,cond_true]; trivial
  ·simp only [aE,bF hj,cond_false]
   exact (h.obj j).tr (.refl h.bd) hk rfl fun b hb=>⟨rfl,fun i q=>q,fun x=>x⟩
 ·by_cases zO:j=id
  ·subst zO; simp only [aE,Nat.beq_refl,cond_true]; rfl
  ·simp only [aE,bF zO,cond_false]; exact (h.pins j b hj).2
theorem SR.freeze (hG:G.Ok P) (h:SR P N G s a w ρ S F) {id cur:Nat} {T:TypeId} {e:Ty} {x:Sl e.den} (ho:s.heap id = .row cur T e x) :
  ∃ S',SR P N G { s with heap:=aE s.heap id .gone } a w ρ S' F/\Ext0 S w S' w/\(∀ id',Kept w w ρ ρ id' (s.heap id') (aE s.heap id .gone id')) /\
   ∀ v,RC P G.Y S w s.heap ρ (.row id cur) v->RC P G.Y S' w (aE s.heap id .gone) ρ (.pc (.sl e) x) v:=by
 have hkp:∀ id',Kept w w ρ ρ id' (s.heap id') (aE s.heap id .gone id'):=fun j=>by
  by_cases hj:j=id
  ·subst hj; simp only [aE,Nat.beq_refl,cond_true]; rw [ho]; exact .inl rfl
  ·simp only [aE,bF hj,cond_false]; exact .refl rfl fun b hb hl=>rfl
 have cK:=h.obj id
 rw [ho] at cK
 obtain ⟨⟨hfl,hpos⟩,⟨hb,hn⟩ | ⟨b,arr,hb,jJ,hh,hsz,nX,hS⟩⟩:=cK
 ·refine ⟨S,h.avJ hG ho hb,.refl h.bd,hkp,fun v hv=>⟨rfl,?_⟩⟩
  obtain ⟨_,_,hv⟩:=hv
  rcases (hv _ _ _ _ ho).2 rfl with ⟨_,a0,q⟩ | ⟨b,cap,q,_⟩
  ·exact .inl ⟨hn,a0,0,by rw [q]⟩
  ·rw [hb] at q; cases q
 ·have q:=h.gone hG (m:=arr.size) (by rw [ho]; trivial) (by rw [ho]; rfl) hb
  have ex:Ext0 S w (fun b' o=>S b' o\/(b'=b/\o < arr.size)) w:=⟨Nat.le_refl _,fun _ _ q=>.inl q,fun _ _ _=>rfl,fun _ _ _ _ _ q=>q,q.bd,.refl w⟩
  refine ⟨_,q,ex,hkp,fun v hv=>⟨rfl,?_⟩⟩
  obtain ⟨_,_,hv⟩:=hv
  rcases (hv _ _ _ _ ho).2 rfl with ⟨hn,a0,q⟩ | ⟨b',cap,q1,q2,q3,q4,_,_⟩
  ·exact .inl ⟨hn,a0,0,by rw [q]⟩
  rw [hb] at q1; cases q1
  refine .inr ⟨b,0,cap,by rw [q2],q3,q4,fun i hi=>?_⟩
  obtain ⟨us,u1,u2,u3⟩:=nX i hi
  refine ⟨us,u1.mono ex,u2,fun j v hj=>?_⟩
  have hjl:j < e.cells:=by
   have:=(List.getElem?_eq_some_iff.1 hj).1
   omega
  have alN:i * e.cells + e.cells<=x.n * e.cells:=by rw [<- Nat.succ_mul]; exact Nat.mul_le_mul_right _ hi
  refine ⟨.inr ⟨rfl,by omega⟩,?_⟩
  rw [cell_of_row w b _ arr T _ hh,Nat.zero_add]
  exact u3 j v hj
theorem SR.setEnv (h:SR P N G s a w ρ S F) {t:Nat} {sl:Slot} (hr:RS P G.Y S w s.heap ρ sl (a.tmps.getD t undef)):SR P N G { s with env:=setEnv s.env t sl } a w ρ S F:=by
 refine ⟨h.size,h.bw,fun u=>?_,h.obj,h.inj,h.ext,h.new,h.same,h.tr,h.fb,h.f0,h.sub,h.fs,h.pins⟩
 by_cases hu:u=t
 ·subst hu; simpa only [Go.Dm.setEnv,Nat.beq_refl,cond_true] using hr
 ·simpa only [Go.Dm.setEnv,bF hu,cond_false] using h.env u
theorem SX.VA (hG:G.Ok P) (h:SX P N G s a w) (t:Nat):SX P N G (VA s t) a w:=by
 unfold Go.Dm.VA
 split
 ·rename_i id ht
  split
  ·rename_i ds ho
   split
   ·rename_i τ hc
    split
    ·rename_i x hx
     obtain ⟨ρ,S,F,h⟩:=h
     have hp:=h.env t
     rw [ht] at hp
     obtain ⟨b,arr,T,hb,hv,hh,hr⟩:=vI h ho hp
     have q:=h.gone hG (m:=arr.size) (by rw [ho]; trivial) (by rw [ho]; rfl) hb
     refine ⟨ρ,_,F,(q.setEnv (t:=t) (sl:=.v (.pc (.ptr τ) x)) ⟨rfl,b,0,arr.toList,by rw [hv],?_,?_,fun j v hj=>?_⟩).of_eq rfl rfl rfl rfl⟩
     ·exact (fN hr hx).mono ⟨Nat.le_refl _,fun _ _ q=>.inl q,fun _ _ _=>rfl,fun _ _ _ _ _ q=>q,q.bd,.refl w⟩
     ·exact R.len (fN hr hx)
     ·have hj':j < arr.size:=by have:=(List.getElem?_eq_some_iff.1 hj).1; simpa using this
      refine ⟨.inr ⟨rfl,by omega⟩,?_⟩
      rw [cell_of_row w b (0 + j) arr T _ hh,Nat.zero_add,<- Array.getElem?_toList]
      exact hj
    ·exact h
   ·exact h
  ·exact h
 ·exact h
theorem SX.tV (hG:G.Ok P) (h:SX P N G s a w) (t:Nat):SX P N G (tV s t) a w:=by
 unfold Go.Dm.tV
 split
 ·rename_i id bG ht
  split
  ·rename_i cur T e x ho
   split
   ·rename_i td
    cases Nat.eq_of_beq_eq_true td
    obtain ⟨ρ,S,F,h⟩:=h
    have hp:=h.env t
    rw [ht] at hp
    obtain ⟨S',q,_,_,hq⟩:=h.freeze hG ho
    exact ⟨ρ,S',F,(q.setEnv (t:=t) (sl:=.v (.pc (.sl e) x)) (hq _ hp)).of_eq rfl rfl rfl rfl⟩
   ·exact h
  ·exact h
 ·rename_i id ht
  split
  ·rename_i k v m ho
   obtain ⟨ρ,S,F,h⟩:=h
   have hp:=h.env t
   rw [ht] at hp
   obtain ⟨_,_,hp⟩:=hp
   obtain ⟨b,hb,hv⟩:=hp _ _ _ ho
   have cK:=h.obj id
   rw [ho] at cK
   obtain ⟨b',es,c,hb',jJ,hh,⟨p1,p2,p3,p4⟩,hm,hS⟩:=cK
   rw [hb] at hb'; cases hb'
   have q:=h.gone hG (m:=1) (by rw [ho]; trivial) (by rw [ho]; rfl) hb
   exact ⟨ρ,_,F,(q.setEnv (t:=t) (sl:=.v (.pc (.map k v) m)) ⟨rfl,p1,p2,p3,p4,.inr ⟨b,es,c,by rw [hv],.inr ⟨rfl,by omega⟩,hh,hm.1⟩⟩).of_eq rfl rfl rfl rfl⟩
  ·exact h
 ·exact h
theorem Kept.trans {w1 w2 w3:World} {ρ1 ρ2 ρ3:fA} {id:Nat} {o1 o2 o3:bu} (h:Kept w1 w2 ρ1 ρ2 id o1 o2) (h':Kept w2 w3 ρ2 ρ3 id o2 o3):Kept w1 w3 ρ1 ρ3 id o1 o3:=by
 cases o1 with
 | none=>trivial
 | gone=>rw [show o2=_ from h] at h'; exact h'
 | box ds =>
  rcases h with rfl | ⟨⟨ds',rfl⟩,e⟩
  ·exact .inl h'
  ·rcases h' with rfl | ⟨⟨ds',rfl⟩,e'⟩
   ·exact .inl rfl
   ·exact .inr ⟨⟨_,rfl⟩,e'.trans e⟩
 | chain cur T k n =>
  obtain ⟨c2,n2,rfl,l2,q2⟩:=h
  obtain ⟨c3,n3,rfl,l3,q3⟩:=h'
  refine ⟨c3,n3,rfl,by omega,fun e=>?_⟩
  obtain ⟨a1,a2,a3⟩:=q2 (by omega)
  obtain ⟨b1,b2,b3⟩:=q3 (by omega)
  refine ⟨by omega,b2.trans a2,fun b hb arr T hh=>?_⟩
  have h2:=a3 b hb arr T hh
  exact (b3 b (a2.trans hb) arr T (h2.trans hh)).trans h2
 | row cur T e s =>
  rcases h with rfl | ⟨c2,s2,rfl,l2,q2⟩
  ·exact .inl h'
  rcases h' with rfl | ⟨c3,s3,rfl,l3,q3⟩
  ·exact .inl rfl
  refine .inr ⟨c3,s3,rfl,by omega,fun e=>?_⟩
  obtain ⟨a1,a2⟩:=q2 (by omega)
  obtain ⟨b1,b2⟩:=q3 (by omega)
  refine ⟨by omega,?_⟩
  rcases a2 with a2 | ⟨a2,a3⟩
  ·rcases b2 with b2 | ⟨b2,b3⟩
   ·exact .inl (b2.trans a2)
   ·exact .inr ⟨by omega,a2.symm.trans b3⟩
  ·exact .inr ⟨a2,a3⟩
 | mp k v m =>
  rcases h with rfl | ⟨⟨m',rfl⟩,e⟩
  ·exact .inl h'
  ·rcases h' with rfl | ⟨⟨m',rfl⟩,e'⟩
   ·exact .inl rfl
   ·exact .inr ⟨⟨_,rfl⟩,e'.trans e⟩
 | rows cur T e d =>
  rcases h with rfl | ⟨c2,d2,rfl,l2,n2,r2,q2⟩
  ·exact .inl h'
  rcases h' with rfl | ⟨c3,d3,rfl,l3,n3,r3,q3⟩
  ·exact .inl rfl
  refine .inr ⟨c3,d3,rfl,by omega,n3.trans n2,r3.trans r2,fun e=>?_⟩
  obtain ⟨a1,a2⟩:=q2 (by omega)
  obtain ⟨b1,b2⟩:=q3 (by omega)
  exact ⟨fun i hi=>(b1 i (by omega)).trans (a1 i hi),fun b hb=>(b2 b (r2.trans hb)).trans (a2 b hb)⟩
theorem gu:∀ {ds:List DC} {h:Nat->bu} {id:Nat} {ds0:List DC},h id = .box ds0->(bZ ds h).2 id = .box ds0
 | [],_,_,_,hb=>hb
 | d :: ds,h,id,ds0,hb=>by
  cases d with
  | row i bG =>
   cases ho:h i with
   | row cur T e x =>
    cases td:Nat.beq bG cur with
    | true =>
     simp only [bZ,ho,td]
     refine gu (ds:=ds) ?_
     have:id≠i:=fun e=>by subst e; rw [hb] at ho; cases ho
     simp only [aE,bF this,cond_false]; exact hb
    | false=>simp only [bZ,ho,td]; exact gu hb
   | _=>simp only [bZ,ho]; exact gu hb
  | _=>simp only [bZ]; exact gu hb
theorem qV (hG:G.Ok P):∀ {ds:List DC} {s:St} {S:CS} {us:List Value},SR P N G s a w ρ S F->RL (RC P G.Y S w s.heap ρ) ds us ->
  ∃ S',SR P N G { s with heap:=(bZ ds s.heap).2 } a w ρ S' F/\Ext0 S w S' w/\(∀ id,Kept w w ρ ρ id (s.heap id) ((bZ ds s.heap).2 id))/\RL (RC P G.Y S' w (bZ ds s.heap).2 ρ) (bZ ds s.heap).1 us
 | [],s,S,us,h,hr=>⟨S,h.of_eq rfl rfl rfl rfl,.refl h.bd,fun id=>.refl rfl fun _ _ _=>rfl,hr⟩
 | d :: ds,s,S,us,h,hr=>by
  cases us with
  | nil=>have:=hr.1; cases this
  | cons u us =>
  obtain ⟨r1,r2⟩:=hr.of_cons
  have keep:∃ S',SR P N G { s with heap:=(bZ ds s.heap).2 } a w ρ S' F/\Ext0 S w S' w/\(∀ id,Kept w w ρ ρ id (s.heap id) ((bZ ds s.heap).2 id))/\RL (RC P G.Y S' w (bZ ds s.heap).2 ρ) (d :: (bZ ds s.heap).1) (u :: us):=by
   obtain ⟨S',q1,q2,q3,q4⟩:=qV hG h r2
   exact ⟨S',q1,q2,q3,.cons (r1.tr q2 q3) q4⟩
  cases d with
  | row id bG =>
   cases ho:s.heap id with
   | row cur T e x =>
    cases td:Nat.beq bG cur with
    | true =>
     simp only [bZ,ho,td]
     cases Nat.eq_of_beq_eq_true td
     obtain ⟨S1,q1,q2,q3,q4⟩:=h.freeze hG ho
     obtain ⟨S',p1,p2,p3,p4⟩:=qV (s:={ s with heap:=aE s.heap id .gone }) hG q1 (r2.imp fun d u hd=>hd.tr q2 q3)
     refine ⟨S',p1,q2.trans p2,fun i=>?_,.cons ((q4 _ r1).tr p2 p3) p4⟩
     exact Kept.trans (q3 i) (p3 i)
    | false=>simp only [bZ,ho,td]; exact keep
   | _=>simp only [bZ,ho]; exact keep
  | _=>simp only [bZ]; exact keep
theorem SX.AU (hG:G.Ok P) (h:SX P N G s a w) (t:Nat):SX P N G (AU s t) a w:=by
  unfold Go.Dm.AU
  split
  · rename_i id ht
    split
    · rename_i ds ho
      split
      · obtain ⟨ρ,S,F,h⟩:=h
        have cK:=h.obj id
        rw [ho] at cK
        obtain ⟨b,arr,T,hb,jJ,hh,hr,hS⟩:=cK
        obtain ⟨S',q1,q2,q3,q4⟩:=qV hG h hr
        have hk:=q3 id
        rw [ho] at hk
        rcases hk with hk | ⟨⟨ds',hk⟩,_⟩
        · -- the box itself is no row
          exfalso
          have:=gu (ds:=ds) (h:=s.heap) (id:=id) (ds0:=ds) ho
          rw [this] at hk; cases hk
        · have hb':=gu (ds:=ds) (h:=s.heap) (id:=id) (ds0:=ds) ho
          have zi:∀ o,¬ S' b o:=by
            have:=q1.obj id
            have h3:({ s with heap:=(bZ ds s.heap).2 }:St).heap id = .box ds:=hb'
            rw [h3] at this
            obtain ⟨b2,_,_,e1,_,_,_,e2⟩:=this
            rw [hb] at e1; cases e1; exact e2
          have q:=q1.Lj hG (id:=id) (b:=b) (o:=.box (bZ ds s.heap).1) (by show live ((bZ ds s.heap).2 id); rw [hb']; trivial) hb (.refl q1.bd) (dX.refl _ _) rfl (fun _ _ q=>.inl q)
            (by show Kept w w ρ ρ id ((bZ ds s.heap).2 id) _; rw [hb']; exact .inr ⟨⟨_,rfl⟩,rfl⟩)
            (by
              refine ⟨b,arr,T,hb,jJ,hh,q4.imp fun d u hd=>hd.tr (.refl q1.bd) fun j=>?_,zi⟩
              show Kept w w ρ ρ j ((bZ ds s.heap).2 j) (aE (bZ ds s.heap).2 id (.box (bZ ds s.heap).1) j)
              by_cases hj:j=id
              · subst hj; simp only [aE,Nat.beq_refl,cond_true]; rw [hb']; exact .inr ⟨⟨_,rfl⟩,rfl⟩
              · simp only [aE,bF hj,cond_false]; exact .refl rfl fun _ _ _=>rfl)
          exact ⟨ρ,S',F,q.of_eq rfl rfl rfl rfl⟩
      · exact h
    · exact h
  · exact h
theorem SX.jv (hG:G.Ok P):∀ (ts:List Nat) {s:St},SX P N G s a w->SX P N G (jv s ts) a w
 | [],_,h=>h
 | t :: ts,_,h=>SX.jv hG ts (h.AU hG t)
theorem SX.sq (hG:G.Ok P):∀ (ts:List Nat) {s:St},SX P N G s a w->SX P N G (sq s ts) a w
 | [],_,h=>h
 | t :: ts,_,h=>SX.sq hG ts (h.VA hG t)
theorem SX.dO (hG:G.Ok P):∀ (ts:List Nat) {s:St},SX P N G s a w->SX P N G (dO s ts) a w
 | [],_,h=>h
 | t :: ts,_,h=>SX.dO hG ts (h.tV hG t)
theorem SX.zh (hG:G.Ok P) (h:SX P N G s a w):SX P N G (zh P E Γ s ops) a w:=SX.sq hG _ (SX.jv hG _ (SX.jv hG _ (SX.dO hG _ h)))
def nj (P:Program) (N:Nat) (G:Gh):Out->Exit->Act->World->Prop
 | .norm s,.normal,a,w=>SX P N G s a w
 | .exit id s,.exit id',a,w=>id=id'/\SX P N G s a w
 | .ret s,.ret,a,w=>SX P N G s a w
 | .bP d s,.panic ch,a,w=>Sv P N G s a w d ch
 | _,_,_,_=>False
def Out.Lh (G:Gh):Out->Prop
 | .bad=>False
 | .bP .jI s=>YG G s
 | _=>True
def dF (P:Program) (N:Nat) (G:Gh) (fid:FuncId) (Fw:Fence) (r:Nat) (c:Code) (f:St->Tree Out):Prop:=
 ∀ (s:St) (a:Act) (w:World),SX P N G s a w->(∀ o,(f s).Has o->o.Lh G)->yJ fid Fw r P c (fun e a' w'=>∃ o,(f s).Has o/\nj P N G o e a' w') a w
def ff (P:Program) (N:Nat) (G:Gh) (fid:FuncId) (Fw:Fence) (r:Nat):Code->List Loop->Prop
 | .seq a b,ls=>ff P N G fid Fw r a (ls.take (Code.loops a))/\ff P N G fid Fw r b (ls.drop (Code.loops a))
 | .cond _ a b,ls=>ff P N G fid Fw r a (ls.take (Code.loops a))/\ff P N G fid Fw r b (ls.drop (Code.loops a))
 | .block _ b,ls=>ff P N G fid Fw r b ls
 | .scope b,ls=>ff P N G fid Fw r b ls
 | .loop b,ls=>match ls with
  | .ia _ inner :: _=>ff P N G fid Fw r b inner
  | .known f :: _=>dF P N G fid Fw r (.loop b) f
  | []=>True
 | .rangeFunc g ps as b,ls=>match ls with
  | .known f :: _=>dF P N G fid Fw r (.rangeFunc g ps as b) f
  | _=>True
 | _,_=>True
theorem EV (hE:Env P E Γ G Fw) {β:Type} {T:β->Prop} {ch:β->β->β} (kG:∀ a b,T (ch a b)->T a/\T b) {K:Out->β} (dr:¬ T (K .bad)/\∀ s',T (K (.bP .jI s'))->YG G s') {id:Nat} {draw:Bool} {ls:List Loop}
  (hT:T (fQ P E Γ G.lo N ch (.region id ops draw) ls s K)) (h:SX P N G s a w) :
  (Code.region id ops draw).wpIn Fw r P (fun e a' w'=>∃ o,nj P N G o e a' w'/\T (K o)) a w:=by
 have h:=h.zh (E:=E) (Γ:=Γ) (ops:=ops) hE.gh
 cases draw with
 | false =>
  have hT:T (VE P E Γ G.lo N ch ops ops.toList (zh P E Γ s ops) K):=hT
  refine wpIn_region ?_
  have:=Bt (Fw:=Fw) (r:=r) (ops:=ops) hE kG dr (Q:=fun e a' w'=>∃ o,nj P N G o e a' w'/\T (K o)) (fun s' a' w' q1 q2=>⟨.norm s',q2,q1⟩) (fun d s' c a' w' q1 q2=>⟨.bP d s',q2,q1⟩) (l:=ops.toList) (i:=0) (by simp) h hT
  rw [List.range_eq_range']
  simpa using this
 | true =>
  have hT:T (match Pr E ops with
   | some k=>tU P E Γ G.lo N ops (ops.toList.take k) 0 [] (zh P E Γ s ops) (alB P E Γ N ops k K)
   | none=>match adq E ops with
    | none=>tU P E Γ G.lo N ops ops.toList 0 [] (zh P E Γ s ops) (Ik N ops K)
    | some k=>tU P E Γ G.lo N ops (ops.toList.take k) 0 [] (zh P E Γ s ops) (alu P E Γ G.lo N ch ops k K)):=hT
  generalize zh P E Γ s ops=s at hT h
  have PE:mY ops=true->∀ (i:Nat) (o:Oper),ops[i]? = some o->∀ c,o.op ≠ .defer c:=fun c3 i o ho c e=>by
   unfold mY at c3
   rw [List.all_eq_true] at c3
   have:=c3 o (Array.mem_toList_iff.2 (Array.mem_of_getElem? ho))
   rw [e] at this; cases this
  have Pn:SX P N G (s.x.st s.base s.bw) a { w with drawn:=w.drawn + 1 }:=by obtain ⟨ρ,S,F,q⟩:=h; exact ⟨ρ,S,F,(q.drew hE.gh.c).of_eq rfl rfl rfl rfl⟩
  cases hcn:Pr E ops with
  | some k =>
   rw [hcn] at hT
   simp only at hT
   have Vo:VG ops k=true:=by
    unfold Pr at hcn
    split at hcn
    ·exact List.find?_some hcn
    ·cases hcn
   unfold VG at Vo
   split at Vo
   case h_2=>cases Vo
   rename_i c hpat
   have hsize:ops.size=k + 5:=by
    unfold jx at Vo
    simp only [Bool.and_eq_true] at Vo
    exact Nat.eq_of_beq_eq_true Vo.1.1.1.1.1
   have avK:∀ j,k<=j->j < ops.size->(∀ i,i < k->dH ops ops.size j i=true)\/∃ i,k<=i/\i < ops.size/\dH ops ops.size j i=true:=fun j hj hjs=>by
    have hb:=Vo
    unfold jx at hb
    simp only [Bool.and_eq_true,List.all_eq_true,List.mem_range] at hb
    obtain ⟨⟨⟨⟨⟨_,w0⟩,w1⟩,w3⟩,w4⟩,_⟩:=hb
    have:j=k\/j=k + 1\/j=k + 2\/j=k + 3\/j=k + 4:=by omega
    rcases this with rfl | rfl | rfl | rfl | rfl
    ·exact .inl fun i hi=>(w0 i hi).1
    ·exact .inr ⟨k,Nat.le_refl _,by omega,w1⟩
    ·exact .inl fun i hi=>(w0 i hi).2
    ·exact .inr ⟨k + 2,by omega,by omega,w3⟩
    ·exact .inr ⟨k + 1,by omega,by omega,w4⟩
   rcases ni (P:=P) (E:=E) (Γ:=Γ) (N:=N) (ops:=ops) (lo:=G.lo) (K:=alB P E Γ N ops k K) (l:=ops.toList.take k) (i:=0) (log:=[]) (s:=s) (fun j o h=>by
     rw [List.getElem?_take] at h
     split at h
     ·simpa using h
     ·cases h) with ⟨s',ER,h1,hb,hd,h2,h3⟩ | h3
   ·rw [h3] at hT
    rw [List.append_nil] at hT
    have h2:ER.map (·.i)=List.range' 0 k:=by rw [h2,List.length_take,Array.length_toList,Nat.min_eq_left (by omega)]
    have hlen:ER.length=k:=by have:=congrArg List.length h2; simpa using this
    have hT:T (match eC ops && lU ops ER.reverse && mY ops,xy ops k with
     | true,some c=>match VH P E Γ N c s' with
      | some s2=>K (.norm (nextRegion N s2))
      | none=>K .bad
     | _,_=>K .bad):=hT
    rw [hpat] at hT
    cases hc:(eC ops && lU ops ER.reverse && mY ops) with
    | false=>rw [hc] at hT; exact absurd hT dr.1
    | true =>
     rw [hc] at hT
     simp only [Bool.and_eq_true] at hc hT
     obtain ⟨⟨c1,c2⟩,c3⟩:=hc
     cases hcd:VH P E Γ N c s' with
     | none=>rw [hcd] at hT; exact absurd hT dr.1
     | some s2 =>
      rw [hcd] at hT
      have hT:T (K (.norm (nextRegion N s2))):=hT
      refine wpIn_region_any hE.mixed ?_
      have hsz:ops.size=5 + k:=by omega
      rw [hsz]
      refine qU hE (PE c3) c1 (y:=s'.x) (base:=s.base) (bw:=s.bw) (by omega) avK ?_ k hlen ?_ ?_ ?_ (by simp; omega) ?_ ?_ h1 Pn
      ·intro listed a' w' hu hls gY hx
       have hx:SX P N G s' a' w':=hx.of_eq rfl rfl rfl hd
       exact SW hE hpat c1 Vo hcd (fun a2 w2 q=>⟨.norm (nextRegion N s2),q.of_eq rfl rfl rfl rfl,hT⟩) hu hls gY hx
      ·rw [h2]; exact List.pairwise_lt_range' ..
      ·intro f hf
       have:f.i∈List.range' 0 k:=by rw [<- h2]; exact List.mem_map.2 ⟨f,hf,rfl⟩
       rw [List.mem_range'_1] at this
       omega
      ·intro i hi
       rw [h2]
       have:i < 5 + k:=by omega
       simp [Array.getD_eq_getD_getElem?,this,List.mem_range'_1]
       omega
      ·intro i o ho nY
       have:i < ops.size:=(Array.getElem?_eq_some_iff.1 ho).1
       have:i < 5 + k:=by omega
       simp [Array.getD_eq_getD_getElem?,this] at nY
      ·have:=fZ c2
       rwa [List.pairwise_reverse] at this
   ·rw [h3] at hT
    exact absurd hT dr.1
  | none =>
  rw [hcn] at hT
  simp only at hT
  cases SZ:adq E ops with
  | none =>
   rw [SZ] at hT
   simp only at hT
   rcases ni (P:=P) (E:=E) (Γ:=Γ) (N:=N) (ops:=ops) (lo:=G.lo) (K:=Ik N ops K) (l:=ops.toList) (i:=0) (log:=[]) (s:=s) (fun j o h=>by simpa using h) with ⟨s',ER,h1,hb,hd,h2,h3⟩ | h3
   ·rw [h3] at hT
    rw [List.append_nil] at hT
    have hlen:ER.length=ops.size:=by have:=congrArg List.length h2; simpa using this
    have hT:T (match eC ops && lU ops ER.reverse && mY ops with
     | true=>K (.norm (nextRegion N s'))
     | false=>K .bad):=hT
    cases hc:(eC ops && lU ops ER.reverse && mY ops) with
    | false=>rw [hc] at hT; exact absurd hT dr.1
    | true =>
     rw [hc] at hT
     simp only [Bool.and_eq_true] at hc
     obtain ⟨⟨c1,c2⟩,c3⟩:=hc
     refine wpIn_region_any hE.mixed ?_
     refine jK hE (PE c3) c1 (y:=s'.x) (base:=s.base) (bw:=s.bw) (fun a' w' q=>⟨.norm (nextRegion N s'),q.of_eq rfl rfl rfl hd,hT⟩) ops.size hlen ?_ ?_ ?_ (by simp) ?_ ?_ h1 Pn
     ·rw [h2]; exact List.pairwise_lt_range' ..
     ·intro f hf
      have:f.i∈List.range' 0 ops.toList.length:=by rw [<- h2]; exact List.mem_map.2 ⟨f,hf,rfl⟩
      rw [List.mem_range'_1] at this
      simpa using this.2
     ·intro i hi
      rw [h2]
      simp [Array.getD_eq_getD_getElem?,hi,List.mem_range'_1]
     ·intro i o ho nY
      have:i < ops.size:=(Array.getElem?_eq_some_iff.1 ho).1
      simp [Array.getD_eq_getD_getElem?,this] at nY
     ·have:=fZ c2
      rwa [List.pairwise_reverse] at this
   ·rw [h3] at hT
    exact absurd hT dr.1
  | some k =>
   rw [SZ] at hT
   simp only at hT
   have Vo:VF E ops k=true:=by
    unfold adq at SZ
    split at SZ
    ·exact List.find?_some SZ
    ·cases SZ
   unfold VF at Vo
   simp only [Bool.and_eq_true,List.all_eq_true,List.mem_range,Bool.or_eq_true] at Vo
   obtain ⟨⟨b1,b2⟩,b3⟩:=Vo
   have hks:k < ops.size:=by
    cases ho:ops[k]? with
    | none=>rw [ho] at b1; cases b1
    | some o=>exact (Array.getElem?_eq_some_iff.1 ho).1
   have b3:∀ j,k < j->j < ops.size->dH ops ops.size j k=true:=fun j hj hs=>by
    rcases b3 j hs with q | q
    ·have:=Nat.le_of_ble_eq_true q; omega
    ·exact q
   rcases ni (P:=P) (E:=E) (Γ:=Γ) (N:=N) (ops:=ops) (lo:=G.lo) (K:=alu P E Γ G.lo N ch ops k K) (l:=ops.toList.take k) (i:=0) (log:=[]) (s:=s) (fun j o h=>by
     rw [List.getElem?_take] at h
     split at h
     ·simpa using h
     ·cases h) with ⟨s',ER,h1,hb,hd,h2,h3⟩ | h3
   ·rw [h3] at hT
    rw [List.append_nil] at hT
    have h2:ER.map (·.i)=List.range' 0 k:=by rw [h2,List.length_take,Array.length_toList,Nat.min_eq_left (Nat.le_of_lt hks)]
    have hlen:ER.length=k:=by have:=congrArg List.length h2; simpa using this
    have hT:T (match eC ops && lU ops ER.reverse && mY ops,ops[k]? with
     | true,some o=>Il P E Γ G.lo N ch ops o s' fun
      | .ok s2=>tU P E Γ G.lo N ops (ops.toList.drop (k + 1)) (k + 1) [] s2 (Ik N ops K)
      | .bP d s2=>K (.bP d s2)
      | .bad=>K .bad
     | _,_=>K .bad):=hT
    have hok:ops[k]? = some ops[k]:=Array.getElem?_eq_getElem hks
    generalize ops[k]=o at hok
    rw [hok] at hT
    cases hc:(eC ops && lU ops ER.reverse && mY ops) with
    | false=>rw [hc] at hT; exact absurd hT dr.1
    | true =>
     rw [hc] at hT
     simp only [Bool.and_eq_true] at hc hT
     obtain ⟨⟨c1,c2⟩,c3⟩:=hc
     refine wpIn_region_any hE.mixed ?_
     have hsz:ops.size=(ops.size - k) + k:=by omega
     rw [hsz]
     refine qU hE (PE c3) c1 (y:=s'.x) (base:=s.base) (bw:=s.bw) (Nat.le_of_lt hks) (fun j hj hjs=>by
      rcases Nat.lt_or_eq_of_le hj with q | q
      ·exact .inr ⟨k,Nat.le_refl _,hks,b3 j q hjs⟩
      ·subst q; exact .inl b2) ?_ k hlen ?_ ?_ ?_ (by simp; omega) ?_ ?_ h1 Pn
     ·intro listed a' w' hu hls gY hx
      have hx:SX P N G s' a' w':=hx.of_eq rfl rfl rfl hd
      have hm:ops.size - k=(ops.size - (k + 1)) + 1:=by omega
      rw [hm]
      have hrd:k∈Region.ready .any ops listed:=mem_ready.2 ⟨(hu k hks).2 (Nat.le_refl _),o,hok,fun e he hbd=>by
       have hlt:=iu c1 hok e he hbd
       have h1:¬ listed.getD e.on true=false:=fun q=>by have:=(hu e.on (by omega)).1 q; omega
       have hl:e.on < listed.size:=by omega
       simp [Array.getD_eq_getD_getElem?,hl] at h1 ⊢
       exact h1⟩
      refine ⟨fun h0=>(by rw [h0] at hrd; cases hrd),fun i hi=>?_⟩
      obtain ⟨i1,oi,i2,i3⟩:=mem_ready.1 hi
      have SM:i < ops.size:=(Array.getElem?_eq_some_iff.1 i2).1
      have hik:i=k:=by
       rcases Nat.lt_or_eq_of_le ((hu i SM).1 i1) with q | q
       ·exfalso
        have:=eJ gY _ _ _ (b3 i q SM) (fun o' ho' e he hbd=>by rw [i2] at ho'; cases ho'; exact i3 e he hbd)
        have h4:=(hu k hks).2 (Nat.le_refl _)
        have hl:k < listed.size:=by omega
        simp [Array.getD_eq_getD_getElem?,hl] at this h4
        rw [this] at h4; cases h4
       ·exact q.symm
      subst hik
      refine wpOpIn_mono ?_ (yF (K:=fun
       | .ok s2=>tU P E Γ G.lo N ops (ops.toList.drop (i + 1)) (i + 1) [] s2 (Ik N ops K)
       | .bP d s2=>K (.bP d s2)
       | .bad=>K .bad) hE kG dr hok hx hT (fun d s2 c w2 q1 q2=>⟨.bP d s2,q2,q1⟩))
      rintro a2 w2 ⟨s2,q1,q2⟩
      have q2:T (tU P E Γ G.lo N ops (ops.toList.drop (i + 1)) (i + 1) [] s2 (Ik N ops K)):=q2
      rcases ni (P:=P) (E:=E) (Γ:=Γ) (N:=N) (ops:=ops) (lo:=G.lo) (K:=Ik N ops K) (l:=ops.toList.drop (i + 1)) (i:=i + 1) (log:=[]) (s:=s2) (fun j o h=>by
        rw [List.getElem?_drop] at h
        simpa using h) with ⟨s3,adD,g1,gb,gd,g2,g3⟩ | g3
      ·rw [g3] at q2
       rw [List.append_nil] at q2
       have g2:adD.map (·.i)=List.range' (i + 1) (ops.size - (i + 1)):=by rw [g2,List.length_drop,Array.length_toList]
       have aGl:adD.length=ops.size - (i + 1):=by have:=congrArg List.length g2; simpa using this
       have q2:T (match eC ops && lU ops adD.reverse && mY ops with
        | true=>K (.norm (nextRegion N s3))
        | false=>K .bad):=q2
       cases hc:(eC ops && lU ops adD.reverse && mY ops) with
       | false=>rw [hc] at q2; exact absurd q2 dr.1
       | true =>
        rw [hc] at q2
        simp only [Bool.and_eq_true] at hc
        refine jK hE (PE c3) c1 (y:=s3.x) (base:=s2.base) (bw:=s2.bw) (fun a' w' q=>⟨.norm (nextRegion N s3),q.of_eq rfl rfl rfl gd,q2⟩) _ aGl ?_ ?_ ?_ (by simpa using hls) ?_ ?_ g1 (q1.of_eq rfl rfl rfl rfl)
        ·rw [g2]; exact List.pairwise_lt_range' ..
        ·intro f hf
         have:f.i∈List.range' (i + 1) (ops.size - (i + 1)):=by rw [<- g2]; exact List.mem_map.2 ⟨f,hf,rfl⟩
         rw [List.mem_range'_1] at this
         omega
        ·intro j hj
         rw [g2,List.mem_range'_1]
         by_cases hji:i=j
         ·subst hji
          have hl:i < listed.size:=by omega
          simp [Array.getD_eq_getD_getElem?,hl]
          try omega
         ·rw [getD_set_ne true hji,hu j hj]
          omega
        ·intro i' o' ho' nY e he hbd
         have keep:∀ k,listed.getD k false=true->(listed.setIfInBounds i true).getD k false=true:=fun k hk=>by
          by_cases Vm:i=k
          ·subst Vm
           have hl:i < listed.size:=by omega
           simp [Array.getD_eq_getD_getElem?,hl]
          ·rw [getD_set_ne false Vm]; exact hk
         by_cases Lw:i=i'
         ·subst Lw
          rw [i2] at ho'; cases ho'
          exact keep _ (i3 e he hbd)
         ·rw [getD_set_ne false Lw] at nY
          exact keep _ (gY i' o' ho' nY e he hbd)
        ·have:=fZ hc.1.2
         rwa [List.pairwise_reverse] at this
      ·rw [g3] at q2
       exact absurd q2 dr.1
     ·rw [h2]; exact List.pairwise_lt_range' ..
     ·intro f hf
      have:f.i∈List.range' 0 k:=by rw [<- h2]; exact List.mem_map.2 ⟨f,hf,rfl⟩
      rw [List.mem_range'_1] at this
      omega
     ·intro i hi
      rw [h2]
      have:i < ops.size - k + k:=by omega
      simp [Array.getD_eq_getD_getElem?,this,List.mem_range'_1]
      omega
     ·intro i o ho nY
      have:i < ops.size:=(Array.getElem?_eq_some_iff.1 ho).1
      have:i < ops.size - k + k:=by omega
      simp [Array.getD_eq_getD_getElem?,this] at nY
     ·have:=fZ c2
      rwa [List.pairwise_reverse] at this
   ·rw [h3] at hT
    exact absurd hT dr.1
end Go.Dm
namespace Go.Dm
open Go.RowKit
variable {P:Program} {N:Nat} {G:Gh} {S S':CS} {w w':World} {s:St} {a:Act} {ρ ρ':fA} {F F':Nat->Prop} {heap heap':Nat->bu} {Y:Value} {E:cg} {Γ:Ctx} {Fw:Fence} {r:Nat} {ops:Array Oper} {lo base:Nat} {bw:List fu} {fid:FuncId}
theorem cF (hE:Env P E Γ G Fw):∀ {c:Code} {ls:List Loop} {β:Type} {T:β->Prop} {ch:β->β->β} {K:Out->β} {s:St} {a:Act} {w:World},(∀ a b,T (ch a b)->T a/\T b)->(¬ T (K .bad)/\∀ s',T (K (.bP .jI s'))->YG G s') ->
  T (fQ P E Γ G.lo N ch c ls s K)->ff P N G fid Fw r c ls->SX P N G s a w->yJ fid Fw r P c (fun e a' w'=>∃ o,nj P N G o e a' w'/\T (K o)) a w
 | .skip,ls,β,T,ch,K,s,a,w,kG,dr,hT,_,h=>Bw <| wpIn_skip ⟨.norm s,h,hT⟩
 | .region id ops draw,ls,β,T,ch,K,s,a,w,kG,dr,hT,_,h=>Bw <| EV hE kG dr hT h
 | .seq x y,ls,β,T,ch,K,s,a,w,kG,dr,hT,hl,h=>by
  refine adB (cN (cF hE (K:=adp (fun s'=>fQ P E Γ G.lo N ch y (ls.drop (Code.loops x)) s' K) K) kG dr hT hl.1 h) ?_)
  rintro e a' w' ⟨o,ho,jA⟩
  cases o with
  | norm s' =>
   cases e <;> first | exact (ho.elim) | skip
   exact cF hE kG dr jA hl.2 ho
  | exit id s'=>cases e <;> first | exact ho.elim | exact ⟨_,ho,jA⟩
  | ret s'=>cases e <;> first | exact ho.elim | exact ⟨_,ho,jA⟩
  | bP d s'=>cases e <;> first | exact ho.elim | exact ⟨_,ho,jA⟩
  | bad=>cases e <;> exact ho.elim
 | .cond c x y,ls,β,T,ch,K,s,a,w,kG,dr,hT,hl,h=>by
  simp only [fQ] at hT
  split at hT
  ·rename_i t hc
   have h0:=h
   obtain ⟨ρ,S,F,hs⟩:=h
   have Vk:=xB hE.fns hs c
   rw [hc] at Vk
   have hcb:=nU Vk
   have vN:∀ u,c = .tmp u->∀ b:Bool,t=b->setEnv s.env u (.v (.pc .bool b))=s.env:=fun u hu b hb=>by
    subst hu hb; exact qQ _ _ _ hc
   obtain hb | hb:t=true\/t=false:=by
    have:(show Bool from t)=true\/(show Bool from t)=false:=by cases (show Bool from t) <;> simp
    exact this
   ·subst hb
    simp only [cond_true] at hT
    refine Dl hcb (cF hE kG dr hT hl.1 ?_)
    cases c with
    | tmp u=>exact h0.of_eq (vN u rfl true rfl) rfl rfl rfl
    | _=>exact h0
   ·subst hb
    simp only [cond_false] at hT
    refine Bx hcb (cF hE kG dr hT hl.2 ?_)
    cases c with
    | tmp u=>exact h0.of_eq (vN u rfl false rfl) rfl rfl rfl
    | _=>exact h0
  ·exact absurd hT dr.1
 | .block id x,ls,β,T,ch,K,s,a,w,kG,dr,hT,hl,h=>by
  refine SY (cN (cF hE (K:=EC id K) kG dr hT hl h) ?_)
  rintro e a' w' ⟨o,ho,jA⟩
  cases o with
  | norm s'=>cases e <;> first | exact ho.elim | exact ⟨_,ho,jA⟩
  | exit id' s' =>
   cases e <;> first | exact ho.elim | skip
   rename_i tS
   obtain ⟨rfl,ho⟩:=ho
   simp only [Exit.inBlock]
   by_cases hid:id'=id
   ·rw [if_pos hid]
    subst hid
    simp only [EC,Nat.beq_refl] at jA
    exact ⟨.norm s',ho,jA⟩
   ·rw [if_neg hid]
    simp only [EC,bF hid] at jA
    exact ⟨.exit id' s',⟨rfl,ho⟩,jA⟩
  | ret s'=>cases e <;> first | exact ho.elim | exact ⟨_,ho,jA⟩
  | bP d s'=>cases e <;> first | exact ho.elim | exact ⟨_,ho,jA⟩
  | bad=>cases e <;> exact ho.elim
 | .exit id,ls,β,T,ch,K,s,a,w,kG,dr,hT,_,h=>Bw <| wpIn_exit ⟨.exit id s,⟨rfl,h⟩,hT⟩
 | .ret,ls,β,T,ch,K,s,a,w,kG,dr,hT,_,h=>Bw <| wpIn_ret ⟨.ret s,h,hT⟩
 | .label l,ls,β,T,ch,K,s,a,w,kG,dr,hT,_,h=>Bw <| wpIn_label ⟨.norm s,h,hT⟩
 | .scope x,ls,β,T,ch,K,s,a,w,kG,dr,hT,hl,h=>by
  refine uk (cN (cF hE kG dr hT hl h) ?_)
  rintro e a' w' ⟨o,ho,jA⟩
  cases e <;> first | exact ⟨o,ho,jA⟩ | (cases o <;> exact ho.elim)
 | .rangeFunc g ps as b,ls,β,T,ch,K,s,a,w,kG,dr,hT,hl,h=>by
  cases ls with
  | nil=>exact absurd hT dr.1
  | cons l ls =>
   cases l with
   | known f =>
    have hT:T ((f s).run ch K):=hT
    have hall:=Tree.nR kG hT
    exact cN (hl s a w h (fun o ho=>by
     cases o with
     | bad=>exact absurd (hall _ ho) dr.1
     | bP d s'=>cases d <;> first | exact dr.2 _ (hall _ ho) | trivial
     | _=>trivial)) (fun e a' w' ⟨o,q1,q2⟩=>⟨o,q2,hall o q1⟩)
   | ia n inner=>exact absurd hT dr.1
 | .loop b,ls,β,T,ch,K,s,a,w,kG,dr,hT,hl,h=>by
  cases ls with
  | nil=>exact absurd hT dr.1
  | cons l ls =>
   cases l with
   | known f =>
    have hT:T ((f s).run ch K):=hT
    have hall:=Tree.nR kG hT
    exact cN (hl s a w h (fun o ho=>by
     cases o with
     | bad=>exact absurd (hall _ ho) dr.1
     | bP d s'=>cases d <;> first | exact dr.2 _ (hall _ ho) | trivial
     | _=>trivial)) (fun e a' w' ⟨o,q1,q2⟩=>⟨o,q2,hall o q1⟩)
   | ia n inner =>
    refine jL n ?_
    have key:∀ (n:Nat) (s:St) (a:Act) (w:World),T (Pt (fun s' K'=>fQ P E Γ G.lo N ch b inner s' K') n s K)->SX P N G s a w ->
      jZ fid Fw r P b (fun e a' w'=>∃ o,nj P N G o e a' w'/\T (K o)) n a w:=by
     intro n
     induction n with
     | zero=>intro s a w hT _; exact absurd hT dr.1
     | succ n ih =>
      intro s a w hT h
      unfold jZ
      refine cN (cF hE (K:=adp (fun s'=>Pt (fun s' K'=>fQ P E Γ G.lo N ch b inner s' K') n s' K) K) kG dr hT hl h) ?_
      rintro e a' w' ⟨o,ho,jA⟩
      cases o with
      | norm s' =>
       cases e <;> first | exact ho.elim | skip
       exact ih s' a' w' jA ho
      | exit id s'=>cases e <;> first | exact ho.elim | exact ⟨_,ho,jA⟩
      | ret s'=>cases e <;> first | exact ho.elim | exact ⟨_,ho,jA⟩
      | bP d s'=>cases e <;> first | exact ho.elim | exact ⟨_,ho,jA⟩
      | bad=>cases e <;> exact ho.elim
    exact key n s a w hT h
 | .goto _,ls,β,T,ch,K,s,a,w,kG,dr,hT,_,h=>absurd hT dr.1
 | .refuse _,ls,β,T,ch,K,s,a,w,kG,dr,hT,_,h=>absurd hT dr.1
end Go.Dm
namespace Go.Dm
open Go.RowKit
variable {P:Program} {N:Nat} {G:Gh} {S S':CS} {w w':World} {s:St} {a:Act} {ρ ρ':fA} {F F':Nat->Prop} {heap heap':Nat->bu} {Y:Value} {E:cg} {Γ:Ctx} {Fw:Fence} {r:Nat} {ops:Array Oper} {lo base:Nat} {bw:List fu}
inductive eT where
 | pc (τ:Ty)
 | own (id:Nat) (T:TypeId) (e:Ty)
 | rw (id:Nat) (T:TypeId) (e:Ty)
 | ptr (id:Nat)
 | row (id:Nat)
 | mp (id:Nat)
 | rows (id:Nat)
 | iM (f:FuncId) (ids:List Nat)
 | lR (f:FuncId) (τ:Ty) (ids:List Nat)
 | jI
 | top
 | k (n:Int)
inductive bg where
 | slot (t:Nat) (c:eT)
 | agg (t:Nat) (τ:Ty)
 | cells (t:Nat) (cs:List eT)
 | box (id:Nat) (cs:List eT)
 | row (id:Nat) (T:TypeId) (e:Ty)
 | mp (id:Nat) (k v:Ty)
 | rows (id:Nat) (T:TypeId) (e:Ty)
 | tr (e:Ty)
@[reducible] def eT.ty:eT->Ty
 | .pc τ=>τ
 | .own _ _ e=>.sl e
 | .rw _ _ e=>.sl e
 | .lR _ τ _=>τ
 | _=>.nil
@[reducible] def bM:List eT->Ty
 | []=>.nil
 | c :: cs=>.cons c.ty (bM cs)
@[reducible] def bg.ty:bg->Ty
 | .slot _ c=>c.ty
 | .agg _ τ=>.agg τ
 | .cells _ cs=>bM cs
 | .box _ cs=>bM cs
 | .row _ _ e=>.sl e
 | .mp _ k v=>.map k v
 | .rows _ _ e=>.sl (.sl e)
 | .tr e=>.sl e
@[reducible] def aa:List bg->Ty
 | []=>.nil
 | p :: ps=>.cons p.ty (aa ps)
def IS:bu->Bool
 | .box _=>true
 | _=>false
def isRow (bG:Nat):bu->Bool
 | .row cur _ _ _=>Nat.beq bG cur
 | _=>false
def aGm:bu->Bool
 | .mp _ _ _=>true
 | _=>false
def uo:List Nat->List Nat->Bool
 | [],[]=>true
 | a :: as,b :: bs=>Nat.beq a b && uo as bs
 | _,_=>false
def lQ (lo:Nat) (heap:Nat->bu):(c:eT)->DC->Option c.ty.den
 | .pc τ,d=>match τ.one with
  | true=>xp τ d
  | false=>none
 | .own id T e,.own id' v e' s=>match heap id' with
  | .chain v' T' k _=>match Nat.beq id id' && Nat.beq v v' && Nat.beq T T' && Nat.beq k e.cells with
   | true=>cH (σ:=.sl e') (.sl e) s
   | false=>none
  | _=>none
 | .own id _ e,.mU=>match heap id,e.flat && Nat.ble lo id with
  | .none,true=>some ⟨0,fun _=>e.dflt⟩
  | _,_=>none
 | .rw id T e,.row id' bG=>match heap id' with
  | .row cur T' e' s=>match Nat.beq id id' && Nat.beq bG cur && Nat.beq T T' with
   | true=>cH (σ:=.sl e') (.sl e) s
   | false=>none
  | _=>none
 | .rw id _ e,.mU=>match heap id,e.flat && Nat.blt 0 e.cells && Nat.ble lo id with
  | .none,true=>some ⟨0,fun _=>e.dflt⟩
  | _,_=>none
 | .ptr id,.ptr id' off=>match Nat.beq id id' && Nat.beq off 0 && IS (heap id') with
  | true=>some ()
  | false=>none
 | .row id,.row id' bG=>match Nat.beq id id' && isRow bG (heap id') with
  | true=>some ()
  | false=>none
 | .mp id,.mp id'=>match Nat.beq id id' && aGm (heap id') with
  | true=>some ()
  | false=>none
 | .rows id,.rows id'=>match Nat.beq id id' && tY (heap id') with
  | true=>some ()
  | false=>none
 | .iM f ids,.iM f' ids'=>match Nat.beq f f' && uo ids ids' && ids'.all fun i=>IS (heap i) with
  | true=>some ()
  | false=>none
 | .lR f τ ids,.lR f' τ' x ids'=>match Nat.beq f f' && uo ids ids' && ids'.all fun i=>IS (heap i) with
  | true=>cH (σ:=τ') τ x
  | false=>none
 | .jI,.jI=>some ()
 | .top,.top=>some ()
 | .k n,.pc (.int .i64) m=>match decide ((show Int from m)=n) with
  | true=>some ()
  | false=>none
 | _,_=>none
def sW (lo:Nat) (heap:Nat->bu):(cs:List eT)->List DC->Option (bM cs).den
 | [],[]=>some ()
 | c :: cs,d :: ds=>match lQ lo heap c d,sW lo heap cs ds with
  | some x,some y=>some (x,y)
  | _,_=>none
 | _,_=>none
def yK (cs:List eT):Bool:=cs.all fun
 | .own _ _ _=>false
 | .rw _ _ _=>false
 | _=>true
def uq (lo:Nat) (s:St):(p:bg)->Option p.ty.den
 | .slot t c=>match s.env t with
  | .v d=>lQ lo s.heap c d
  | _=>none
 | .agg t τ=>match s.env t,τ.flat with
  | .agg ds,true=>eV τ ds
  | _,_=>none
 | .cells t cs=>match s.env t,yK cs with
  | .agg ds,true=>sW lo s.heap cs ds
  | _,_=>none
 | .box id cs=>match s.heap id with
  | .box ds=>sW lo s.heap cs ds
  | _=>none
 | .row id T e=>match s.heap id with
  | .row _ T' e' x=>match Nat.beq T T' with
   | true=>cH (σ:=.sl e') (.sl e) x
   | false=>none
  | _=>none
 | .mp id k v=>match s.heap id with
  | .mp k' v' m=>cH (σ:=.map k' v') (.map k v) m
  | _=>none
 | .rows id T e=>match s.heap id with
  | .rows _ T' e' x=>match Nat.beq T T' with
   | true=>cH (σ:=.sl (.sl e')) (.sl (.sl e)) x
   | false=>none
  | _=>none
 | .tr e=>match s.tr with
  | ⟨e',true,x⟩=>cH (σ:=.sl e') (.sl e) x
  | _=>none
def rd (lo:Nat) (s:St):(ps:List bg)->Option (aa ps).den
 | []=>some ()
 | p :: ps=>match uq lo s p,rd lo s ps with
  | some x,some y=>some (x,y)
  | _,_=>none
def wrC (bG:Nat->Nat):(c:eT)->c.ty.den->DC
 | .pc τ,x=>.pc τ x
 | .own id _ e,x=>.own id (bG id) e x
 | .rw id _ _,_=>.row id (bG id)
 | .ptr id,_=>.ptr id 0
 | .row id,_=>.row id (bG id)
 | .mp id,_=>.mp id
 | .rows id,_=>.rows id
 | .iM f ids,_=>.iM f ids
 | .lR f τ ids,x=>.lR f τ x ids
 | .jI,_=>.jI
 | .top,_=>.top
 | .k n,_=>.pc (.int .i64) n
def adE (bG:Nat->Nat):(cs:List eT)->(bM cs).den->List DC
 | [],_=>[]
 | c :: cs,x=>wrC bG c (show c.ty.den×(bM cs).den from x).1 :: adE bG cs (show c.ty.den×(bM cs).den from x).2
def lY (bG:Nat->Nat):(ps:List bg)->(aa ps).den->Nat->Slot
 | [],_=>fun _=>.top
 | .slot t c :: ps,x=>setEnv (lY bG ps (show c.ty.den×(aa ps).den from x).2) t (.v (wrC bG c (show c.ty.den×(aa ps).den from x).1))
 | .agg t τ :: ps,x=>setEnv (lY bG ps (show τ.den×(aa ps).den from x).2) t (.agg (ee τ (show τ.den×(aa ps).den from x).1))
 | .cells t cs :: ps,x=>setEnv (lY bG ps (show (bM cs).den×(aa ps).den from x).2) t (.agg (adE bG cs (show (bM cs).den×(aa ps).den from x).1))
 | .box _ cs :: ps,x=>lY bG ps (show (bM cs).den×(aa ps).den from x).2
 | .row _ _ e :: ps,x=>lY bG ps (show Sl e.den×(aa ps).den from x).2
 | .mp _ k v :: ps,x=>lY bG ps (show (k.den->Option v.den)×(aa ps).den from x).2
 | .rows _ _ e :: ps,x=>lY bG ps (show Sl (Sl e.den)×(aa ps).den from x).2
 | .tr e :: ps,x=>lY bG ps (show Sl e.den×(aa ps).den from x).2
def jM (bG:Nat->Nat):(c:eT)->c.ty.den->List (Nat×bu)
 | .own id T e,x=>[(id,.chain (bG id) T e.cells (show Sl e.den from x).n)]
 | .rw id T e,x=>[(id,.row (bG id) T e (show Sl e.den from x))]
 | _,_=>[]
def fJ (bG:Nat->Nat):(cs:List eT)->(bM cs).den->List (Nat×bu)
 | [],_=>[]
 | c :: cs,x=>jM bG c (show c.ty.den×(bM cs).den from x).1 ++ fJ bG cs (show c.ty.den×(bM cs).den from x).2
def bC (bG:Nat->Nat):(ps:List bg)->(aa ps).den->List (Nat×bu)
 | [],_=>[]
 | .slot _ c :: ps,x=>jM bG c (show c.ty.den×(aa ps).den from x).1 ++ bC bG ps (show c.ty.den×(aa ps).den from x).2
 | .agg _ τ :: ps,x=>bC bG ps (show τ.den×(aa ps).den from x).2
 | .cells _ cs :: ps,x=>bC bG ps (show (bM cs).den×(aa ps).den from x).2
 | .box id cs :: ps,x=>(id,.box (adE bG cs (show (bM cs).den×(aa ps).den from x).1)) :: fJ bG cs (show (bM cs).den×(aa ps).den from x).1 ++ bC bG ps (show (bM cs).den×(aa ps).den from x).2
 | .row id T e :: ps,x=>(id,.row (bG id) T e (show Sl e.den×(aa ps).den from x).1) :: bC bG ps (show Sl e.den×(aa ps).den from x).2
 | .mp id k v :: ps,x=>(id,.mp k v (show (k.den->Option v.den)×(aa ps).den from x).1) :: bC bG ps (show (k.den->Option v.den)×(aa ps).den from x).2
 | .rows id T e :: ps,x=>(id,.rows (bG id + 1) T e (show Sl (Sl e.den)×(aa ps).den from x).1) :: bC bG ps (show Sl (Sl e.den)×(aa ps).den from x).2
 | .tr e :: ps,x=>bC bG ps (show Sl e.den×(aa ps).den from x).2
def bR:List (Nat×bu)->Nat->bu
 | [],_=>.none
 | p :: l,i=>bif Nat.beq i p.1 then p.2 else bR l i
def xG (t:Tr):(ps:List bg)->(aa ps).den->Tr
 | [],_=>t
 | .tr e :: _,x=>⟨e,true,(show Sl e.den×_ from x).1⟩
 | .slot _ c :: ps,x=>xG t ps (show c.ty.den×(aa ps).den from x).2
 | .agg _ τ :: ps,x=>xG t ps (show τ.den×(aa ps).den from x).2
 | .cells _ cs :: ps,x=>xG t ps (show (bM cs).den×(aa ps).den from x).2
 | .box _ cs :: ps,x=>xG t ps (show (bM cs).den×(aa ps).den from x).2
 | .row _ _ e :: ps,x=>xG t ps (show Sl e.den×(aa ps).den from x).2
 | .mp _ k v :: ps,x=>xG t ps (show (k.den->Option v.den)×(aa ps).den from x).2
 | .rows _ _ e :: ps,x=>xG t ps (show Sl (Sl e.den)×(aa ps).den from x).2
def Ta:List eT->List Nat
 | []=>[]
 | .own id _ _ :: cs=>id :: Ta cs
 | .rw id _ _ :: cs=>id :: Ta cs
 | _ :: cs=>Ta cs
def cz:List bg->List Nat
 | []=>[]
 | .slot _ c :: ps=>Ta [c] ++ cz ps
 | .box id cs :: ps=>id :: Ta cs ++ cz ps
 | .row id _ _ :: ps=>id :: cz ps
 | .mp id _ _ :: ps=>id :: cz ps
 | .rows id _ _ :: ps=>id :: cz ps
 | _ :: ps=>cz ps
def adF:List Nat->Nat
 | []=>0
 | i :: l=>bif Nat.blt i (adF l) then adF l else i
def al0 (lo:Nat) (ps:List bg):Nat:=adF [lo,adF (cz ps) + 1]
def wrV (bG:Nat->Nat) (lo:Nat) (t:Tr) (bw:List fu) (ps:List bg) (x:(aa ps).den):St:=⟨lY bG ps x,bR (bC bG ps x),xG t ps x,al0 lo ps,bw⟩
def wr (lo:Nat) (t:Tr) (bw:List fu) (ps:List bg) (x:(aa ps).den):St:=wrV (fun _=>0) lo t bw ps x
def fh:List bg->List Nat
 | []=>[]
 | .box id _ :: ps=>id :: fh ps
 | _ :: ps=>fh ps
def nk:List eT->List Nat
 | []=>[]
 | .rw id _ _ :: cs=>id :: nk cs
 | _ :: cs=>nk cs
def iX:List bg->List Nat
 | []=>[]
 | .slot _ c :: ps=>nk [c] ++ iX ps
 | .box _ cs :: ps=>nk cs ++ iX ps
 | .row id _ _ :: ps=>id :: iX ps
 | _ :: ps=>iX ps
def nq:List bg->List Nat
 | []=>[]
 | .mp id _ _ :: ps=>id :: nq ps
 | .rows id _ _ :: ps=>id :: nq ps
 | _ :: ps=>nq ps
def qW:List Nat->Bool
 | []=>true
 | i :: l=>!(l.any (Nat.beq i)) && qW l
def wfC (bs rs ms:List Nat):eT->Bool
 | .ptr id=>bs.any (Nat.beq id)
 | .row id=>rs.any (Nat.beq id)
 | .mp id=>ms.any (Nat.beq id)
 | .rows id=>ms.any (Nat.beq id)
 | .iM _ ids=>ids.all fun id=>bs.any (Nat.beq id)
 | .lR _ _ ids=>ids.all fun id=>bs.any (Nat.beq id)
 | _=>true
def kU (ps:List bg):Bool:=qW (cz ps) && ps.all fun
 | .slot _ c=>wfC (fh ps) (iX ps) (nq ps) c
 | .box _ cs=>cs.all (wfC (fh ps) (iX ps) (nq ps))
 | .cells _ cs=>cs.all (wfC (fh ps) (iX ps) (nq ps))
 | _=>true
def iw (ic:Nat->Option Nat) (heap:Nat->bu) (ρ:fA):fA:=fun id=>match ic id with
 | some b=>some b
 | none=>bif isNone (heap id) then none else ρ id
theorem any_beq {i:Nat} {l:List Nat}:l.any (Nat.beq i)=true↔i∈l:=by
 rw [List.any_eq_true]
 constructor
 ·rintro ⟨j,hj,hb⟩; exact Nat.eq_of_beq_eq_true hb ▸ hj
 ·intro h; exact ⟨i,h,Nat.beq_refl i⟩
theorem ga:∀ {l:List Nat},qW l=true->l.Nodup
 | [],_=>.nil
 | i :: l,h=>by
  simp only [qW,Bool.and_eq_true,Bool.not_eq_true'] at h
  refine .cons (fun j hj e=>?_) (ga h.2)
  have:l.any (Nat.beq i)=true:=any_beq.2 (e ▸ hj)
  rw [h.1] at this; cases this
theorem DR {bG:Nat->Nat}:∀ {cs:List eT} {x:(bM cs).den},(fJ bG cs x).map (·.1)=Ta cs
 | [],_=>rfl
 | c :: cs,x=>by
  have ih:=DR (bG:=bG) (cs:=cs) (x:=x.2)
  simp only [fJ,List.map_append,ih]
  cases c <;> rfl
theorem fk {bG:Nat->Nat}:∀ {ps:List bg} {x:(aa ps).den},(bC bG ps x).map (·.1)=cz ps
 | [],_=>rfl
 | p :: ps,x=>by
  have ih:=fk (bG:=bG) (ps:=ps) (x:=x.2)
  cases p with
  | slot t c=>simp only [bC,List.map_append,ih,cz]; cases c <;> rfl
  | agg t τ=>exact ih
  | cells t cs=>exact ih
  | box id cs=>simp only [bC,List.map_append,List.map_cons,ih,DR,cz,List.cons_append]
  | row id T e=>simp only [bC,List.map_cons,ih,cz]
  | mp id k v=>simp only [bC,List.map_cons,ih,cz]
  | rows id T e=>simp only [bC,List.map_cons,ih,cz]
  | tr e=>exact ih
theorem gv:∀ {l:List (Nat×bu)},(l.map (·.1)).Nodup->∀ p∈l,bR l p.1=p.2
 | [],_,p,hp=>by simp at hp
 | q :: l,hn,p,hp=>by
  rw [List.map_cons,List.nodup_cons] at hn
  simp only [bR]
  rcases List.mem_cons.1 hp with rfl | hp
  ·simp
  ·have:p.1≠q.1:=fun e=>hn.1 (e ▸ List.mem_map.2 ⟨p,hp,rfl⟩)
   rw [bF this,cond_false]
   exact gv hn.2 p hp
theorem dG:∀ {l:List (Nat×bu)} {i:Nat},bR l i ≠ .none->(i,bR l i)∈l
 | [],_,h=>absurd rfl h
 | q :: l,i,h=>by
  simp only [bR] at h ⊢
  by_cases e:i=q.1
  ·subst e; simp
  ·rw [bF e,cond_false] at h ⊢
   exact List.mem_cons_of_mem _ (dG h)
theorem gQ:∀ {a b:List Nat},uo a b=true->a=b
 | [],[],_=>rfl
 | x :: xs,y :: ys,h=>by
  simp only [uo,Bool.and_eq_true] at h
  rw [Nat.eq_of_beq_eq_true h.1,gQ h.2]
 | [],_ :: _,h=>by cases h
 | _ :: _,[],h=>by cases h
end Go.Dm
namespace Go.Dm
open Go.RowKit
variable {P:Program} {N:Nat} {G:Gh} {S S':CS} {w w':World} {s:St} {a:Act} {ρ ρ':fA} {F F':Nat->Prop} {heap heap' H':Nat->bu} {Y:Value} {E:cg} {Γ:Ctx} {Fw:Fence} {r:Nat} {ops:Array Oper} {lo base:Nat} {bw:List fu} {vr:Nat->Nat}
def Wg (lo:Nat) (heap:Nat->bu) (id:Nat):bu->Prop
 | .none=>False
 | .gone=>False
 | .box _=>∃ ds,heap id = .box ds
 | .row _ T e x=>(∃ v,heap id = .row v T e x)\/(heap id = .none/\x.n=0/\lo<=id)
 | .mp k v m=>heap id = .mp k v m
 | .rows _ T e d=>∃ v,heap id = .rows v T e d
 | .chain _ T k n=>(∃ v,heap id = .chain v T k n)\/(heap id = .none/\n=0/\lo<=id)
structure aiH (lo:Nat) (heap:Nat->bu) (ρ ρ':fA):Prop where
 r1:∀ id,heap id ≠ .none->ρ' id=ρ id
 r2:∀ id b,ρ' id=some b->ρ id=some b
 r3:∀ id,heap id = .none->lo<=id->ρ' id=none
theorem SR.zw (hG:G.Ok P) (h:SR P N G s a w ρ S F):aiH G.lo s.heap ρ (iw G.ic s.heap ρ):=by
 refine ⟨fun id hn=>?_,fun id b hb=>?_,fun id hn hlo=>?_⟩
 ·unfold iw
  split
  ·rename_i b hb; exact (h.pins id b hb).1.symm
  ·cases ho:s.heap id with
   | none=>exact absurd ho hn
   | _=>rfl
 ·unfold iw at hb
  split at hb
  ·rename_i b' hp; cases hb; exact (h.pins id b hp).1
  ·cases hi:isNone (s.heap id) with
   | true=>rw [hi] at hb; cases hb
   | false=>rw [hi] at hb; exact hb
 ·unfold iw
  split
  ·rename_i b hp; have:=hG.ic id b hp; omega
  ·rw [hn]; rfl
theorem EW {id:Nat} {T:TypeId} {e:Ty} {d:DC} {v:Value} {x:Sl e.den} (hr:RC P Y S w heap ρ d v) (hx:lQ lo heap (.own id T e) d=some x) :
  R P (.sl e) S w x [v]/\e.flat=true/\((∃ bG,heap id = .chain bG T e.cells x.n/\VI w ρ id T e.cells e x.n v)\/(heap id = .none/\lo<=id/\x.n=0/\∃ a,v = .slice a 0 0)):=by
 cases d with
 | own id' v' e' s' =>
  simp only [lQ] at hx
  split at hx
  case h_2=>cases hx
  rename_i v2 T2 k n ho
  split at hx
  case h_2=>cases hx
  rename_i hb
  simp only [Bool.and_eq_true] at hb
  obtain ⟨⟨⟨b1,b2⟩,b3⟩,b4⟩:=hb
  cases Nat.eq_of_beq_eq_true b1
  cases Nat.eq_of_beq_eq_true b2
  cases Nat.eq_of_beq_eq_true b3
  cases Nat.eq_of_beq_eq_true b4
  obtain ⟨he,hx⟩:=bY hx
  cases he
  cases hx
  obtain ⟨h1,hf,cur,T',k',n',h2,h3,h4⟩:=hr
  rw [ho] at h2
  cases h2
  obtain ⟨hn,hs⟩:=h4 rfl
  subst hn
  exact ⟨h1,hf,.inl ⟨v',ho,hs⟩⟩
 | mU =>
  simp only [lQ] at hx
  split at hx
  case h_2=>cases hx
  rename_i ho hb
  simp only [Bool.and_eq_true] at hb
  cases hx
  obtain ⟨a,rfl⟩:=hr
  exact ⟨.inl ⟨rfl,a,0,rfl⟩,hb.1,.inr ⟨ho,Nat.le_of_ble_eq_true hb.2,rfl,a,rfl⟩⟩
 | _=>simp only [lQ] at hx; cases hx
theorem Ly {id:Nat} {T:TypeId} {e:Ty} {d:DC} {v:Value} {x:Sl e.den} (hr:RC P Y S w heap ρ d v) (hx:lQ lo heap (.rw id T e) d=some x) :
  (∃ a n c,v = .slice a n c)/\((∃ bG,heap id = .row bG T e x/\DI w ρ id e x.n v)\/(heap id = .none/\lo<=id/\x.n=0/\(∃ a,v = .slice a 0 0)/\e.flat=true/\0 < e.cells)):=by
 cases d with
 | row id' bG =>
  simp only [lQ] at hx
  split at hx
  case h_2=>cases hx
  rename_i cur T2 e2 s2 ho
  split at hx
  case h_2=>cases hx
  rename_i hb
  simp only [Bool.and_eq_true] at hb
  obtain ⟨⟨b1,b2⟩,b3⟩:=hb
  cases Nat.eq_of_beq_eq_true b1
  cases Nat.eq_of_beq_eq_true b2
  cases Nat.eq_of_beq_eq_true b3
  obtain ⟨he,hx⟩:=bY hx
  cases he
  cases hx
  obtain ⟨_,h2,h3⟩:=hr
  exact ⟨h2,.inl ⟨bG,ho,(h3 _ _ _ _ ho).2 rfl⟩⟩
 | mU =>
  simp only [lQ] at hx
  split at hx
  case h_2=>cases hx
  rename_i ho hb
  simp only [Bool.and_eq_true,Nat.blt_eq] at hb
  cases hx
  obtain ⟨a,rfl⟩:=hr
  exact ⟨⟨_,_,_,rfl⟩,.inr ⟨ho,Nat.le_of_ble_eq_true hb.2,rfl,⟨a,rfl⟩,hb.1.1,hb.1.2⟩⟩
 | _=>simp only [lQ] at hx; cases hx
theorem DS {c:eT} {d:DC} {v:Value} {x:c.ty.den} (hr:RC P Y S w heap ρ d v) (hx:lQ lo heap c d=some x):∀ p∈jM vr c x,Wg lo heap p.1 p.2:=by
 cases c with
 | own id T e =>
  intro p hp
  simp only [jM,List.mem_singleton] at hp
  subst hp
  obtain ⟨_,_,⟨bG,h,_⟩ | ⟨h1,h2,h3,_⟩⟩:=EW hr hx
  ·exact .inl ⟨bG,h⟩
  ·exact .inr ⟨h1,h3,h2⟩
 | rw id T e =>
  intro p hp
  simp only [jM,List.mem_singleton] at hp
  subst hp
  obtain ⟨_,⟨bG,h,_⟩ | ⟨h1,h2,h3,_⟩⟩:=Ly hr hx
  ·exact .inl ⟨bG,h⟩
  ·exact .inr ⟨h1,h3,h2⟩
 | _=>intro p hp; simp [jM] at hp
theorem nr {c:eT} {cs:List eT} {ds:List DC} {x:(bM (c :: cs)).den} (hx:sW lo heap (c :: cs) ds=some x):∃ d ds',ds=d :: ds'/\lQ lo heap c d=some x.1/\sW lo heap cs ds'=some x.2:=by
 cases ds with
 | nil=>cases hx
 | cons d ds =>
  simp only [sW] at hx
  split at hx
  ·rename_i y z h1 h2
   cases hx
   exact ⟨d,ds,rfl,h1,h2⟩
  ·cases hx
theorem By:∀ {cs:List eT} {ds:List DC} {us:List Value} {x:(bM cs).den},RL (RC P Y S w heap ρ) ds us->sW lo heap cs ds=some x->∀ p∈fJ vr cs x,Wg lo heap p.1 p.2
 | [],_,_,_,_,_=>fun p hp=>by simp [fJ] at hp
 | c :: cs,ds,us,x,hr,hx=>by
  obtain ⟨d,ds',rfl,h1,h2⟩:=nr hx
  cases us with
  | nil=>have:=hr.1; cases this
  | cons u us =>
   obtain ⟨r1,r2⟩:=hr.of_cons
   intro p hp
   rcases List.mem_append.1 hp with hp | hp
   ·exact DS r1 h1 p hp
   ·exact By r2 h2 p hp
theorem sD {p:bg} {ps:List bg} {x:(aa (p :: ps)).den} (hx:rd lo s (p :: ps)=some x):uq lo s p=some x.1/\rd lo s ps=some x.2:=by
 simp only [rd] at hx
 split at hx
 ·rename_i y z h1 h2
  cases hx
  exact ⟨h1,h2⟩
 ·cases hx
theorem EX (h:SR P N G s a w ρ S F) {t:Nat} {c:eT} {x:c.ty.den} (hx:uq lo s (.slot t c)=some x):∃ d,s.env t = .v d/\lQ lo s.heap c d=some x/\RC P G.Y S w s.heap ρ d (a.tmps.getD t undef):=by
 simp only [uq] at hx
 split at hx
 ·rename_i d hd
  have:=h.env t
  rw [hd] at this
  exact ⟨d,hd,hx,this⟩
 ·cases hx
theorem Wh (h:SR P N G s a w ρ S F) {id:Nat} {cs:List eT} {x:(bM cs).den} (hx:uq lo s (.box id cs)=some x):∃ ds,s.heap id = .box ds/\sW lo s.heap cs ds=some x /\
  ∃ b arr T,ρ id=some b/\vn G F b/\w.heap[b]? = some (.cells arr T (0,0))/\RL (RC P G.Y S w s.heap ρ) ds arr.toList/\∀ o,¬ S b o:=by
 simp only [uq] at hx
 split at hx
 ·rename_i ds hd
  have:=h.obj id
  rw [hd] at this
  exact ⟨ds,hd,hx,this⟩
 ·cases hx
theorem Wi {id:Nat} {T:TypeId} {e:Ty} {x:Sl e.den} (hx:uq lo s (.row id T e)=some x):∃ v,s.heap id = .row v T e x:=by
 simp only [uq] at hx
 split at hx
 ·rename_i v T' e' y ho
  split at hx
  ·rename_i hb
   cases Nat.eq_of_beq_eq_true hb
   obtain ⟨he,hx⟩:=bY hx
   cases he; cases hx
   exact ⟨v,ho⟩
  ·cases hx
 ·cases hx
theorem Wj {id:Nat} {k v:Ty} {x:k.den->Option v.den} (hx:uq lo s (.mp id k v)=some x):s.heap id = .mp k v x:=by
 simp only [uq] at hx
 split at hx
 ·rename_i k' v' y ho
  obtain ⟨he,hx⟩:=bY hx
  cases he; cases hx
  exact ho
 ·cases hx
theorem PF {id:Nat} {T:TypeId} {e:Ty} {x:Sl (Sl e.den)} (hx:uq lo s (.rows id T e)=some x):∃ v,s.heap id = .rows v T e x:=by
 simp only [uq] at hx
 split at hx
 ·rename_i v T' e' y ho
  split at hx
  ·rename_i hb
   cases Nat.eq_of_beq_eq_true hb
   obtain ⟨he,hx⟩:=bY hx
   cases he; cases hx
   exact ⟨v,ho⟩
  ·cases hx
 ·cases hx
theorem avL {e:Ty} {x:Sl e.den} (hx:uq lo s (.tr e)=some x):s.tr=⟨e,true,x⟩:=by
 simp only [uq] at hx
 split at hx
 ·rename_i e' y ho
  obtain ⟨he,hx⟩:=bY hx
  cases he; cases hx
  exact ho
 ·cases hx
theorem nt (h:SR P N G s a w ρ S F):∀ {ps:List bg} {x:(aa ps).den},rd lo s ps=some x->∀ p∈bC vr ps x,Wg lo s.heap p.1 p.2
 | [],_,_=>fun p hp=>by simp [bC] at hp
 | q :: ps,x,hx=>by
  obtain ⟨h1,h2⟩:=sD hx
  have ih:=nt h h2
  intro p hp
  cases q with
  | slot t c =>
   obtain ⟨d,_,hc,hr⟩:=EX h h1
   rcases List.mem_append.1 hp with hp | hp
   ·exact DS hr hc p hp
   ·exact ih p hp
  | agg t τ=>exact ih p hp
  | cells t cs=>exact ih p hp
  | box id cs =>
   obtain ⟨ds,ho,hc,b,arr,T,_,_,_,hr,_⟩:=Wh h h1
   simp only [bC,List.cons_append,List.mem_cons,List.mem_append] at hp
   rcases hp with rfl | hp | hp
   ·exact ⟨ds,ho⟩
   ·exact By hr hc p hp
   ·exact ih p hp
  | row id T e =>
   rcases List.mem_cons.1 hp with rfl | hp
   ·exact .inl (Wi h1)
   ·exact ih p hp
  | mp id k v =>
   rcases List.mem_cons.1 hp with rfl | hp
   ·exact Wj h1
   ·exact ih p hp
  | rows id T e =>
   rcases List.mem_cons.1 hp with rfl | hp
   ·exact PF h1
   ·exact ih p hp
  | tr e=>exact ih p hp
structure Cmp (vr:Nat->Nat) (lo:Nat) (heap H':Nat->bu) (ρ ρ':fA):Prop where
 like:∀ id,H' id ≠ .none->Wg lo heap id (H' id)
 zw:aiH lo heap ρ ρ'
 bG:∀ id v T e s,H' id = .row v T e s->v=vr id
theorem dS.cmp (hc:Cmp vr lo heap H' ρ ρ') {id off:Nat} {v:Value} (h:dS heap ρ id off v) (hn:H' id ≠ .none):dS H' ρ' id off v:=by
 obtain ⟨h1,h2,h3⟩:=h
 refine ⟨hn,h2,fun ds hd=>?_⟩
 have:=hc.like id hn
 rw [hd] at this
 obtain ⟨ds0,h4⟩:=this
 obtain ⟨b,h5,h6⟩:=h3 ds0 h4
 exact ⟨b,(hc.zw.r1 id h1).trans h5,h6⟩
theorem dn.cmp (hc:Cmp vr lo heap H' ρ ρ'):∀ {ids:List Nat} {us:List Value},dn heap ρ ids us->(∀ id∈ids,H' id ≠ .none)->dn H' ρ' ids us
 | [],[],_,_=>trivial
 | _ :: _,_ :: _,h,hn=>⟨h.1.cmp hc (hn _ (.head _)),dn.cmp hc h.2 fun id hid=>hn id (.tail _ hid)⟩
 | [],_ :: _,h,_=>h.elim
 | _ :: _,[],h,_=>h.elim
def xH (H':Nat->bu):eT->Prop
 | .ptr id=>H' id ≠ .none
 | .row id=>H' id ≠ .none
 | .mp id=>H' id ≠ .none
 | .rows id=>H' id ≠ .none
 | .iM _ ids=>∀ id∈ids,H' id ≠ .none
 | .lR _ _ ids=>∀ id∈ids,H' id ≠ .none
 | _=>True
theorem Wk (hc:Cmp vr lo heap H' ρ ρ') {c:eT} {d:DC} {v:Value} {x:c.ty.den} (hr:RC P Y S w heap ρ d v) (hx:lQ lo heap c d=some x) (hn:xH H' c) (ho:∀ p∈jM vr c x,H' p.1=p.2) :
  RC P Y S w H' ρ' (wrC vr c x) v:=by
 cases c with
 | pc τ =>
  have hx:(match τ.one with | true=>xp τ d | false=>none)=some x:=by cases d <;> exact hx
  cases h1:τ.one with
  | false=>rw [h1] at hx; cases hx
  | true=>rw [h1] at hx; exact ⟨h1,ED hr hx⟩
 | own id T e =>
  have h:=EW hr hx
  have hh:H' id = .chain (vr id) T e.cells (show Sl e.den from x).n:=ho (id,.chain (vr id) T e.cells (show Sl e.den from x).n) (List.mem_singleton.2 rfl)
  obtain ⟨h1,h2,h3⟩:=h
  refine ⟨h1,h2,vr id,T,e.cells,_,hh,Nat.le_refl _,fun _=>⟨rfl,rfl,?_⟩⟩
  rcases h3 with ⟨bG,h4,h5⟩ | ⟨h4,h5,h6,h7⟩
  ·have hρ:=hc.zw.r1 id (by rw [h4]; simp)
   rw [hρ]
   exact h5.2
  ·exact .inl ⟨hc.zw.r3 id h4 h5,h6,h7⟩
 | ptr id =>
  cases d with
  | ptr id' off =>
   simp only [lQ] at hx
   split at hx
   case h_2=>cases hx
   rename_i hb
   simp only [Bool.and_eq_true] at hb
   cases Nat.eq_of_beq_eq_true hb.1.1
   cases Nat.eq_of_beq_eq_true hb.1.2
   exact dS.cmp hc hr hn
  | _=>simp only [lQ] at hx; cases hx
 | rw id T e =>
  obtain ⟨h2,h3⟩:=Ly hr hx
  have hh:H' id = .row (vr id) T e (show Sl e.den from x):=ho (id,.row (vr id) T e (show Sl e.den from x)) (List.mem_singleton.2 rfl)
  refine ⟨by rw [hh]; simp,h2,fun cu T' e' s' hd=>?_⟩
  rw [hh] at hd; cases hd
  refine ⟨Nat.le_refl _,fun _=>?_⟩
  rcases h3 with ⟨bG,h4,h5⟩ | ⟨h4,h5,h6,h7,_⟩
  ·have hρ:=hc.zw.r1 id (by rw [h4]; simp)
   unfold DI at h5 ⊢
   rw [hρ]; exact h5
  ·exact .inl ⟨h6,h7⟩
 | row id =>
  cases d with
  | row id' bG =>
   simp only [lQ] at hx
   split at hx
   case h_2=>cases hx
   rename_i hb
   simp only [Bool.and_eq_true] at hb
   cases Nat.eq_of_beq_eq_true hb.1
   obtain ⟨h1,h2,h3⟩:=hr
   have Ls:∃ T e s0,heap id = .row bG T e s0:=by
    have:=hb.2
    unfold isRow at this
    split at this
    ·rename_i cur T e s0 hh; cases Nat.eq_of_beq_eq_true this; exact ⟨T,e,s0,hh⟩
    ·cases this
   obtain ⟨T0,e0,s0,Ls⟩:=Ls
   refine ⟨hn,h2,fun cu T e s' hd=>?_⟩
   have hl:=hc.like id hn
   rw [hd] at hl
   obtain ⟨v0,hl⟩ | ⟨hl,_⟩:=hl
   ·rw [Ls] at hl
    cases hl
    have h5:=(h3 _ _ _ _ Ls).2 rfl
    refine ⟨Nat.le_of_eq (hc.bG _ _ _ _ _ hd).symm,fun _=>?_⟩
    unfold DI at h5 ⊢
    rw [hc.zw.r1 id h1]; exact h5
   ·rw [Ls] at hl; cases hl
  | _=>simp only [lQ] at hx; cases hx
 | mp id =>
  cases d with
  | mp id' =>
   simp only [lQ] at hx
   split at hx
   case h_2=>cases hx
   rename_i hb
   simp only [Bool.and_eq_true] at hb
   cases Nat.eq_of_beq_eq_true hb.1
   obtain ⟨h1,h2,h3⟩:=hr
   refine ⟨hn,h2,fun k e m hd=>?_⟩
   have:=hc.like id hn
   rw [hd] at this
   obtain ⟨b,h4,h5⟩:=h3 k e m this
   exact ⟨b,(hc.zw.r1 id h1).trans h4,h5⟩
  | _=>simp only [lQ] at hx; cases hx
 | rows id =>
  cases d with
  | rows id' =>
   simp only [lQ] at hx
   split at hx
   case h_2=>cases hx
   rename_i hb
   simp only [Bool.and_eq_true] at hb
   cases Nat.eq_of_beq_eq_true hb.1
   obtain ⟨h1,h2,h3⟩:=hr
   refine ⟨hn,h2,fun cur T e d hd=>?_⟩
   have:=hc.like id hn
   rw [hd] at this
   obtain ⟨v0,this⟩:=this
   obtain ⟨b,cap,q1,q2⟩:=h3 _ _ _ _ this
   exact ⟨b,cap,(hc.zw.r1 id h1).trans q1,q2⟩
  | _=>simp only [lQ] at hx; cases hx
 | iM f ids =>
  cases d with
  | iM f' ids' =>
   simp only [lQ] at hx
   split at hx
   case h_2=>cases hx
   rename_i hb
   simp only [Bool.and_eq_true] at hb
   cases Nat.eq_of_beq_eq_true hb.1.1
   cases gQ hb.1.2
   obtain ⟨h1,us,h2,h3⟩:=hr
   exact ⟨h1,us,h2,h3.cmp hc hn⟩
  | _=>simp only [lQ] at hx; cases hx
 | lR f τ ids =>
  cases d with
  | lR f' τ' x' ids' =>
   simp only [lQ] at hx
   split at hx
   case h_2=>cases hx
   rename_i hb
   simp only [Bool.and_eq_true] at hb
   cases Nat.eq_of_beq_eq_true hb.1.1
   cases gQ hb.1.2
   obtain ⟨e1,e2⟩:=bY hx
   cases e1
   have e2:x=x':=e2
   subst e2
   obtain ⟨h1,u,us,h2,h3,h4⟩:=hr
   exact ⟨h1,u,us,h2,h3,h4.cmp hc hn⟩
  | _=>simp only [lQ] at hx; cases hx
 | jI =>
  cases d with
  | jI=>exact hr
  | _=>simp only [lQ] at hx; cases hx
 | top =>
  cases d with
  | top=>exact hr
  | _=>simp only [lQ] at hx; cases hx
 | k n =>
  cases d with
  | pc τ m =>
   cases τ with
   | int kk =>
    cases kk with
    | i64 =>
     simp only [lQ] at hx
     split at hx
     ·rename_i hd
      have hd:=of_decide_eq_true hd
      subst hd
      exact hr
     ·cases hx
    | _=>simp only [lQ] at hx; cases hx
   | _=>simp only [lQ] at hx; cases hx
  | _=>simp only [lQ] at hx; cases hx
theorem EY (hc:Cmp vr lo heap H' ρ ρ'):∀ {cs:List eT} {ds:List DC} {us:List Value} {x:(bM cs).den},RL (RC P Y S w heap ρ) ds us->sW lo heap cs ds=some x->(∀ c∈cs,xH H' c)->(∀ p∈fJ vr cs x,H' p.1=p.2) ->
  RL (RC P Y S w H' ρ') (adE vr cs x) us
 | [],ds,us,x,hr,hx,_,_=>by
  cases ds with
  | cons d ds=>cases hx
  | nil =>
   have:=hr.1
   cases us with
   | nil=>exact .nil
   | cons u us=>cases this
 | c :: cs,ds,us,x,hr,hx,hn,ho=>by
  obtain ⟨d,ds',rfl,h1,h2⟩:=nr hx
  cases us with
  | nil=>have:=hr.1; cases this
  | cons u us =>
   obtain ⟨r1,r2⟩:=hr.of_cons
   exact .cons (Wk hc r1 h1 (hn c (.head _)) fun p hp=>ho p (List.mem_append_left _ hp)) (EY hc r2 h2 (fun c hc=>hn c (.tail _ hc)) fun p hp=>ho p (List.mem_append_right _ hp))
theorem PG (hc:Cmp vr G.lo heap H' ρ ρ') (cK:∀ id,OI P G S w heap ρ F id (heap id)) {c:eT} {d:DC} {v:Value} {x:c.ty.den} (hr:RC P Y S w heap ρ d v) (hx:lQ G.lo heap c d=some x) :
  ∀ p∈jM vr c x,OI P G S w H' ρ' F p.1 p.2:=by
 cases c with
 | own id T e =>
  intro p hp
  simp only [jM,List.mem_singleton] at hp
  subst hp
  obtain ⟨_,_,⟨bG,h,_⟩ | ⟨h1,h2,h3,_⟩⟩:=EW hr hx
  ·have:=cK id
   rw [h] at this
   have hρ:=hc.zw.r1 id (by rw [h]; simp)
   rcases this with ⟨q1,q2⟩ | ⟨b,q1,q2⟩
   ·exact .inl ⟨hρ.trans q1,q2⟩
   ·exact .inr ⟨b,hρ.trans q1,q2⟩
  ·exact .inl ⟨hc.zw.r3 id h1 h2,h3⟩
 | rw id T e =>
  intro p hp
  simp only [jM,List.mem_singleton] at hp
  subst hp
  obtain ⟨_,⟨bG,h,_⟩ | ⟨h1,h2,h3,_,h5⟩⟩:=Ly hr hx
  ·have:=cK id
   rw [h] at this
   have hρ:=hc.zw.r1 id (by rw [h]; simp)
   obtain ⟨q0,⟨q1,q2⟩ | ⟨b,arr,q1,q2⟩⟩:=this
   ·exact ⟨q0,.inl ⟨hρ.trans q1,q2⟩⟩
   ·exact ⟨q0,.inr ⟨b,arr,hρ.trans q1,q2⟩⟩
  ·exact ⟨h5,.inl ⟨hc.zw.r3 id h1 h2,h3⟩⟩
 | _=>intro p hp; simp [jM] at hp
theorem IT (hc:Cmp vr G.lo heap H' ρ ρ') (cK:∀ id,OI P G S w heap ρ F id (heap id)):∀ {cs:List eT} {ds:List DC} {us:List Value} {x:(bM cs).den},RL (RC P Y S w heap ρ) ds us->sW G.lo heap cs ds=some x ->
  ∀ p∈fJ vr cs x,OI P G S w H' ρ' F p.1 p.2
 | [],_,_,_,_,_=>fun p hp=>by simp [fJ] at hp
 | c :: cs,ds,us,x,hr,hx=>by
  obtain ⟨d,ds',rfl,h1,h2⟩:=nr hx
  cases us with
  | nil=>have:=hr.1; cases this
  | cons u us =>
   obtain ⟨r1,r2⟩:=hr.of_cons
   intro p hp
   rcases List.mem_append.1 hp with hp | hp
   ·exact PG hc cK r1 h1 p hp
   ·exact IT hc cK r2 h2 p hp
def Lz (H':Nat->bu):bg->Prop
 | .slot _ c=>xH H' c
 | .box _ cs=>∀ c∈cs,xH H' c
 | .cells _ cs=>∀ c∈cs,xH H' c
 | _=>True
theorem PI (h:SR P N G s a w ρ S F) (hc:Cmp vr G.lo s.heap H' ρ ρ'):∀ {ps:List bg} {x:(aa ps).den},rd G.lo s ps=some x->(∀ p∈ps,Lz H' p)->(∀ p∈bC vr ps x,H' p.1=p.2)->∀ p∈bC vr ps x,OI P G S w H' ρ' F p.1 p.2
 | [],_,_,_,_=>fun p hp=>by simp [bC] at hp
 | q :: ps,x,hx,hn,hall=>by
  obtain ⟨h1,h2⟩:=sD hx
  have ih:(∀ p∈bC vr ps x.2,H' p.1=p.2)->∀ p∈bC vr ps x.2,OI P G S w H' ρ' F p.1 p.2:=PI h hc h2 fun p hp=>hn p (.tail _ hp)
  intro p hp
  cases q with
  | slot t c =>
   obtain ⟨d,_,zm,hr⟩:=EX h h1
   rcases List.mem_append.1 hp with hp | hp
   ·exact PG hc h.obj hr zm p hp
   ·exact ih (fun p hp=>hall p (List.mem_append_right _ hp)) p hp
  | agg t τ=>exact ih hall p hp
  | cells t cs=>exact ih hall p hp
  | box id cs =>
   obtain ⟨ds,ho,zm,b,arr,T,q1,q2,q3,hr,q5⟩:=Wh h h1
   have avM:∀ p∈fJ vr cs (show (bM cs).den from x.1),H' p.1=p.2:=fun p hp=>hall p (by simp [bC]; exact .inr (.inl hp))
   simp only [bC,List.cons_append,List.mem_cons,List.mem_append] at hp
   rcases hp with rfl | hp | hp
   ·exact ⟨b,arr,T,(hc.zw.r1 id (by rw [ho]; simp)).trans q1,q2,q3,EY hc hr zm (hn _ (.head _)) avM,q5⟩
   ·exact IT hc h.obj hr zm p hp
   ·exact ih (fun p hp=>hall p (by simp [bC]; exact .inr (.inr hp))) p hp
  | row id T e =>
   rcases List.mem_cons.1 hp with rfl | hp
   ·have:=h.obj id
    obtain ⟨v0,ho⟩:=Wi h1
    rw [ho] at this
    have hρ:=hc.zw.r1 id (by rw [ho]; simp)
    obtain ⟨q0,⟨q1,q2⟩ | ⟨b,arr,q1,q2⟩⟩:=this
    ·exact ⟨q0,.inl ⟨hρ.trans q1,q2⟩⟩
    ·exact ⟨q0,.inr ⟨b,arr,hρ.trans q1,q2⟩⟩
   ·exact ih (fun p hp=>hall p (.tail _ hp)) p hp
  | mp id k v =>
   rcases List.mem_cons.1 hp with rfl | hp
   ·have:=h.obj id
    have ho:=Wj h1
    rw [ho] at this
    obtain ⟨b,es,c,q1,q2⟩:=this
    exact ⟨b,es,c,(hc.zw.r1 id (by rw [ho]; simp)).trans q1,q2⟩
   ·exact ih (fun p hp=>hall p (.tail _ hp)) p hp
  | rows id T e =>
   rcases List.mem_cons.1 hp with rfl | hp
   ·have:=h.obj id
    obtain ⟨v0,ho⟩:=PF h1
    rw [ho] at this
    obtain ⟨q0,b,arr,T',q1,q2⟩:=this
    exact ⟨q0,b,arr,T',(hc.zw.r1 id (by rw [ho]; simp)).trans q1,q2⟩
   ·exact ih (fun p hp=>hall p (.tail _ hp)) p hp
  | tr e=>exact ih hall p hp
theorem yL:∀ {cs:List eT} {x:(bM cs).den},yK cs=true->fJ vr cs x=[]
 | [],_,_=>rfl
 | c :: cs,x,h=>by
  simp only [yK,List.all_cons,Bool.and_eq_true] at h
  have ih:=yL (cs:=cs) (x:=x.2) h.2
  cases c <;> first | exact ih | cases h.1
theorem Wl (h:SR P N G s a w ρ S F) (hc:Cmp vr G.lo s.heap H' ρ ρ'):∀ {ps:List bg} {x:(aa ps).den},rd G.lo s ps=some x->(∀ p∈ps,Lz H' p)->(∀ p∈bC vr ps x,H' p.1=p.2) ->
  ∀ t,RS P G.Y S w H' ρ' (lY vr ps x t) (a.tmps.getD t undef)
 | [],_,_,_,_=>fun t=>trivial
 | q :: ps,x,hx,hn,hall=>by
  obtain ⟨h1,h2⟩:=sD hx
  have ih:(∀ p∈bC vr ps x.2,H' p.1=p.2)->∀ t,RS P G.Y S w H' ρ' (lY vr ps x.2 t) (a.tmps.getD t undef):=Wl h hc h2 fun p hp=>hn p (.tail _ hp)
  intro t
  cases q with
  | slot u c =>
   obtain ⟨d,_,zm,hr⟩:=EX h h1
   simp only [lY,setEnv]
   by_cases hu:t=u
   ·subst hu
    simp only [Nat.beq_refl,cond_true]
    exact Wk hc hr zm (hn _ (.head _)) fun p hp=>hall p (List.mem_append_left _ hp)
   ·simp only [bF hu,cond_false]
    exact ih (fun p hp=>hall p (List.mem_append_right _ hp)) t
  | agg u τ =>
   simp only [lY,setEnv]
   by_cases hu:t=u
   ·subst hu
    simp only [Nat.beq_refl,cond_true]
    simp only [uq] at h1
    split at h1
    ·rename_i ds hd hf
     have:=h.env t
     rw [hd] at this
     obtain ⟨us,h3,h4⟩:=this
     exact ⟨us,h3,eH hf (fN h4 h1)⟩
    ·cases h1
   ·simp only [bF hu,cond_false]
    exact ih hall t
  | cells u cs =>
   simp only [lY,setEnv]
   by_cases hu:t=u
   ·subst hu
    simp only [Nat.beq_refl,cond_true]
    simp only [uq] at h1
    split at h1
    ·rename_i ds hd hf
     have:=h.env t
     rw [hd] at this
     obtain ⟨us,h3,h4⟩:=this
     exact ⟨us,h3,EY hc h4 h1 (hn _ (.head _)) fun p hp=>by rw [yL hf] at hp; cases hp⟩
    ·cases h1
   ·simp only [bF hu,cond_false]
    exact ih hall t
  | box id cs=>exact ih (fun p hp=>hall p (by simp [bC]; exact .inr (.inr hp))) t
  | row id T e=>exact ih (fun p hp=>hall p (.tail _ hp)) t
  | mp id k v=>exact ih (fun p hp=>hall p (.tail _ hp)) t
  | rows id T e=>exact ih (fun p hp=>hall p (.tail _ hp)) t
  | tr e=>exact ih hall t
def lZ:List bg->Bool
 | []=>false
 | .tr _ :: _=>true
 | _ :: ps=>lZ ps
theorem mb:∀ {ps:List bg} {x:(aa ps).den} {t:Tr},rd lo s ps=some x->lZ ps=true->xG t ps x=s.tr
 | [],_,_,_,h=>by cases h
 | q :: ps,x,t,hx,hh=>by
  obtain ⟨h1,h2⟩:=sD hx
  cases q with
  | tr e=>exact (avL h1).symm
  | slot _ _=>exact mb (ps:=ps) h2 hh
  | agg _ _=>exact mb (ps:=ps) h2 hh
  | cells _ _=>exact mb (ps:=ps) h2 hh
  | box _ _=>exact mb (ps:=ps) h2 hh
  | row _ _ _=>exact mb (ps:=ps) h2 hh
  | mp _ _ _=>exact mb (ps:=ps) h2 hh
  | rows _ _ _=>exact mb (ps:=ps) h2 hh
theorem fR:∀ {ps:List bg} {x:(aa ps).den} {t:Tr},lZ ps=false->xG t ps x=t
 | [],_,_,_=>rfl
 | q :: ps,x,t,hh=>by
  cases q with
  | tr e=>cases hh
  | slot _ _=>exact fR (ps:=ps) hh
  | agg _ _=>exact fR (ps:=ps) hh
  | cells _ _=>exact fR (ps:=ps) hh
  | box _ _=>exact fR (ps:=ps) hh
  | row _ _ _=>exact fR (ps:=ps) hh
  | mp _ _ _=>exact fR (ps:=ps) hh
  | rows _ _ _=>exact fR (ps:=ps) hh
theorem eL:∀ {ps:List bg} {x:(aa ps).den} {id:Nat},id∈fh ps->∃ ds,(id,bu.box ds)∈bC vr ps x
 | [],_,_,h=>by simp [fh] at h
 | q :: ps,x,id,h=>by
  cases q with
  | box i cs =>
   rcases List.mem_cons.1 h with rfl | h
   ·exact ⟨_,by simp only [bC,List.cons_append]; exact .head _⟩
   ·obtain ⟨ds,hd⟩:=eL (x:=x.2) h
    exact ⟨ds,by simp only [bC,List.cons_append]; exact .tail _ (List.mem_append_right _ hd)⟩
  | slot t c=>obtain ⟨ds,hd⟩:=eL (ps:=ps) (x:=x.2) h; exact ⟨ds,List.mem_append_right _ hd⟩
  | agg t τ=>exact eL (ps:=ps) (x:=x.2) h
  | cells t cs=>exact eL (ps:=ps) (x:=x.2) h
  | row _ _ _=>obtain ⟨ds,hd⟩:=eL (ps:=ps) (x:=x.2) h; exact ⟨ds,.tail _ hd⟩
  | mp _ _ _=>obtain ⟨ds,hd⟩:=eL (ps:=ps) (x:=x.2) h; exact ⟨ds,.tail _ hd⟩
  | rows _ _ _=>obtain ⟨ds,hd⟩:=eL (ps:=ps) (x:=x.2) h; exact ⟨ds,.tail _ hd⟩
  | tr e=>exact eL (ps:=ps) (x:=x.2) h
theorem xI:∀ {cs:List eT} {x:(bM cs).den} {id:Nat},id∈nk cs->∃ v T e y,(id,bu.row v T e y)∈fJ vr cs x
 | [],_,_,h=>by simp [nk] at h
 | c :: cs,x,id,h=>by
  cases c with
  | rw i T e =>
   rcases List.mem_cons.1 h with rfl | h
   ·exact ⟨_,_,_,_,List.mem_append_left _ (List.mem_singleton.2 rfl)⟩
   ·obtain ⟨v,T,e,y,hd⟩:=xI (x:=x.2) h; exact ⟨v,T,e,y,List.mem_append_right _ hd⟩
  | _=>obtain ⟨v,T,e,y,hd⟩:=xI (cs:=cs) (x:=x.2) h; exact ⟨v,T,e,y,List.mem_append_right _ hd⟩
theorem fD:∀ {ps:List bg} {x:(aa ps).den} {id:Nat},id∈iX ps->∃ v T e y,(id,bu.row v T e y)∈bC vr ps x
 | [],_,_,h=>by simp [iX] at h
 | q :: ps,x,id,h=>by
  cases q with
  | box i cs =>
   rcases List.mem_append.1 h with h | h
   ·obtain ⟨v,T,e,y,hd⟩:=xI (vr:=vr) (x:=(show (bM cs).den from x.1)) h
    exact ⟨v,T,e,y,by simp only [bC,List.cons_append]; exact .tail _ (List.mem_append_left _ hd)⟩
   ·obtain ⟨v,T,e,y,hd⟩:=fD (ps:=ps) (x:=x.2) h
    exact ⟨v,T,e,y,by simp only [bC,List.cons_append]; exact .tail _ (List.mem_append_right _ hd)⟩
  | slot t c =>
   rcases List.mem_append.1 h with h | h
   ·cases c with
    | rw i T e =>
     rcases List.mem_cons.1 h with rfl | h
     ·exact ⟨_,_,_,_,List.mem_append_left _ (List.mem_singleton.2 rfl)⟩
     ·simp [nk] at h
    | _=>simp [nk] at h
   ·obtain ⟨v,T,e,y,hd⟩:=fD (ps:=ps) (x:=x.2) h; exact ⟨v,T,e,y,List.mem_append_right _ hd⟩
  | agg t τ=>exact fD (ps:=ps) (x:=x.2) h
  | cells t cs=>exact fD (ps:=ps) (x:=x.2) h
  | row i T e =>
   rcases List.mem_cons.1 h with rfl | h
   ·exact ⟨_,_,_,_,.head _⟩
   ·obtain ⟨v,T,e,y,hd⟩:=fD (x:=x.2) h; exact ⟨v,T,e,y,.tail _ hd⟩
  | mp _ _ _=>obtain ⟨v,T,e,y,hd⟩:=fD (ps:=ps) (x:=x.2) h; exact ⟨v,T,e,y,.tail _ hd⟩
  | rows _ _ _=>obtain ⟨v,T,e,y,hd⟩:=fD (ps:=ps) (x:=x.2) h; exact ⟨v,T,e,y,.tail _ hd⟩
  | tr e=>exact fD (ps:=ps) (x:=x.2) h
theorem IU {c:eT} {x:c.ty.den}:∀ p∈jM vr c x,∀ v T e s,p.2=bu.row v T e s->v=vr p.1:=by
 cases c with
 | own id T e=>intro p hp v T e s h; rw [List.mem_singleton.1 hp] at h; cases h
 | rw id T e=>intro p hp v T e s h; rw [List.mem_singleton.1 hp] at h ⊢; cases h; rfl
 | _=>intro p hp; simp [jM] at hp
theorem DT:∀ {cs:List eT} {x:(bM cs).den},∀ p∈fJ vr cs x,∀ v T e s,p.2=bu.row v T e s->v=vr p.1
 | [],_,p,hp=>by simp [fJ] at hp
 | c :: cs,x,p,hp=>by
  rcases List.mem_append.1 hp with hp | hp
  ·exact IU p hp
  ·exact DT p hp
theorem iy:∀ {ps:List bg} {x:(aa ps).den},∀ p∈bC vr ps x,∀ v T e s,p.2=bu.row v T e s->v=vr p.1
 | [],_,p,hp=>by simp [bC] at hp
 | q :: ps,x,p,hp=>by
  cases q with
  | slot t c =>
   rcases List.mem_append.1 hp with hp | hp
   ·exact IU p hp
   ·exact iy (ps:=ps) p hp
  | agg t τ=>exact iy (ps:=ps) p hp
  | cells t cs=>exact iy (ps:=ps) p hp
  | box id cs =>
   simp only [bC,List.cons_append,List.mem_cons,List.mem_append] at hp
   rcases hp with rfl | hp | hp
   ·intro v T e s h; cases h
   ·exact DT p hp
   ·exact iy (ps:=ps) p hp
  | row id T e =>
   rcases List.mem_cons.1 hp with rfl | hp
   ·intro v T e s h; cases h; rfl
   ·exact iy (ps:=ps) p hp
  | mp id k v =>
   rcases List.mem_cons.1 hp with rfl | hp
   ·intro v T e s h; cases h
   ·exact iy (ps:=ps) p hp
  | rows id T e =>
   rcases List.mem_cons.1 hp with rfl | hp
   ·intro v T e s h; cases h
   ·exact iy (ps:=ps) p hp
  | tr e=>exact iy (ps:=ps) p hp
theorem gw:∀ {ps:List bg} {x:(aa ps).den} {id:Nat},id∈nq ps->∃ o,o≠bu.none/\(id,o)∈bC vr ps x
 | [],_,_,h=>by simp [nq] at h
 | q :: ps,x,id,h=>by
  cases q with
  | box i cs =>
   obtain ⟨o,ho,hd⟩:=gw (ps:=ps) (x:=x.2) h
   exact ⟨o,ho,by simp only [bC,List.cons_append]; exact .tail _ (List.mem_append_right _ hd)⟩
  | slot t c=>obtain ⟨o,ho,hd⟩:=gw (ps:=ps) (x:=x.2) h; exact ⟨o,ho,List.mem_append_right _ hd⟩
  | agg t τ=>exact gw (ps:=ps) (x:=x.2) h
  | cells t cs=>exact gw (ps:=ps) (x:=x.2) h
  | mp i T e =>
   rcases List.mem_cons.1 h with rfl | h
   ·exact ⟨_,by simp,.head _⟩
   ·obtain ⟨o,ho,hd⟩:=gw (x:=x.2) h; exact ⟨o,ho,.tail _ hd⟩
  | rows i T e =>
   rcases List.mem_cons.1 h with rfl | h
   ·exact ⟨_,by simp,.head _⟩
   ·obtain ⟨o,ho,hd⟩:=gw (x:=x.2) h; exact ⟨o,ho,.tail _ hd⟩
  | row _ _ _=>obtain ⟨o,ho,hd⟩:=gw (ps:=ps) (x:=x.2) h; exact ⟨o,ho,.tail _ hd⟩
  | tr e=>exact gw (ps:=ps) (x:=x.2) h
theorem Wm {ps:List bg} {x:(aa ps).den} (hwf:kU ps=true):∀ p∈ps,Lz (bR (bC vr ps x)) p:=by
 simp only [kU,Bool.and_eq_true] at hwf
 obtain ⟨hn,hall⟩:=hwf
 have hn:(bC vr ps x |>.map (·.1)).Nodup:=by rw [fk]; exact ga hn
 have hb:∀ id∈fh ps,bR (bC vr ps x) id ≠ .none:=fun id hid=>by
  obtain ⟨ds,hd⟩:=eL (vr:=vr) (x:=x) hid; rw [gv hn _ hd]; simp
 have hr:∀ id∈iX ps,bR (bC vr ps x) id ≠ .none:=fun id hid=>by
  obtain ⟨_,_,_,ds,hd⟩:=fD (vr:=vr) (x:=x) hid; rw [gv hn _ hd]; simp
 have hm:∀ id∈nq ps,bR (bC vr ps x) id ≠ .none:=fun id hid=>by
  obtain ⟨o,ho,hd⟩:=gw (vr:=vr) (x:=x) hid; rw [gv hn _ hd]; exact ho
 have hcell:∀ c,wfC (fh ps) (iX ps) (nq ps) c=true->xH (bR (bC vr ps x)) c:=fun c hc=>by
  cases c with
  | ptr id=>exact hb id (any_beq.1 hc)
  | row id=>exact hr id (any_beq.1 hc)
  | mp id=>exact hm id (any_beq.1 hc)
  | rows id=>exact hm id (any_beq.1 hc)
  | iM f ids=>exact fun id hid=>hb id (any_beq.1 (by simp only [wfC,List.all_eq_true] at hc; exact hc id hid))
  | lR f τ ids=>exact fun id hid=>hb id (any_beq.1 (by simp only [wfC,List.all_eq_true] at hc; exact hc id hid))
  | pc τ=>trivial
  | own _ _ _=>trivial
  | rw _ _ _=>trivial
  | jI=>trivial
  | top=>trivial
  | k n=>trivial
 intro p hp
 rw [List.all_eq_true] at hall
 have:=hall p hp
 cases p with
 | slot t c=>exact hcell c this
 | box id cs =>
  intro c hc
  simp only [List.all_eq_true] at this
  exact hcell c (this c hc)
 | cells t cs =>
  intro c hc
  simp only [List.all_eq_true] at this
  exact hcell c (this c hc)
 | _=>trivial
def qo (bs:List Nat) (l:List fu):Bool:=l.all fun
 | .mark=>true
 | .marks=>true
 | .iM _ ids=>ids.all fun id=>bs.any (Nat.beq id)
theorem dz.cmp (hc:Cmp vr lo heap H' ρ ρ') {n0:Nat}:∀ {ds:List fu} {dd:List Deferred},dz n0 w heap ρ F ds dd->(∀ f ids,.iM f ids∈ds->∀ id∈ids,H' id ≠ .none)->dz n0 w H' ρ' F ds dd
 | [],[],_,_=>trivial
 | .mark :: r,d :: ds,⟨h1,h⟩,hn=>⟨h1,dz.cmp hc h fun f ids hm=>hn f ids (.tail _ hm)⟩
 | .iM f ids :: r,d :: ds,⟨⟨us,h1,h2⟩,h⟩,hn=>⟨⟨us,h1,h2.cmp hc (hn f ids (.head _))⟩,dz.cmp hc h fun f ids hm=>hn f ids (.tail _ hm)⟩
 | .marks :: r,dd,⟨ms,ds,e,h1,h⟩,hn=>⟨ms,ds,e,h1,dz.cmp hc h fun f ids hm=>hn f ids (.tail _ hm)⟩
 | [],_ :: _,h,_=>h.elim
 | .mark :: _,[],h,_=>h.elim
 | .iM _ _ :: _,[],h,_=>h.elim
def Gh.iL (G:Gh):Prop:=∀ F S w,Im G .none F S w
theorem qX (hG:G.Ok P) (h:SR P N G s a w ρ S F) {ps:List bg} {x:(aa ps).den} {t:Tr} (hwf:kU ps=true) (hd:qo (fh ps) s.bw=true) (ht:lZ ps=true\/Im G t F S w) (hx:rd G.lo s ps=some x) :
  SR P N G (wrV vr G.lo t s.bw ps x) a w (iw G.ic s.heap ρ) S F:=by
 have hnm:=Wm (vr:=vr) (x:=x) hwf
 have hwf':=hwf
 simp only [kU,Bool.and_eq_true] at hwf
 have DJ:(bC vr ps x |>.map (·.1)).Nodup:=by rw [fk]; exact ga hwf.1
 have hc:Cmp vr G.lo s.heap (bR (bC vr ps x)) ρ (iw G.ic s.heap ρ):=⟨fun id hn=>nt h hx _ (dG hn),h.zw hG,fun id v T e s hh=>iy _ (dG (i:=id) (by rw [hh]; simp)) v T e s hh⟩
 have hall:∀ p∈bC vr ps x,bR (bC vr ps x) p.1=p.2:=gv DJ
 have VO:∀ i b,live (bR (bC vr ps x) i)->iw G.ic s.heap ρ i=some b->live (s.heap i)/\ρ i=some b:=fun i b hl hb=>by
  refine ⟨?_,hc.zw.r2 i b hb⟩
  have hn:bR (bC vr ps x) i ≠ .none:=fun e=>by rw [e] at hl; exact hl
  have:=hc.like i hn
  cases ho:bR (bC vr ps x) i with
  | none=>exact absurd ho hn
  | gone=>rw [ho] at hl; exact hl.elim
  | box ds=>rw [ho] at this; obtain ⟨_,e⟩:=this; rw [e]; trivial
  | row v T e y =>
   rw [ho] at this
   obtain ⟨v,e⟩ | ⟨e1,e2,e3⟩:=this
   ·rw [e]; trivial
   ·rw [hc.zw.r3 i e1 e3] at hb; cases hb
  | mp k v m=>rw [ho] at this; rw [show s.heap i=_ from this]; trivial
  | rows _ T e d=>rw [ho] at this; obtain ⟨_,e⟩:=this; rw [e]; trivial
  | chain bG T k n =>
   rw [ho] at this
   obtain ⟨v,e⟩ | ⟨e1,e2,e3⟩:=this
   ·rw [e]; trivial
   ·rw [hc.zw.r3 i e1 e3] at hb; cases hb
 have hown:∀ i b,Own w (iw G.ic s.heap ρ) i (bR (bC vr ps x) i) b->Own w ρ i (s.heap i) b:=fun i b hi=>by
  by_cases hr:tY (bR (bC vr ps x) i)=false
  ·obtain ⟨l1,r1⟩:=VO i b hi.lv (hi.flat hr)
   exact .of l1 r1
  ·have hn:bR (bC vr ps x) i ≠ .none:=fun e=>by rw [e] at hi; exact hi
   have hlk:=hc.like i hn
   cases ho:bR (bC vr ps x) i with
   | rows v T e d =>
    rw [ho] at hi hlk
    obtain ⟨v0,e0⟩:=hlk
    rw [e0]
    rcases hi with q | ⟨k,n,cap,b0,arr,T0,q1,q2⟩
    ·exact .inl (hc.zw.r2 i b q)
    ·exact .inr ⟨k,n,cap,b0,arr,T0,hc.zw.r2 i b0 q1,q2⟩
   | _=>rw [ho] at hr; exact absurd rfl hr
 refine ⟨h.size,h.bw.cmp hc fun f ids hm id hid=>?_,Wl h hc hx hnm hall,fun id=>?_,fun i j b hi hj=>h.inj i j b (hown i b hi) (hown j b hj),h.ext,h.new,h.same,?_,h.fb,h.f0,h.sub,h.fs,fun id b hb=>?_⟩
 ·simp only [qo,List.all_eq_true] at hd
  have:=hd _ hm
  simp only [List.all_eq_true] at this
  obtain ⟨ds,hds⟩:=eL (vr:=vr) (x:=x) (any_beq.1 (this id hid))
  show bR (bC vr ps x) id ≠ .none
  rw [hall _ hds]; simp
 ·show OI P G S w (bR (bC vr ps x)) _ F id (bR (bC vr ps x) id)
  by_cases hn:bR (bC vr ps x) id = .none
  ·rw [hn]; trivial
  ·exact PI h hc hx hnm hall _ (dG hn)
 ·show Im G (xG t ps x) F S w
  cases hh:lZ ps with
  | true=>rw [mb hx hh]; exact h.tr
  | false=>rw [fR hh]; exact ht.resolve_left (by rw [hh]; simp)
 ·obtain ⟨p1,p2⟩:=h.pins id b hb
  refine ⟨by unfold iw; rw [hb],?_⟩
  show gp (bR (bC vr ps x) id)=false
  by_cases hn:bR (bC vr ps x) id = .none
  ·rw [hn]; rfl
  ·have:=hc.like id hn
   cases ho:bR (bC vr ps x) id with
   | chain bG T k n =>
    rw [ho] at this
    obtain ⟨v,e⟩ | ⟨e1,e2,e3⟩:=this
    ·rw [e] at p2; cases p2
    ·have:=hG.ic id b hb; omega
   | _=>rfl
theorem avN (hG:G.Ok P) (h:SX P N G s a w) {ps:List bg} {x:(aa ps).den} (hwf:kU ps=true) (hd:qo (fh ps) s.bw=true) (ht:lZ ps=true\/G.iL) (hx:rd G.lo s ps=some x) :
  SX P N G (wr G.lo .none s.bw ps x) a w:=by
 obtain ⟨ρ,S,F,h⟩:=h
 exact ⟨_,S,F,qX hG h hwf hd (ht.imp id fun q=>q F S w) hx⟩
end Go.Dm

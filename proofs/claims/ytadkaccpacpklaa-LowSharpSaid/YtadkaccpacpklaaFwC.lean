/-
 The framework: an interpreter over typed data,and why what it says of a call is true.
-/
import Derived.Test.YtadkaccpacpklaaFwB
set_option linter.unusedVariables false
set_option linter.unusedSimpArgs false
namespace Go.Dm
open Go.RowKit
variable {P:Program} {N:Nat} {G:Gh} {S S':CS} {w w':World} {s:St} {a:Act} {ρ ρ':fV} {F F':Nat->Prop} {heap heap':Nat->aN} {Y:Value} {E:cO} {Γ:Ctx} {Fw:Fence} {r:Nat} {ops:Array Oper}
def SX (P:Program) (N:Nat) (G:Gh) (s:St) (a:Act) (w:World):Prop:=∃ ρ S F,SR P N G s a w ρ S F
theorem SX.of_eq {s':St} (h:SX P N G s a w) (he:s'.env=s.env) (hh:s'.heap=s.heap) (ht:s'.tr=s.tr) (hd:s'.aS=s.aS):SX P N G s' a w:=by
 obtain ⟨ρ,S,F,h⟩:=h; exact ⟨ρ,S,F,h.of_eq he hh ht hd⟩
theorem uu (env:Nat->Slot) (t:Nat) (sl:Slot) (h:env t=sl):setEnv env t sl=env:=by
 funext u
 unfold setEnv
 by_cases hu:u=t
 ·subst hu; simp [h]
 ·simp [bC hu]
structure Env (P:Program) (E:cO) (Γ:Ctx) (G:Gh) (Fw:Fence):Prop where
 mixed:P.follows .mixedOrders=true
 fns:Sound P Γ
 eq:fI P E.eq
 key:ez P E.key
 gh:G.Ok P
 wide:jv Fw
 aS:E.aS=true->Fw.round=none
theorem ajp {β:Type} {T:β->Prop} {K:Option rj->β} {b:Br} (h:T (b.run K)):T (K (b.run id)):=(Br.run_eq K b) ▸ h
theorem Fe (hE:Env P E Γ G Fw) {β:Type} {T:β->Prop} {ch:β->β->β} (hch:∀ a b,T (ch a b)->T a/\T b) {K:Stp->β} (dF:¬ T (K .bad)/\∀ s',T (K (.cw .jc s'))->YG G s') {o:Oper} (hd:o.dst.all (Nat.blt · N)=true) (h:SX P N G s a w)
  (hT:T (Vb P E Γ G.lo ch o s K)) {Q:Exit->Act->World->Prop} (hQ:∀ d s' ch w',T (K (.cw d s'))->Vd P N G s' a w' d ch->Q (.panic ch) a w') :
  o.wpIn Fw r P a w (fun a' w'=>∃ s',SX P N G s' a' w'/\T (K (.ok s'))) Q:=by
 obtain ⟨ρ,S,F,h⟩:=h
 unfold Vb at hT
 split at hT
 ·rename_i c hop
  split at hT
  ·rename_i d hdf qV
   refine ⟨fun f _=>hE.wide.fn f,?_⟩
   rw [hE.aS hdf,Oper.semAt_none]
   unfold YI at qV
   split at qV
   case h_2=>cases qV
   rename_i t Vo hargs
   split at qV
   case h_2=>cases qV
   rename_i f ids ht
   split at qV
   case h_2=>cases qV
   cases qV
   have hargs:c.args = #[]:=by simpa using hargs
   have hv:=h.env t
   rw [ht] at hv
   obtain ⟨_,us,hv,wM⟩:=hv
   have hv:a.eval (.tmp t) = .func (.func f) #[] us.toArray:=hv
   have hrun:(execOp a.eval o).run P w = .ok (.defer { target:=.fn (.func f) us.toArray,args:=#[] }) w:=by
    simp [execOp,hop,resolve,Vo,hv,hargs,Deferred.ofValue]
   rw [hrun,Oper.uponIn_defer]
   have h2:SR P N G { s with aS:=.nE f ids :: s.aS } { a with defers:={ target:=.fn (.func f) us.toArray,args:=#[] } :: a.defers } w ρ S F:=
    ⟨h.size,⟨⟨us,rfl,wM⟩,h.aS⟩,h.env,h.obj,h.inj,h.ext,h.new,h.same,h.tr,h.fb,h.f0,h.sub,h.fs,h.pins⟩
   exact ⟨_,⟨ρ,S,F,(h2.qo hd).of_eq rfl rfl rfl rfl⟩,hT⟩
  ·exact absurd hT dF.1
 ·split at hT
  ·rename_i t ht
   have hall:=Tree.rD hch hT
   refine Jo hE.wide hE.fns hE.gh h hd ht (fun r hr e=>?_) (fun e hr=>dF.2 _ (hall _ hr)) (fun a' w' e hr he=>?_) (fun w' d e ch hr he=>?_)
   ·subst e; exact dF.1 (hall _ hr)
   ·obtain ⟨ρ',S',F',q⟩:=he
    exact ⟨_,⟨ρ',S',F',q⟩,hall _ hr⟩
   ·exact hQ d _ ch w' (hall _ hr) he
  ·have hT:=ajp hT
   cases he:(xT P E Γ G.lo s.base o s.env s.heap).run id with
   | none=>rw [he] at hT; exact absurd hT dF.1
   | some e =>
    rw [he] at hT
    refine kX hE.wide (Bk he) (Oper.wp_mono (fun a' w' q=>?_) (Jn hE.fns hE.eq hE.key hE.gh h hd he))
    obtain ⟨_,ρ',S',F',q⟩:=q
    exact ⟨_,⟨ρ',S',F',q⟩,hT⟩
theorem rN (h:SX P N G s a w) {o:Oper} {j:Nat} {want:Bool} (hg:o.guard=some (j,want)) {t:Nat} (ht:(ops[j]?).bind (·.dst)=some t) {b:Bool} (hb:s.env t = .v (.pc .bool b)) :
  Region.wanted o (yielded ops a.tmps)=(b == want):=by
 obtain ⟨ρ,S,F,h⟩:=h
 unfold Region.wanted
 simp only [hg]
 have:=h.env t
 rw [hb] at this
 have hv:=rG this
 have hty:a.tmps[t]? = some (.bool b):=by
  rw [Array.getD_eq_getD_getElem?] at hv
  cases hq:a.tmps[t]? with
  | none=>rw [hq] at hv; cases hv
  | some v=>rw [hq] at hv; simpa using hv
 have:yielded ops a.tmps j=some b:=by simp [yielded,ht,hty]
 rw [this]
 rfl
theorem uv (h:SX P N G s a w) {o:Oper} {j:Nat} {want:Bool} (hg:o.guard=some (j,want)) {t:Nat} (ht:(ops[j]?).bind (·.dst)=some t) (hb:s.env t = .un) :
  Region.wanted o (yielded ops a.tmps)=false:=by
 obtain ⟨ρ,S,F,h⟩:=h
 unfold Region.wanted
 simp only [hg]
 have:=h.env t
 rw [hb] at this
 have hv:a.tmps.getD t undef=undef:=this
 have:yielded ops a.tmps j=none:=by
  simp only [yielded,ht,Option.bind_some]
  rw [Array.getD_eq_getD_getElem?] at hv
  cases hq:a.tmps[t]? with
  | none=>rfl
  | some v=>rw [hq] at hv; rw [show v=undef from hv]; rfl
 rw [this]
 rfl
theorem Bl (hE:Env P E Γ G Fw) {β:Type} {T:β->Prop} {ch:β->β->β} (hch:∀ a b,T (ch a b)->T a/\T b) {K:Stp->β} (dF:¬ T (K .bad)/\∀ s',T (K (.cw .jc s'))->YG G s') {i:Nat} {o:Oper} (ho:ops[i]? = some o) (h:SX P N G s a w)
  (hT:T (MM P E Γ G.lo N ch ops o s K)) {Q:Exit->Act->World->Prop} (hQ:∀ d s' ch w',T (K (.cw d s'))->Vd P N G s' a w' d ch->Q (.panic ch) a w') :
  wpOpIn Fw r P ops Q i (fun a' w'=>∃ s',SX P N G s' a' w'/\T (K (.ok s'))) a w:=by
 unfold MM at hT
 unfold wpOpIn
 simp only [ho]
 split at hT
 ·exact absurd hT dF.1
 ·rename_i hd
  split at hT
  ·rename_i hg
   have hw:Region.wanted o (yielded ops a.tmps)=true:=by simp [Region.wanted,hg]
   rw [if_pos hw]
   exact Fe hE hch dF hd h hT hQ
  ·rename_i j want hg
   split at hT
   ·exact absurd hT dF.1
   ·rename_i t ht
    split at hT
    ·rename_i b hb
     have hw:=rN h hg ht hb
     have Nj:∀ b':Bool,b=b'->setEnv s.env t (.v (.pc .bool b'))=s.env:=fun b' e=>by subst e; exact uu _ _ _ hb
     have skip:∀ b':Bool,b=b'->(b == want)=false->T (K (.ok { s with env:=jh (setEnv s.env t (.v (.pc .bool b'))) o.dst .un })) ->
       (if Region.wanted o (yielded ops a.tmps)=true then o.wpIn Fw r P a w (fun a' w'=>∃ s',SX P N G s' a' w'/\T (K (.ok s'))) Q else (∀ f,o.about P w a.eval=some f->Fw.fn f)/\∃ s',SX P N G s' (a.put o.dst undef) w/\T (K (.ok s'))):=by
      intro b' e hne hT
      rw [hw,hne,if_neg (by simp)]
      refine ⟨fun f _=>hE.wide.fn f,_,?_,hT⟩
      rw [Nj b' e]
      obtain ⟨ρ,S,F,h⟩:=h
      exact ⟨ρ,S,F,h.Qm hd⟩
     have go:∀ b':Bool,b=b'->(b == want)=true->T (Vb P E Γ G.lo ch o { s with env:=setEnv s.env t (.v (.pc .bool b')) } K) ->
       (if Region.wanted o (yielded ops a.tmps)=true then o.wpIn Fw r P a w (fun a' w'=>∃ s',SX P N G s' a' w'/\T (K (.ok s'))) Q else (∀ f,o.about P w a.eval=some f->Fw.fn f)/\∃ s',SX P N G s' (a.put o.dst undef) w/\T (K (.ok s'))):=by
      intro b' e hne hT
      rw [hw,hne,if_pos rfl]
      rw [Nj b' e] at hT
      exact Fe hE hch dF hd (s:={ s with env:=s.env }) (h.of_eq rfl rfl rfl rfl) hT hQ
     obtain hb' | hb':(show Bool from b)=true\/(show Bool from b)=false:=by cases (show Bool from b) <;> simp
     ·have hb':b=true:=hb'
      subst hb'
      cases want with
      | true=>exact go true rfl rfl hT
      | false=>exact skip true rfl rfl hT
     ·have hb':b=false:=hb'
      subst hb'
      cases want with
      | true=>exact skip false rfl rfl hT
      | false=>exact go false rfl rfl hT
    ·rename_i hun
     rw [uv h hg ht hun,if_neg (by simp)]
     refine ⟨fun f _=>hE.wide.fn f,_,?_,hT⟩
     obtain ⟨ρ,S,F,h⟩:=h
     exact ⟨ρ,S,F,h.Qm hd⟩
    ·exact absurd hT dF.1
theorem wpOpIn_mono {Q:Exit->Act->World->Prop} {i:Nat} {K K':Act->World->Prop} (hk:∀ a w,K a w->K' a w) (h:wpOpIn Fw r P ops Q i K a w):wpOpIn Fw r P ops Q i K' a w:=by
 unfold wpOpIn at h ⊢
 split
 ·rename_i h0
  rw [h0] at h
  exact hk _ _ h
 ·rename_i o h0
  rw [h0] at h
  simp only at h
  split
  ·rename_i hw
   rw [if_pos hw] at h
   exact Oper.wpIn_mono hk h
  ·rename_i hw
   rw [if_neg hw] at h
   exact ⟨h.1,hk _ _ h.2⟩
theorem Ff (hE:Env P E Γ G Fw) {β:Type} {T:β->Prop} {ch:β->β->β} (hch:∀ a b,T (ch a b)->T a/\T b) {K:Out->β} (dF:¬ T (K .bad)/\∀ s',T (K (.cw .jc s'))->YG G s') {Q:Exit->Act->World->Prop}
  (hN:∀ s' a' w',T (K (.norm s'))->SX P N G s' a' w'->Q .normal a' w') (hQ:∀ d s' ch a' w',T (K (.cw d s'))->Vd P N G s' a' w' d ch->Q (.panic ch) a' w') :
  ∀ {l:List Oper} {i:Nat} {s:St} {a:Act} {w:World},(∀ j,l[j]? = ops[i + j]?)->SX P N G s a w->T (YJ P E Γ G.lo N ch ops l s K)->wpOpsIn Fw r P ops Q (List.range' i l.length) a w
 | [],i,s,a,w,_,h,hT=>hN _ a w hT (h.of_eq rfl rfl rfl rfl)
 | o :: l,i,s,a,w,hl,h,hT=>by
  have h0:ops[i]? = some o:=by simpa using (hl 0).symm
  rw [List.length_cons,List.range'_succ,wpOpsIn_cons]
  refine wpOpIn_mono ?_ (Bl (K:=fun
   | .ok s'=>YJ P E Γ G.lo N ch ops l s' K
   | .cw d s'=>K (.cw d s')
   | .bad=>K .bad) hE hch dF h0 h hT (fun d s' c w' q1 q2=>hQ d s' c a w' q1 q2))
  rintro a' w' ⟨s',q1,q2⟩
  exact Ff hE hch dF hN hQ (l:=l) (i:=i + 1) (fun j=>by have:=hl (j + 1); simpa [Nat.add_assoc,Nat.add_comm 1 j] using this) q1 q2
end Go.Dm
namespace Go.Dm
open Go.RowKit
variable {P:Program} {N:Nat} {G:Gh} {S S':CS} {w w':World} {s:St} {a:Act} {ρ ρ':fV} {F F':Nat->Prop} {heap heap':Nat->aN} {Y:Value} {E:cO} {Γ:Ctx} {Fw:Fence} {r:Nat} {ops:Array Oper}
abbrev X:=(Nat->Slot)×(Nat->aN)×Tr
def X.st (x:X) (base:Nat) (aS:List gx):St:=⟨x.1,x.2.1,x.2.2,base,aS⟩
def St.x (s:St):X:=(s.env,s.heap,s.tr)
def gl (ops:Array Oper) (o:Oper) (env:Nat->Slot):Option Bool:=
 match o.guard with
 | none=>some true
 | some (j,want)=>match (ops[j]?).bind (·.dst) with
  | none=>none
  | some t=>match env t with
   | .v (.pc .bool b)=>some ((show Bool from b) == want)
   | .un=>some false
   | _=>none
def opY (P:Program) (E:cO) (Γ:Ctx) (lo base:Nat) (o:Oper) (x:X):Option (rj×Bool):=
 match Pq P Γ lo base o x.1 x.2.1 x.2.2 with
 | some t=>t.det.map (·,false)
 | none=>((xT P E Γ lo base o x.1 x.2.1).run id).map fun e=>({ e with tr:=none },true)
def jQ (P:Program) (E:cO) (Γ:Ctx) (lo base N:Nat) (ops:Array Oper) (i:Nat) (o:Oper) (x:X):Option (X×FP):=
 match o.dst.all (Nat.blt · N),gl ops o x.1 with
 | true,some true=>(opY P E Γ lo base o x).map fun e=>((jh x.1 o.dst (e.1.wt.getD .top),dm x.2.1 e.1.wh,Va x.2.2 e.1.tr),⟨i,e.1.rh,e.1.wh.map (·.1),e.2⟩)
 | true,some false=>some ((jh x.1 o.dst .un,x.2.1,x.2.2),⟨i,[],[],true⟩)
 | _,_=>none
theorem wR {lo base i:Nat} {o:Oper} {x:X} (hd:o.dst.all (Nat.blt · N)=true) (hg:gl ops o x.1=some true) :
  jQ P E Γ lo base N ops i o x=(opY P E Γ lo base o x).map fun e=>((jh x.1 o.dst (e.1.wt.getD .top),dm x.2.1 e.1.wh,Va x.2.2 e.1.tr),⟨i,e.1.rh,e.1.wh.map (·.1),e.2⟩):=by
 unfold jQ; rw [hd,hg]
theorem lQ {lo base i:Nat} {o:Oper} {x:X} (hd:o.dst.all (Nat.blt · N)=true) (hg:gl ops o x.1=some false) :
  jQ P E Γ lo base N ops i o x=some ((jh x.1 o.dst .un,x.2.1,x.2.2),⟨i,[],[],true⟩):=by
 unfold jQ; rw [hd,hg]
theorem Tree.KF {β:Type} (K:OR->β) (z:β):∀ (t:Tree OR),(∃ e,t.det=some e/\t.run (fun _ _=>z) (fun | .ok e=>K (.ok e) | _=>z)=K (.ok e))\/t.run (fun _ _=>z) (fun | .ok e=>K (.ok e) | _=>z)=z
 | .leaf r=>by
  cases r with
  | ok e=>exact .inl ⟨e,rfl,rfl⟩
  | cw d e=>exact .inr rfl
  | bad=>exact .inr rfl
 | .br b l r=>by
  cases b
  ·exact Tree.KF K z r
  ·exact Tree.KF K z l
 | .any l r=>.inr rfl
theorem Tree.KH:∀ {t:Tree OR} {e:rj},t.det=some e->∀ r,t.Has r↔r = .ok e
 | .leaf q,e,h,r=>by
  cases q <;> cases h
  exact Iff.rfl
 | .br b l r0,e,h,r=>by
  cases b
  ·simpa [Tree.Has] using Tree.KH (t:=r0) (e:=e) h r
  ·simpa [Tree.Has] using Tree.KH (t:=l) (e:=e) h r
 | .any l r0,e,h,r=>by cases h
theorem Qz {β:Type} {lo:Nat} (i:Nat) (o:Oper) (s:St) (K:Option (St×FP)->β) :
  (∃ s' fp,jQ P E Γ lo s.base N ops i o s.x=some (s'.x,fp)/\s'.base=s.base/\s'.aS=s.aS/\kK P E Γ lo N ops i o s K=K (some (s',fp)))\/kK P E Γ lo N ops i o s K=K none:=by
 cases hd:o.dst.all (Nat.blt · N) with
 | false=>right; unfold kK; rw [hd]
 | true =>
  have main:∀ (s1:St),s1.env=s.env->s1.heap=s.heap->s1.tr=s.tr->s1.base=s.base->s1.aS=s.aS->gl ops o s.env=some true ->
    kK P E Γ lo N ops i o s K=(match Pq P Γ lo s1.base o s1.env s1.heap s1.tr with
     | some t=>t.run (fun _ _=>K none) fun
      | .ok e=>K (some (s1.fG o.dst e,⟨i,e.rh,e.wh.map (·.1),false⟩))
      | _=>K none
     | none=>(xT P E Γ lo s1.base o s1.env s1.heap).run fun
      | some e=>K (some (s1.fG o.dst { e with tr:=none },⟨i,e.rh,e.wh.map (·.1),true⟩))
      | none=>K none) ->
    (∃ s' fp,jQ P E Γ lo s.base N ops i o s.x=some (s'.x,fp)/\s'.base=s.base/\s'.aS=s.aS/\kK P E Γ lo N ops i o s K=K (some (s',fp)))\/kK P E Γ lo N ops i o s K=K none:=by
   intro s1 h1 h2 h3 h4 h5 hg hK
   rw [h1,h2,h3,h4] at hK
   rw [wR hd hg]
   unfold opY
   simp only [St.x]
   cases ht:Pq P Γ lo s.base o s.env s.heap s.tr with
   | some t =>
    rw [ht] at hK
    rcases Tree.KF (fun | .ok e=>K (some (s1.fG o.dst e,⟨i,e.rh,e.wh.map (·.1),false⟩)) | _=>K none) (K none) t with ⟨e,q1,q2⟩ | q
    ·left
     refine ⟨s1.fG o.dst e,⟨i,e.rh,e.wh.map (·.1),false⟩,?_,h4,h5,hK.trans q2⟩
     simp only [q1,Option.map_some,St.fG,h1,h2,h3]
    ·right; exact hK.trans q
   | none =>
    rw [ht] at hK
    simp only at hK
    rw [Br.run_eq] at hK
    cases hr:(xT P E Γ lo s.base o s.env s.heap).run id with
    | none=>right; rw [hK,hr]
    | some e =>
     left
     refine ⟨s1.fG o.dst { e with tr:=none },⟨i,e.rh,e.wh.map (·.1),true⟩,?_,h4,h5,by rw [hK,hr]⟩
     simp only [Option.map_some,St.fG,h1,h2,h3]
  cases hg:o.guard with
  | none =>
   exact main s rfl rfl rfl rfl rfl (by simp [gl,hg]) (by unfold kK; rw [hd,hg]; rfl)
  | some jw =>
   obtain ⟨j,want⟩:=jw
   cases hj:(ops[j]?).bind (·.dst) with
   | none=>right; unfold kK; rw [hd,hg]; simp only [hj]
   | some t =>
    cases yz:s.env t with
    | v d =>
     cases d with
     | pc τ b =>
      cases τ with
      | bool =>
       have Pu:gl ops o s.env=some ((show Bool from b) == want):=by simp [gl,hg,hj,yz]
       have Nj:setEnv s.env t (.v (.pc .bool b))=s.env:=uu _ _ _ yz
       obtain hb | hb:(show Bool from b)=true\/(show Bool from b)=false:=by cases (show Bool from b) <;> simp
       ·have hb:b=true:=hb
        subst hb
        cases want with
        | true=>exact main { s with env:=setEnv s.env t (.v (.pc .bool true)) } Nj rfl rfl rfl rfl Pu (by unfold kK; rw [hd,hg]; simp only [hj,yz]; rfl)
        | false =>
         left
         refine ⟨{ s with env:=jh (setEnv s.env t (.v (.pc .bool true))) o.dst .un },⟨i,[],[],true⟩,?_,rfl,rfl,by unfold kK; rw [hd,hg]; simp only [hj,yz]; rfl⟩
         rw [lQ hd Pu]
         simp only [St.x,Nj]
       ·have hb:b=false:=hb
        subst hb
        cases want with
        | false=>exact main { s with env:=setEnv s.env t (.v (.pc .bool false)) } Nj rfl rfl rfl rfl Pu (by unfold kK; rw [hd,hg]; simp only [hj,yz]; rfl)
        | true =>
         left
         refine ⟨{ s with env:=jh (setEnv s.env t (.v (.pc .bool false))) o.dst .un },⟨i,[],[],true⟩,?_,rfl,rfl,by unfold kK; rw [hd,hg]; simp only [hj,yz]; rfl⟩
         rw [lQ hd Pu]
         simp only [St.x,Nj]
      | _=>right; unfold kK; rw [hd,hg]; simp only [hj,yz]
     | _=>right; unfold kK; rw [hd,hg]; simp only [hj,yz]
    | un =>
     left
     have Pu:gl ops o s.env=some false:=by simp [gl,hg,hj,yz]
     refine ⟨{ s with env:=jh s.env o.dst .un },⟨i,[],[],true⟩,?_,rfl,rfl,by unfold kK; rw [hd,hg]; simp only [hj,yz]⟩
     rw [lQ hd Pu]
     rfl
    | _=>right; unfold kK; rw [hd,hg]; simp only [hj,yz]
theorem Bm (hE:Env P E Γ G Fw) {Q:Exit->Act->World->Prop} {i base:Nat} {aS:List gx} {o:Oper} (ho:ops[i]? = some o) (Jg:∀ c,o.op ≠ .defer c) {x x':X} {fp:FP}
  (hs:jQ P E Γ G.lo base N ops i o x=some (x',fp)) (h:SX P N G (x.st base aS) a w):wpOpIn Fw r P ops Q i (SX P N G (x'.st base aS)) a w:=by
 unfold jQ at hs
 split at hs
 ·rename_i hd hg
  simp only [Option.map_eq_some_iff] at hs
  obtain ⟨e,he,hs⟩:=hs
  simp only [Prod.mk.injEq] at hs
  obtain ⟨rfl,rfl⟩:=hs
  have hw:Region.wanted o (yielded ops a.tmps)=true:=by
   unfold gl at hg
   split at hg
   ·rename_i hg'; simp [Region.wanted,hg']
   ·rename_i j want hg'
    split at hg
    ·cases hg
    ·rename_i t ht
     split at hg
     ·rename_i b hb
      rw [rN (s:=x.st base aS) h hg' ht hb]
      simpa using hg
     ·cases hg
     ·cases hg
  unfold wpOpIn
  simp only [ho,hw,if_true]
  unfold opY at he
  obtain ⟨ρ,S,F,h⟩:=h
  cases ht:Pq P Γ G.lo base o x.1 x.2.1 x.2.2 with
  | some t =>
   rw [ht] at he
   simp only [Option.map_eq_some_iff] at he
   obtain ⟨e0,he0,rfl⟩:=he
   have hall:=Tree.KH he0
   refine Jo (s:=x.st base aS) hE.wide hE.fns hE.gh h hd ht (fun r hr e=>?_) (fun e hr=>?_) (fun a' w' e hr he=>?_) (fun w' d e ch hr he=>?_)
   ·rw [(hall r).1 hr] at e; cases e
   ·have:=(hall _).1 hr; cases this
   ·have:=(hall _).1 hr
    cases this
    exact he
   ·have:=(hall _).1 hr; cases this
  | none =>
   rw [ht] at he
   simp only [Option.map_eq_some_iff] at he
   obtain ⟨e0,he0,rfl⟩:=he
   refine kX hE.wide (Bk he0) (Oper.wp_mono (fun a' w' q=>?_) (Jn (s:=x.st base aS) hE.fns hE.eq hE.key hE.gh h hd he0))
   obtain ⟨htr,ρ',S',F',q⟩:=q
   exact ⟨ρ',S',F',q.of_eq rfl rfl (by simp [St.fG,X.st,htr,Va]) rfl⟩
 ·rename_i hd hg
  cases hs
  have hw:Region.wanted o (yielded ops a.tmps)=false:=by
   unfold gl at hg
   split at hg
   ·cases hg
   ·rename_i j want hg'
    split at hg
    ·cases hg
    ·rename_i t ht
     split at hg
     ·rename_i b hb
      rw [rN (s:=x.st base aS) h hg' ht hb]
      simpa using hg
     ·rename_i hb
      exact uv (s:=x.st base aS) h hg' ht hb
     ·cases hg
  unfold wpOpIn
  simp only [ho,hw,Bool.false_eq_true,if_false]
  obtain ⟨ρ,S,F,h⟩:=h
  exact ⟨fun f _=>hE.wide.fn f,ρ,S,F,(h.Qm hd).of_eq rfl rfl rfl rfl⟩
 ·cases hs
theorem val_congr {env env':Nat->Slot} {x:Operand} (h:∀ t,x = .tmp t->env' t=env t):val Γ env' x=val Γ env x:=by
 cases x with
 | tmp t=>exact h t rfl
 | _=>rfl
theorem Zh {o:Oper} {env env':Nat->Slot} (hl:∀ t,Operand.tmp t∈o.op.operands->env' t=env t):∀ x∈o.op.operands,val Γ env' x=val Γ env x:=fun x hx=>val_congr fun t ht=>hl t (ht ▸ hx)
theorem ac5 {lo base : Nat} {o : Oper} {env env' : Nat → Slot} {heap : Nat → aN} (hl : ∀ t, Operand.tmp t ∈ o.op.operands → env' t = env t) : xT P E Γ lo base o env' heap = xT P E Γ lo base o env heap := by
  have hv := Zh (Γ := Γ) hl
  obtain ⟨dst, op, type, pos, after, guard⟩ := o
  have pairs : ∀ ps : Array (Nat × Operand), (∀ x ∈ (ps.toList.map (·.2)).toArray, val Γ env' x = val Γ env x) →
      (ps.toList.map fun p => (p.1, val Γ env' p.2)) = (ps.toList.map fun p => (p.1, val Γ env p.2)) := fun ps hp =>
    List.map_congr_left fun p hm => by
      rw [hp p.2 (by simpa using ⟨p.1, Array.mem_toList_iff.1 hm⟩)]
  cases op <;> simp only [Op.operands] at hv <;> simp only [xT]
  case build t ps => rw [pairs ps hv]
  case buildSlice t n ps => rw [pairs ps hv]
  case slice t x l h m =>
    have hx : val Γ env' x = val Γ env x := hv x (by simp)
    have hl : l.map (val Γ env') = l.map (val Γ env) := by
      cases l with
      | none => rfl
      | some y => simp only [Option.map_some]; rw [hv y (by simp)]
    have hh : h.map (val Γ env') = h.map (val Γ env) := by
      cases h with
      | none => rfl
      | some y => simp only [Option.map_some]; rw [hv y (by simp)]
    rw [hx, hl, hh]
  case call c =>
    have hargs : ∀ x ∈ c.args, val Γ env' x = val Γ env x := fun x hx => hv x (by simp [Call.operands, hx])
    have hl : c.args.toList.map (val Γ env') = c.args.toList.map (val Γ env) := List.map_congr_left fun x hx => hargs x (by simpa using hx)
    cases hc : c.callee with
    | value f =>
      have hf : val Γ env' f = val Γ env f := hv f (by simp [Call.operands, hc])
      simp only [hl, hf]
    | invoke r m => rfl
    | builtin b =>
      cases b <;> first
        | rfl
        | (simp only
           split <;> first
             | (rename_i x y z u hx hy; rw [hargs x (by rw [← Array.mem_toList_iff, hx]; simp), hargs y (by rw [← Array.mem_toList_iff, hx]; simp)]; done)
             | (rename_i x y hx; rw [hargs x (by rw [← Array.mem_toList_iff, hx]; simp), hargs y (by rw [← Array.mem_toList_iff, hx]; simp)]; done)
             | (rename_i x hx; rw [hargs x (by rw [← Array.mem_toList_iff, hx]; simp)]; done)
             | rfl)
  case makeFunc fn first caps =>
    have h1 : first.toList.map (val Γ env') = first.toList.map (val Γ env) := List.map_congr_left fun x hx => hv x (by simp [Array.mem_toList_iff.1 hx])
    have h2 : caps.toList.map (val Γ env') = caps.toList.map (val Γ env) := List.map_congr_left fun x hx => hv x (by simp [Array.mem_toList_iff.1 hx])
    rw [h1, h2]
  all_goals (first | rfl | (simp_all; done) | skip)
theorem Zi {lo base:Nat} {o:Oper} {env env':Nat->Slot} {heap heap':Nat->aN} {tr tr':Tr} (hl:∀ t,Operand.tmp t∈o.op.operands->env' t=env t) (h:Pq P Γ lo base o env heap tr=none):Pq P Γ lo base o env' heap' tr'=none:=by
 have hv:=Zh (Γ:=Γ) hl
 obtain ⟨dst,op,type,pos,after,guard⟩:=o
 cases op
 case call c =>
  have hargs:∀ x∈c.args,val Γ env' x=val Γ env x:=fun x hx=>hv x (by simp [Op.operands,Call.operands,hx])
  have hl:c.args.toList.map (val Γ env')=c.args.toList.map (val Γ env):=List.map_congr_left fun x hx=>hargs x (by simpa using hx)
  simp only [Pq] at h ⊢
  cases hc:c.callee with
  | value f =>
   have hf:val Γ env' f=val Γ env f:=hv f (by simp [Op.operands,Call.operands,hc])
   rw [hc] at h
   simp only [hl,hf] at h ⊢
   split at h
   ·unfold EH at h ⊢
    split at h
    ·split at h
     ·cases h
     ·rename_i hne
      rfl
    ·rename_i hnf
     split at h
     ·split at h
      ·cases h
      ·rename_i hne
       rfl
     ·split at h
      ·cases h
      ·rename_i hne
       rfl
     ·cases h
     ·rfl
   ·rfl
  | invoke r m=>rfl
  | builtin b=>rfl
 case panic x =>
  have hx:val Γ env' x=val Γ env x:=hv x (by simp [Op.operands])
  simp only [Pq] at h ⊢
  rw [hx]
  exact h
 case binOp op t x y yt =>
  simp only [Pq] at h ⊢
  split at h
  ·cases h
  ·cases h
  ·rfl
 all_goals rfl
theorem fm {b:Bool} {x y:Br} {e:rj} (h:(Br.br b x y).run id=some e):(b=true/\x.run id=some e)\/(b=false/\y.run id=some e):=by
 cases b
 ·exact .inr ⟨rfl,h⟩
 ·exact .inl ⟨rfl,h⟩
theorem qv {t:TypeId} {ds:List DC} {o:Nat} {rh:List Nat} {e:rj} (h:(viewAt P t ds o rh).run id=some e):e.rh=rh:=by
 unfold viewAt at h
 split at h
 case h_2=>cases h
 split at h
 ·rcases fm h with ⟨_,hx⟩ | ⟨_,hx⟩
  ·cases hx; rfl
  ·cases hx
 ·rcases fm h with ⟨_,hx⟩ | ⟨_,hx⟩
  ·cases hx; rfl
  ·cases hx
 ·cases h
theorem Nk {rw:Bool} {lo cv:Nat} {heap heap':Nat->aN} {T:TypeId} {s x:Slot} {e:rj} (h:(uY P rw lo cv heap T s x).run id=some e) (hh:∀ i∈e.rh,heap' i=heap i) :
  (uY P rw lo cv heap' T s x).run id=some e:=by
 unfold uY at h ⊢
 split at h
 case h_2=>cases h
 split at h
 case h_2=>cases h
 split at h
 ·rename_i hc
  split at h
  case h_2=>cases h
  rename_i hn
  rcases fm h with ⟨hb,hx⟩ | ⟨_,hx⟩
  ·have hrh:cv∈e.rh:=by cases rw <;> (cases hx; simp)
   rw [hh cv hrh,hn]
   exact h
  ·cases hx
 ·rename_i id bB e' r hc
  split at h
  case h_2=>cases h
  rename_i Qg E' k n r' ho hcast
  split at h
  case h_2=>cases h
  rename_i Cr
  rcases fm h with ⟨hb,hx⟩ | ⟨_,hx⟩
  ·cases hx
   rw [hh id (by simp),ho,hcast]
   simp only [Cr]
   exact h
  ·cases hx
 ·rename_i id bB hc
  split at h
  case h_2=>cases h
  rename_i Qg E' e' r ho
  split at h
  case h_2=>cases h
  rename_i r' hcast
  split at h
  case h_2=>cases h
  rename_i Cr
  rcases fm h with ⟨hb,hx⟩ | ⟨_,hx⟩
  ·cases hx
   rw [hh id (by simp),ho]
   simp only [hcast,Cr]
   exact h
  ·cases hx
 ·cases h
theorem wS {heap heap':Nat->aN}:∀ {l:List Slot},(∀ i∈zW l,heap' i=heap i)->l.map (sB heap')=l.map (sB heap)
 | [],_=>rfl
 | sl :: r,h=>by
  have ih:r.map (sB heap')=r.map (sB heap):=wS fun i hi=>h i (by
   unfold zW
   split
   ·rename_i q; cases q
   ·rename_i q; injection q with q1 q2; subst q2; exact .tail _ hi
   ·rename_i q; injection q with q1 q2; subst q2; exact hi)
  rw [List.map_cons,List.map_cons,ih]
  congr 1
  unfold sB
  split
  ·rename_i id bB i n
   rw [h id (.head _)]
  ·rfl
theorem Zj {lo base:Nat} {o:Oper} {env:Nat->Slot} {heap heap':Nat->aN} {e:rj} (h:(xT P E Γ lo base o env heap).run id=some e) (hh:∀ i∈e.rh,heap' i=heap i) :
  (xT P E Γ lo base o env heap').run id=some e:=by
 obtain ⟨dst,op,type,pos,after,guard⟩:=o
 cases op
 case box t x =>
  simp only [xT] at h ⊢
  split at h
  case h_2=>cases h
  rename_i cs h1 h2 h3
  cases h
  rw [hh _ (by simp),h1,h2,h3]; rfl
 case alloc t =>
  simp only [xT] at h ⊢
  split at h
  case h_2=>cases h
  rename_i cs h1 h2 h3
  cases h
  rw [hh _ (by simp),h1,h2,h3]; rfl
 case load t x =>
  simp only [xT,YC] at h ⊢
  split at h
  ·rename_i id off hx
   split at h
   case h_2=>cases h
   rename_i ds ho
   have h1:=qv h
   rw [hh id (by rw [h1]; simp),ho]
   exact h
  ·rename_i id off hx
   split at h
   case h_2=>cases h
   rename_i ds ho
   have h1:=qv h
   rw [hh id (by rw [h1]; simp),ho]
   exact h
  ·rename_i id bB i off hx
   split at h
   case h_2=>cases h
   rename_i cur T el sl ho
   split at h
   case h_2=>cases h
   rename_i vh
   have h1:=qv h
   rw [hh id (by rw [h1]; simp),ho]
   simp only [vh]
   exact h
  ·rename_i id i hx
   split at h
   case h_2=>cases h
   rename_i cur T el d ho
   have h1:=qv h
   rw [hh id (by rw [h1]; simp),ho]
   exact h
  ·rename_i id bB i j off hx
   split at h
   case h_2=>cases h
   rename_i cur T el d ho
   split at h
   case h_2=>cases h
   rename_i vh
   have h1:=qv h
   rw [hh id (by rw [h1]; simp),ho]
   simp only [vh]
   exact h
  ·exact h
  ·cases h
 case store t x y =>
  simp only [xT] at h ⊢
  split at h
  case h_2=>cases h
  rename_i cs hcs
  unfold Qh at h ⊢
  split at h
  ·rename_i id off hx
   split at h
   case h_2=>cases h
   rename_i ds n ho hn
   rcases fm h with ⟨hb,oP⟩ | ⟨_,oP⟩
   ·cases oP
    rw [hh id (by simp),ho,hn]
    exact h
   ·cases oP
  ·rename_i id off hx
   split at h
   case h_2=>cases h
   rename_i ds n ho hn
   rcases fm h with ⟨hb,oP⟩ | ⟨_,oP⟩
   ·cases oP
    rw [hh id (by simp),ho,hn]
    exact h
   ·cases oP
  ·rename_i id bB i off hx
   split at h
   case h_2=>cases h
   rename_i cur T el sl n ho hn
   split at h
   case h_2=>cases h
   rename_i x' hx'
   rcases fm h with ⟨hb,oP⟩ | ⟨_,oP⟩
   ·cases oP
    rw [hh id (by simp),ho,hn]
    simp only [hx']
    exact h
   ·cases oP
  ·rename_i id bB i j off hx
   split at h
   case h_2=>cases h
   rename_i cur T el sl n ho hn
   split at h
   case h_2=>cases h
   rename_i x' hx'
   rcases fm h with ⟨hb,oP⟩ | ⟨_,oP⟩
   ·cases oP
    rw [hh id (by simp),ho,hn]
    simp only [hx']
    exact h
   ·cases oP
  ·rename_i id i hx
   split at h
   case h_2=>cases h
   rename_i zw bB cur T el d n ho hn
   split at h
   case h_2=>cases h
   rename_i UZ T2 e2 s2 Jl
   split at h
   case h_2=>cases h
   rename_i s3 hcast Cr
   have hrh:e.rh=[id,zw]:=by cases h; rfl
   rw [hh id (by rw [hrh]; simp),ho,hn]
   simp only
   rw [hh zw (by rw [hrh]; simp),Jl]
   simp only [hcast,Cr]
   exact h
  ·cases h
 case indexAddr t x i =>
  simp only [xT,ry] at h ⊢
  split at h
  case h_2=>cases h
  split at h
  ·split at h
   ·rename_i id bB hidx
    split at h
    case h_2=>cases h
    rename_i cur T τ sl k ho hk
    split at h
    case h_2=>cases h
    rename_i hkc
    rcases fm h with ⟨hb,oP⟩ | ⟨_,oP⟩
    ·cases oP
     rw [hh id (by simp),ho,hk]
     simp only [hkc]
     exact h
    ·cases oP
   ·rename_i id hidx
    split at h
    case h_2=>cases h
    rename_i cur T τ d k ho hk
    split at h
    case h_2=>cases h
    rename_i hkc
    rcases fm h with ⟨hb,oP⟩ | ⟨_,oP⟩
    ·cases oP
     rw [hh id (by simp),ho,hk]
     simp only [hkc]
     exact h
    ·cases oP
   ·rename_i id bB i m hidx
    split at h
    case h_2=>cases h
    rename_i cur T τ d k ho hk
    split at h
    case h_2=>cases h
    rename_i hkc
    rcases fm h with ⟨hb,oP⟩ | ⟨_,oP⟩
    ·cases oP
     rw [hh id (by simp),ho,hk]
     simp only [hkc]
     exact h
    ·cases oP
   ·exact h
  ·exact h
  ·cases h
 case slice t x l hi m =>
  simp only [xT] at h ⊢
  split at h
  case h_2=>exact h
  split at h
  case h_2=>exact h
  rename_i id bB i n hx
  unfold vb at h ⊢
  split at h
  case h_2=>cases h
  rename_i el k b cur T τ d h1 h2 h3 h4
  split at h
  case h_2=>cases h
  rename_i sz h5 h6
  rcases fm h with ⟨hb,oP⟩ | ⟨_,oP⟩
  ·cases oP
   rw [hh id (by simp),h1,h2,h3,h4]
   simp only [h5,h6]
   exact h
  ·cases oP
 case buildSlice t n ps =>
  simp only [xT] at h ⊢
  split at h
  case h_2=>cases h
  rename_i h1 h2
  have hrh:e.rh=[base + dst.getD 0]:=by
   unfold oZ at h
   repeat' (first | (cases h; rfl) | (cases h; done) | split at h)
  rw [hh _ (by rw [hrh]; simp),h1,h2]
  exact h
 case makeSlice t l c =>
  simp only [xT,rz] at h ⊢
  split at h
  case h_2=>cases h
  rename_i hlo
  split at h
  case h_2=>cases h
  rename_i el n h1 h2 h3 h4
  split at h
  case h_2=>cases h
  rename_i i cs h5 h6
  split at h
  case h_2 =>
   rename_i h7
   have hrh:e.rh=[base + dst.getD 0]:=by
    unfold va at h
    split at h
    case h_2=>cases h
    split at h
    case h_2=>cases h
    split at h
    case h_2=>cases h
    rcases fm h with ⟨hb,oP⟩ | ⟨_,oP⟩ <;> cases oP
    rfl
   rw [hh _ (by rw [hrh]; simp),h1,h2,h3,h4]
   simp only [h5,h6,h7]
   exact h
  rename_i τ h7
  split at h
  case h_2=>cases h
  rename_i z h8
  split at h
  case h_2=>cases h
  rename_i h9
  rcases fm h with ⟨hb,oP⟩ | ⟨_,oP⟩
  ·cases oP
   rw [hh _ (by simp),h1,h2,h3,h4]
   simp only [h5,h6,h7,h8,h9]
   exact h
  ·cases oP
 case makeMap t r =>
  simp only [xT,yc] at h ⊢
  split at h
  case h_2=>cases h
  split at h
  case h_2=>cases h
  rename_i kt vt h1 h2
  split at h
  case h_2=>cases h
  rename_i k v h3 h4
  split at h
  case h_2=>cases h
  rename_i h5
  cases h
  rw [hh _ (by simp),h1,h2]
  simp only [h3,h4,h5]
  rfl
 case lookup t x i ok =>
  simp only [xT,Dn] at h ⊢
  split at h
  case h_2=>cases h
  split at h
  case h_2=>cases h
  split at h
  case h_2=>cases h
  split at h
  ·rename_i id hidx
   split at h
   case h_2=>cases h
   rename_i k' v' m ho
   split at h
   case h_2=>cases h
   rename_i m' hm
   cases h
   rw [hh id (by simp),ho]
   simp only [hm]
   rfl
  ·exact h
  ·cases h
 case mapUpdate t x i y =>
  simp only [xT,rA] at h ⊢
  split at h
  case h_2=>cases h
  split at h
  case h_2=>cases h
  rename_i k v id h1 h2 h3 h4
  split at h
  case h_2=>cases h
  rename_i k' v' m ho
  split at h
  case h_2=>cases h
  rename_i m' key val q1 q2 q3 q4
  cases h
  rw [hh id (by simp),ho]
  simp only [q1,q2,q3,q4]
  rfl
 case call c =>
  obtain ⟨callee,args,argTypes⟩:=c
  cases callee with
  | builtin b =>
   cases b
   case append =>
    simp only [xT] at h ⊢
    split at h
    case h_2=>cases h
    split at h
    case h_2=>cases h
    exact Nk h hh
   case len =>
    simp only [xT] at h ⊢
    split at h
    case h_2=>cases h
    split at h
    case h_2=>cases h
    split at h
    case h_2=>cases h
    unfold aiV at h ⊢
    split at h
    ·exact h
    ·rename_i id bB hidx
     split at h
     case h_2=>cases h
     rename_i cur T el sl ho
     split at h
     case h_2=>cases h
     rename_i vh
     cases h
     rw [hh id (by simp),ho]
     simp only [vh]; rfl
    ·rename_i id hidx
     split at h
     case h_2=>cases h
     rename_i cur T el d ho
     cases h
     rw [hh id (by simp),ho]
     rfl
    ·rename_i id bB i n hidx
     split at h
     case h_2=>cases h
     rename_i cur T el d ho
     split at h
     case h_2=>cases h
     rename_i vh
     cases h
     rw [hh id (by simp),ho]
     simp only [vh]; rfl
    ·exact h
   all_goals exact h
  | value x =>
   simp only [xT] at h ⊢
   cases x with
   | func f =>
    simp only [EG] at h ⊢
    cases hf:Γ f with
    | none=>rw [hf] at h; exact h
    | some en =>
     rw [hf] at h
     cases en with
     | row w n τa T e R =>
      simp only at h ⊢
      split at h
      ·split at h
       ·unfold EF at h ⊢
        split at h
        case h_2=>cases h
        rename_i x0 τh R0 hpn hargs hno
        split at h
        case h_2=>cases h
        rename_i τy y0 hle
        split at h
        case h_2=>cases h
        rename_i y hcast
        rcases fm h with ⟨hb,oP⟩ | ⟨_,oP⟩
        ·cases oP
         have hl:=wS (heap:=heap) (heap':=heap') (l:=args.toList.map (val Γ env)) (fun i hi=>hh i (.tail _ hi))
         have hh0:=hh _ (List.Mem.head _)
         rw [hargs] at hl hpn h ⊢
         have hl:sB heap' x0=sB heap x0:=by simpa using hl
         simp only [hpn,hl,hle,hcast,hh0,hno]
         exact h
        ·cases oP
       unfold EE at h ⊢
       split at h
       case h_2=>cases h
       rename_i y h1 h2 h3
       simp only [Br.run,fG,bad] at h
       cases hs:(R y).isSome with
       | false=>simp only [hs,cond_false] at h; cases h
       | true =>
        simp only [hs,cond_true,id] at h
        cases h
        rw [hh _ (by simp),h3]
        simp only [h1,h2,hs,Br.run,fG,cond_true,id]
      ·cases h
     | pure cc =>
      simp only at h ⊢
      split at h
      ·unfold YD at h ⊢
       split at h
       case h_2=>cases h
       rename_i y h1 h2
       rcases fm h with ⟨hb,oP⟩ | ⟨_,oP⟩
       ·cases oP
        rw [wS (heap:=heap) hh]
        simp only [h1,h2]
        exact h
       ·cases oP
      ·exact h
     | _=>exact h
   | _=>exact h
  | invoke r m=>cases h
 all_goals exact h
theorem vU {o:Oper} {env env':Nat->Slot} {b:Bool} (h:gl ops o env=some b) (hl:∀ t,t∈o.looksAt ops->env' t=env t):gl ops o env'=some b:=by
 unfold gl at h ⊢
 cases hg:o.guard with
 | none=>rw [hg] at h; exact h
 | some jw =>
  obtain ⟨j,want⟩:=jw
  rw [hg] at h
  simp only at h ⊢
  cases ht:(ops[j]?).bind (·.dst) with
  | none=>rw [ht] at h; cases h
  | some t =>
   rw [ht] at h
   simp only at h ⊢
   rw [hl t (List.mem_append_right _ (by rw [hg]; simp only [ht]; simp))]
   exact h
theorem Bn {lo base i:Nat} {o:Oper} {x y:X} {fp:FP} (h:jQ P E Γ lo base N ops i o x=some (y,fp)) (ajq:fp.loc=true) :
  ∃ sl hw,y=(jh x.1 o.dst sl,dm x.2.1 hw,x.2.2)/\fp.wh=hw.map (·.1)/\∀ x':X,(∀ t,t∈o.looksAt ops->x'.1 t=x.1 t)->(∀ i∈fp.rh,x'.2.1 i=x.2.1 i) ->
   jQ P E Γ lo base N ops i o x'=some ((jh x'.1 o.dst sl,dm x'.2.1 hw,x'.2.2),fp):=by
 cases hd:o.dst.all (Nat.blt · N) with
 | false=>unfold jQ at h; rw [hd] at h; cases h
 | true =>
  cases hg:gl ops o x.1 with
  | none=>unfold jQ at h; rw [hd,hg] at h; cases h
  | some b =>
   cases b with
   | true =>
    rw [wR hd hg] at h
    simp only [Option.map_eq_some_iff] at h
    obtain ⟨⟨e,l⟩,he,hy⟩:=h
    simp only [Prod.mk.injEq] at hy
    obtain ⟨rfl,rfl⟩:=hy
    have ajq:l=true:=ajq
    subst ajq
    unfold opY at he
    have ht:Pq P Γ lo base o x.1 x.2.1 x.2.2=none:=by
     cases ht:Pq P Γ lo base o x.1 x.2.1 x.2.2 with
     | none=>rfl
     | some t =>
      rw [ht] at he
      simp only [Option.map_eq_some_iff] at he
      obtain ⟨e',_,q⟩:=he
      cases q
    rw [ht] at he
    simp only [Option.map_eq_some_iff] at he
    obtain ⟨e',he,q⟩:=he
    cases q
    refine ⟨_,_,rfl,rfl,fun x' h1 h2=>?_⟩
    have aqx:∀ t,Operand.tmp t∈o.op.operands->x'.1 t=x.1 t:=fun t ht=>h1 t (List.mem_append_left _ (List.mem_filterMap.2 ⟨.tmp t,by simpa using ht,rfl⟩))
    rw [wR hd (vU hg h1)]
    unfold opY
    rw [Zi aqx ht]
    simp only
    rw [ac5 (env:=x.1) aqx,Zj he h2]
    rfl
   | false =>
    rw [lQ hd hg] at h
    cases h
    refine ⟨.un,[],rfl,rfl,fun x' h1 h2=>?_⟩
    rw [lQ hd (vU hg h1)]
    rfl
theorem iw {env:Nat->Slot} {d:Option Nat} {sl:Slot} {t:Nat} (h:d≠some t):jh env d sl t=env t:=by
 cases d with
 | none=>rfl
 | some d=>simp only [jh,setEnv]; rw [bC (fun e=>h (by rw [e]))]; rfl
theorem jx:∀ {hw:List (Nat×aN)} {heap:Nat->aN} {i:Nat},i ∉ hw.map (·.1)->dm heap hw i=heap i
 | [],_,_,_=>rfl
 | (j,o) :: hw,heap,i,h=>by
  simp only [List.map_cons,List.mem_cons,not_or] at h
  rw [dm,jx h.2]
  simp only [ay,bC h.1,cond_false]
theorem Vp {env:Nat->Slot} {d d':Option Nat} {sl sl':Slot} (h:∀ t,d=some t->d'≠some t):jh (jh env d sl) d' sl'=jh (jh env d' sl') d sl:=by
 funext t
 by_cases h1:d=some t
 ·have h2:=h t h1
  rw [iw h2]
  subst h1
  simp [jh,setEnv]
 ·by_cases h2:d'=some t
  ·rw [iw (env:=jh env d' sl') h1]
   subst h2
   simp [jh,setEnv]
  ·rw [iw h2,iw h1,iw h1,iw h2]
theorem Ah:∀ {hw:List (Nat×aN)} {heap heap':Nat->aN} {i:Nat},heap i=heap' i->dm heap hw i=dm heap' hw i
 | [],_,_,_,h=>h
 | (j,o) :: hw,heap,heap',i,h=>by
  rw [dm,dm]
  refine Ah ?_
  simp only [ay]
  cases Nat.beq i j <;> simp [h]
theorem Vq {heap:Nat->aN} {hw wT:List (Nat×aN)} (h:∀ i,i∈hw.map (·.1)->i ∉ wT.map (·.1)):dm (dm heap hw) wT=dm (dm heap wT) hw:=by
 funext i
 by_cases h1:i∈hw.map (·.1)
 ·rw [jx (h i h1)]
  exact Ah (jx (h i h1)).symm
 ·rw [jx (heap:=dm heap wT) h1]
  exact Ah (jx h1)
theorem uw {a b:List Nat} (h:meets a b=false):∀ i,i∈a->i ∉ b:=fun i hi hb=>by
 have:meets a b=true:=List.any_eq_true.2 ⟨i,hi,List.any_eq_true.2 ⟨i,hb,Nat.beq_refl i⟩⟩
 rw [h] at this; cases this
theorem QA {lo base i j:Nat} {oi oj:Oper} {x x1 x2:X} {fi fj:FP} (h1:jQ P E Γ lo base N ops i oi x=some (x1,fi)) (h2:jQ P E Γ lo base N ops j oj x1=some (x2,fj)) (rL:fi.loc=true) (hlj:fj.loc=true)
  (ha:oi.apart ops oj=true) (hb:oj.apart ops oi=true) (hi:Kv fi fj=true) :
  ∃ y,jQ P E Γ lo base N ops j oj x=some (y,fj)/\jQ P E Γ lo base N ops i oi y=some (x2,fi):=by
 obtain ⟨sl1,hw1,rfl,w1,l1⟩:=Bn h1 rL
 obtain ⟨sl2,hw2,rfl,w2,l2⟩:=Bn h2 hlj
 obtain ⟨a1,a2,a3⟩:=Oper.apart_spec ha
 simp only [Kv,Bool.and_eq_true,Bool.not_eq_true'] at hi
 obtain ⟨⟨i1,i2⟩,i3⟩:=hi
 have i1:=uw i1
 have i2:=uw i2
 have i3:=uw i3
 rw [w1] at i1 i3
 rw [w2] at i2 i3
 have q:=l2 x (fun t ht=>(iw (fun e=>a1 t e ht)).symm) (fun k hk=>(jx (fun e=>i1 k e hk)).symm)
 refine ⟨_,q,?_⟩
 have q2:=l1 (jh x.1 oj.dst sl2,dm x.2.1 hw2,x.2.2) (fun t ht=>iw (fun e=>a3 t e ht)) (fun k hk=>jx (fun e=>i2 k e hk))
 rw [q2]
 simp only
 rw [Vp (fun t ht=>(a2 t ht)),Vq i3]
end Go.Dm
namespace Go.Dm
open Go.RowKit
variable {P:Program} {N:Nat} {G:Gh} {S S':CS} {w w':World} {s:St} {a:Act} {ρ ρ':fV} {F F':Nat->Prop} {heap heap':Nat->aN} {Y:Value} {E:cO} {Γ:Ctx} {Fw:Fence} {r:Nat} {ops:Array Oper} {lo base:Nat} {aS:List gx}
def Vr (P:Program) (E:cO) (Γ:Ctx) (lo base N:Nat) (ops:Array Oper):List FP->X->X->Prop
 | [],x,y=>x=y
 | f :: l,x,y=>∃ o x1,ops[f.i]? = some o/\jQ P E Γ lo base N ops f.i o x=some (x1,f)/\Vr P E Γ lo base N ops l x1 y
theorem ac6 {i:Nat} {o:Oper} {x y:X} {fp:FP} (h:jQ P E Γ lo base N ops i o x=some (y,fp)):fp.i=i:=by
 unfold jQ at h
 split at h
 ·simp only [Option.map_eq_some_iff] at h
  obtain ⟨e,_,h⟩:=h
  cases h; rfl
 ·cases h; rfl
 ·cases h
theorem qw {β:Type} {K:Option (St×List FP)->β}:∀ {l:List Oper} {i:Nat} {log:List FP} {s:St},(∀ j o,l[j]? = some o->ops[i + j]? = some o) ->
  (∃ s' KJ,Vr P E Γ lo s.base N ops KJ s.x s'.x/\s'.base=s.base/\s'.aS=s.aS/\KJ.map (·.i)=List.range' i l.length/\wH P E Γ lo N ops l i log s K=K (some (s',KJ.reverse ++ log)))\/wH P E Γ lo N ops l i log s K=K none
 | [],i,log,s,_=>.inl ⟨s,[],rfl,rfl,rfl,rfl,rfl⟩
 | o :: l,i,log,s,h=>by
  have h0:ops[i]? = some o:=by simpa using h 0 o (by simp)
  let K':Option (St×FP)->β:=fun
   | some (s',fp)=>wH P E Γ lo N ops l (i + 1) (fp :: log) s' K
   | none=>K none
  have hK:wH P E Γ lo N ops (o :: l) i log s K=kK P E Γ lo N ops i o s K':=rfl
  rcases Qz (P:=P) (E:=E) (Γ:=Γ) (N:=N) (ops:=ops) (lo:=lo) i o s K' with ⟨s',fp,h1,hb,hd,h2⟩ | h2
  ·have hi:fp.i=i:=ac6 h1
   rcases qw (K:=K) (l:=l) (i:=i + 1) (log:=fp :: log) (s:=s') (fun j o' hj=>by have:=h (j + 1) o' (by simpa using hj); simpa [Nat.add_assoc,Nat.add_comm 1 j] using this) with ⟨s2,KJ,q1,qb,qd,q2,q3⟩ | q
   ·refine .inl ⟨s2,fp :: KJ,⟨o,s'.x,by rw [hi]; exact h0,by rw [hi]; exact h1,by rw [hb] at q1; exact q1⟩,qb.trans hb,qd.trans hd,?_,?_⟩
    ·simp [hi,q2,List.range'_succ]
    ·refine (hK.trans h2).trans (q3.trans ?_)
     simp
   ·exact .inr ((hK.trans h2).trans q)
  ·exact .inr (hK.trans h2)
theorem wU {g:FP} {y:X} {l2:List FP}:∀ {l1:List FP} {x:X},Vr P E Γ lo base N ops (l1 ++ g :: l2) x y ->
  (∀ f∈l1,∃ of og,ops[f.i]? = some of/\ops[g.i]? = some og/\f.loc=true/\g.loc=true/\of.apart ops og=true/\og.apart ops of=true/\Kv f g=true) ->
  Vr P E Γ lo base N ops (g :: l1 ++ l2) x y
 | [],x,h,_=>h
 | f :: l1,x,h,hf=>by
  obtain ⟨o,x1,h1,h2,h3⟩:=h
  have ih:=wU h3 (fun f hm=>hf f (List.mem_cons_of_mem _ hm))
  obtain ⟨og,x2,g1,g2,g3⟩:=ih
  obtain ⟨of,og',e1,e2,l1',l2',e3,e4,e5⟩:=hf f (List.mem_cons_self ..)
  rw [h1] at e1; cases e1
  rw [g1] at e2; cases e2
  obtain ⟨z,z1,z2⟩:=QA h2 g2 l1' l2' e3 e4 e5
  exact ⟨og,z,g1,z1,o,x2,h1,z2,g3⟩
theorem jR (h:fk ops=true) {i:Nat} {o:Oper} (ho:ops[i]? = some o):∀ e∈o.after,Region.binds .any e=true->e.on < i:=fun e he hb=>by
 unfold fk at h
 rw [List.all_eq_true] at h
 have hm:(o,i)∈ops.toList.zipIdx:=by
  rw [List.mem_zipIdx_iff_getElem?]; simpa using ho
 have:=h _ hm
 rw [List.all_eq_true] at this
 have:=this e (by simpa using he)
 simpa [hb] using this
def ux (ops:Array Oper) (listed:Array Bool):Prop:=∀ i o,ops[i]? = some o->listed.getD i false=true->∀ e∈o.after,Region.binds .any e=true->listed.getD e.on false=true
theorem fz {listed:Array Bool} (hc:ux ops listed):∀ (n j i:Nat),ew ops n j i=true->(∀ o,ops[j]? = some o->∀ e∈o.after,Region.binds .any e=true->listed.getD e.on false=true)->listed.getD i false=true
 | 0,_,_,h,_=>by cases h
 | n + 1,j,i,h,hj=>by
  unfold ew at h
  split at h
  ·rename_i o ho
   rw [List.any_eq_true] at h
   obtain ⟨e,he,h⟩:=h
   simp only [Bool.and_eq_true,Bool.or_eq_true] at h
   have hl:=hj o ho e (by simpa using he) h.1
   rcases h.2 with q | q
   ·have:=Nat.eq_of_beq_eq_true q
    rw [<- this]; exact hl
   ·exact fz hc n e.on i q (fun o' ho'=>hc e.on o' ho' hl)
  ·cases h
theorem mA (hE:Env P E Γ G Fw) (Jg:∀ (i:Nat) (o:Oper),ops[i]? = some o->∀ c,o.op ≠ .defer c) (hed:fk ops=true) {Q:Exit->Act->World->Prop} {y:X} (hQ:∀ a w,SX P N G (y.st base aS) a w->Q .normal a w) :
  ∀ (n:Nat) {l:List FP} {listed:Array Bool} {x:X} {a:Act} {w:World},l.length=n->(l.map (·.i)).Pairwise (· < ·)->(∀ f∈l,f.i < ops.size)->(∀ i,i < ops.size->(listed.getD i true=false↔i∈l.map (·.i)))->listed.size=ops.size->ux ops listed ->
   l.Pairwise (fun f g=>ue ops g f=true)->Vr P E Γ G.lo base N ops l x y->SX P N G (x.st base aS) a w->wpAnyIn Fw r P .any ops Q n listed a w
 | 0,l,listed,x,a,w,hl,hs,hb,hu,hsz,jK,hp,hr,hx=>by
  have:l=[]:=List.eq_nil_of_length_eq_zero hl
  subst this
  cases hr
  refine ⟨?_,hQ _ _ hx⟩
  refine List.eq_nil_iff_forall_not_mem.2 fun i hi=>?_
  obtain ⟨h1,o,h2,_⟩:=mem_ready.1 hi
  have:=(hu i (Array.getElem?_eq_some_iff.1 h2).1).1 h1
  cases this
 | n + 1,l,listed,x,a,w,hl,hs,hb,hu,hsz,jK,hp,hr,hx=>by
  have Fg:∀ i,i < ops.size->i ∉ l.map (·.i)->listed.getD i false=true:=fun i hi hn=>by
   have h1:¬ listed.getD i true=false:=fun e=>hn ((hu i hi).1 e)
   have hlt:i < listed.size:=by omega
   simp [Array.getD_eq_getD_getElem?,hlt] at h1 ⊢
   exact h1
  refine ⟨fun h0=>?_,fun i hi=>?_⟩
  ·exfalso
   cases l with
   | nil=>cases hl
   | cons f l =>
    have hf:f.i < ops.size:=hb f (List.mem_cons_self ..)
    have:f.i∈Region.ready .any ops listed:=mem_ready.2 ⟨(hu _ hf).2 (by simp),ops[f.i],Array.getElem?_eq_getElem hf,fun e he hbd=>by
     have hlt:=jR hed (Array.getElem?_eq_getElem hf) e he hbd
     refine Fg e.on (by omega) fun hm=>?_
     rw [List.map_cons,List.pairwise_cons] at hs
     rw [List.map_cons,List.mem_cons] at hm
     rcases hm with hm | hm
     ·omega
     ·have:=hs.1 _ hm; omega⟩
    rw [h0] at this; cases this
  ·obtain ⟨h1,o,h2,h3⟩:=mem_ready.1 hi
   have him:=(hu i (Array.getElem?_eq_some_iff.1 h2).1).1 h1
   obtain ⟨g,hg,rfl⟩:=List.mem_map.1 him
   obtain ⟨l1,l2,rfl⟩:=List.append_of_mem hg
   have hr':=wU hr (fun f hf=>by
    have hpf:ue ops g f=true:=by
     rw [List.pairwise_append] at hp
     exact hp.2.2 f hf g (List.mem_cons_self ..)
    unfold ue at hpf
    rw [h2] at hpf
    have Vf:f.i < ops.size:=hb f (by simp [hf])
    rw [Array.getElem?_eq_getElem Vf] at hpf
    simp only at hpf
    have hw:ew ops ops.size g.i f.i=false:=by
     cases hq:ew ops ops.size g.i f.i with
     | false=>rfl
     | true =>
      have:=fz jK _ _ _ hq (fun o' ho' e he hbd=>by rw [h2] at ho'; cases ho'; exact h3 e he hbd)
      have h4:=(hu f.i Vf).2 (by simp only [List.map_append,List.mem_append]; exact .inl (List.mem_map.2 ⟨f,hf,rfl⟩))
      have hlt:f.i < listed.size:=by omega
      simp [Array.getD_eq_getD_getElem?,hlt] at this h4
      rw [this] at h4; cases h4
    rw [hw] at hpf
    simp only [Bool.or_false,Bool.and_eq_true] at hpf
    exact ⟨_,o,Array.getElem?_eq_getElem Vf,h2,hpf.1.2,hpf.1.1,hpf.2.1.1,hpf.2.1.2,hpf.2.2⟩)
   obtain ⟨o',x1,q1,q2,q3⟩:=hr'
   rw [h2] at q1; cases q1
   refine wpOpIn_mono (fun a' w' hx'=>?_) (Bm hE h2 (Jg _ _ h2) q2 hx)
   have hsub:(l1 ++ l2).Sublist (l1 ++ g :: l2):=List.Sublist.append_left (List.sublist_cons_self _ _) _
   refine mA hE Jg hed hQ n (l:=l1 ++ l2) (by simp at hl ⊢; omega) (hs.sublist (hsub.map _)) (fun f hf=>hb f (hsub.subset hf)) (fun i hi'=>?_) (by simpa using hsz) ?_ (hp.sublist hsub) q3 hx'
   ·have hgn:g.i ∉ (l1 ++ l2).map (·.i):=by
     have:=hs.imp (fun {a b} (h:a < b)=>Nat.ne_of_lt h)
     rw [List.map_append,List.map_cons,List.pairwise_append,List.pairwise_cons] at this
     rw [List.map_append,List.mem_append]
     rintro (hm | hm)
     ·exact this.2.2 _ hm _ (List.mem_cons_self ..) rfl
     ·exact this.2.1.1 _ hm rfl
    by_cases hig:g.i=i
    ·subst hig
     have hlt:g.i < listed.size:=by omega
     simp only [hgn,iff_false]
     simp [Array.getD_eq_getD_getElem?,hlt]
    ·rw [getD_set_ne true hig,hu i hi']
     simp only [List.map_append,List.map_cons,List.mem_append,List.mem_cons]
     constructor
     ·rintro (h | h | h)
      ·exact .inl h
      ·exact absurd h.symm hig
      ·exact .inr h
     ·rintro (h | h)
      ·exact .inl h
      ·exact .inr (.inr h)
   ·intro i' o' ho' rL e he hbd
    have keep:∀ k,listed.getD k false=true->(listed.setIfInBounds g.i true).getD k false=true:=fun k hk=>by
     by_cases WS:g.i=k
     ·subst WS
      have hgs:g.i < listed.size:=by
       rw [hsz]; exact (Array.getElem?_eq_some_iff.1 h2).1
      simp [Array.getD_eq_getD_getElem?,hgs]
     ·rw [getD_set_ne false WS]; exact hk
    by_cases Pv:g.i=i'
    ·subst Pv
     rw [h2] at ho'; cases ho'
     exact keep _ (h3 e he hbd)
    ·rw [getD_set_ne false Pv] at rL
     exact keep _ (jK i' o' ho' rL e he hbd)
theorem uy (hE:Env P E Γ G Fw) (Jg:∀ (i:Nat) (o:Oper),ops[i]? = some o->∀ c,o.op ≠ .defer c) (hed:fk ops=true) {Q:Exit->Act->World->Prop} {y:X} {k m:Nat} (hks:k<=ops.size)
  (hk:∀ j,k<=j->j < ops.size->(∀ i,i < k->ew ops ops.size j i=true)\/∃ i,k<=i/\i < ops.size/\ew ops ops.size j i=true)
  (hQ:∀ (listed:Array Bool) a w,(∀ i,i < ops.size->(listed.getD i true=false↔k<=i))->listed.size=ops.size->ux ops listed->SX P N G (y.st base aS) a w->wpAnyIn Fw r P .any ops Q m listed a w) :
  ∀ (n:Nat) {l:List FP} {listed:Array Bool} {x:X} {a:Act} {w:World},l.length=n->(l.map (·.i)).Pairwise (· < ·)->(∀ f∈l,f.i < k)->(∀ i,i < ops.size->(listed.getD i true=false↔i∈l.map (·.i)\/k<=i))->listed.size=ops.size->ux ops listed ->
   l.Pairwise (fun f g=>ue ops g f=true)->Vr P E Γ G.lo base N ops l x y->SX P N G (x.st base aS) a w->wpAnyIn Fw r P .any ops Q (m + n) listed a w
 | 0,l,listed,x,a,w,hl,hs,hb,hu,hsz,jK,hp,hr,hx=>by
  have:l=[]:=List.eq_nil_of_length_eq_zero hl
  subst this
  cases hr
  exact hQ _ _ _ (fun i hi=>(hu i hi).trans (by simp)) hsz jK hx
 | n + 1,l,listed,x,a,w,hl,hs,hb,hu,hsz,jK,hp,hr,hx=>by
  have Fg:∀ i,i < k->i ∉ l.map (·.i)->listed.getD i false=true:=fun i hi hn=>by
   have h1:¬ listed.getD i true=false:=fun e=>by
    rcases (hu i (by omega)).1 e with q | q
    ·exact hn q
    ·omega
   have hlt:i < listed.size:=by omega
   simp [Array.getD_eq_getD_getElem?,hlt] at h1 ⊢
   exact h1
  have unl:∀ i,i < ops.size->listed.getD i true=false->listed.getD i false=true->False:=fun i hi h1 h2=>by
   have hlt:i < listed.size:=by omega
   simp [Array.getD_eq_getD_getElem?,hlt] at h1 h2
   rw [h1] at h2; cases h2
  refine ⟨fun h0=>?_,fun i hi=>?_⟩
  ·exfalso
   cases l with
   | nil=>cases hl
   | cons f l =>
    have Ng:f.i < k:=hb f (List.mem_cons_self ..)
    have hf:f.i < ops.size:=by omega
    have:f.i∈Region.ready .any ops listed:=mem_ready.2 ⟨(hu _ hf).2 (.inl (by simp)),ops[f.i],Array.getElem?_eq_getElem hf,fun e he hbd=>by
     have hlt:=jR hed (Array.getElem?_eq_getElem hf) e he hbd
     refine Fg e.on (by omega) fun hm=>?_
     rw [List.map_cons,List.pairwise_cons] at hs
     rw [List.map_cons,List.mem_cons] at hm
     rcases hm with hm | hm
     ·omega
     ·have:=hs.1 _ hm; omega⟩
    rw [h0] at this; cases this
  ·obtain ⟨h1,o,h2,h3⟩:=mem_ready.1 hi
   have Vs:i < ops.size:=(Array.getElem?_eq_some_iff.1 h2).1
   have him:i∈l.map (·.i):=by
    rcases (hu i Vs).1 h1 with q | q
    ·exact q
    exfalso
    rcases hk i q Vs with hw | ⟨j,j1,j2,hw⟩
    ·cases l with
     | nil=>cases hl
     | cons f l =>
      have Ng:f.i < k:=hb f (List.mem_cons_self ..)
      have:=fz jK _ _ _ (hw f.i Ng) (fun o' ho' e he hbd=>by rw [h2] at ho'; cases ho'; exact h3 e he hbd)
      exact unl f.i (by omega) ((hu f.i (by omega)).2 (.inl (by simp))) this
    ·have:=fz jK _ _ _ hw (fun o' ho' e he hbd=>by rw [h2] at ho'; cases ho'; exact h3 e he hbd)
     exact unl j j2 ((hu j j2).2 (.inr j1)) this
   obtain ⟨g,hg,rfl⟩:=List.mem_map.1 him
   obtain ⟨l1,l2,rfl⟩:=List.append_of_mem hg
   have hr':=wU hr (fun f hf=>by
    have hpf:ue ops g f=true:=by
     rw [List.pairwise_append] at hp
     exact hp.2.2 f hf g (List.mem_cons_self ..)
    unfold ue at hpf
    rw [h2] at hpf
    have Vf:f.i < ops.size:=by have:=hb f (by simp [hf]); omega
    rw [Array.getElem?_eq_getElem Vf] at hpf
    simp only at hpf
    have hw:ew ops ops.size g.i f.i=false:=by
     cases hq:ew ops ops.size g.i f.i with
     | false=>rfl
     | true =>
      have:=fz jK _ _ _ hq (fun o' ho' e he hbd=>by rw [h2] at ho'; cases ho'; exact h3 e he hbd)
      exact (unl f.i Vf ((hu f.i Vf).2 (.inl (by simp only [List.map_append,List.mem_append]; exact .inl (List.mem_map.2 ⟨f,hf,rfl⟩)))) this).elim
    rw [hw] at hpf
    simp only [Bool.or_false,Bool.and_eq_true] at hpf
    exact ⟨_,o,Array.getElem?_eq_getElem Vf,h2,hpf.1.2,hpf.1.1,hpf.2.1.1,hpf.2.1.2,hpf.2.2⟩)
   obtain ⟨o',x1,q1,q2,q3⟩:=hr'
   rw [h2] at q1; cases q1
   refine wpOpIn_mono (fun a' w' hx'=>?_) (Bm hE h2 (Jg _ _ h2) q2 hx)
   have hsub:(l1 ++ l2).Sublist (l1 ++ g :: l2):=List.Sublist.append_left (List.sublist_cons_self _ _) _
   refine uy hE Jg hed hks hk hQ n (l:=l1 ++ l2) (by simp at hl ⊢; omega) (hs.sublist (hsub.map _)) (fun f hf=>hb f (hsub.subset hf)) (fun i hi'=>?_) (by simpa using hsz) ?_ (hp.sublist hsub) q3 hx'
   ·have WS:g.i < k:=hb g hg
    have hgn:g.i ∉ (l1 ++ l2).map (·.i):=by
     have:=hs.imp (fun {a b} (h:a < b)=>Nat.ne_of_lt h)
     rw [List.map_append,List.map_cons,List.pairwise_append,List.pairwise_cons] at this
     rw [List.map_append,List.mem_append]
     rintro (hm | hm)
     ·exact this.2.2 _ hm _ (List.mem_cons_self ..) rfl
     ·exact this.2.1.1 _ hm rfl
    by_cases hig:g.i=i
    ·subst hig
     have hlt:g.i < listed.size:=by omega
     simp only [hgn,false_or]
     simp [Array.getD_eq_getD_getElem?,hlt]
     omega
    ·rw [getD_set_ne true hig,hu i hi']
     simp only [List.map_append,List.map_cons,List.mem_append,List.mem_cons]
     constructor
     ·rintro ((h | h | h) | h)
      ·exact .inl (.inl h)
      ·exact absurd h.symm hig
      ·exact .inl (.inr h)
      ·exact .inr h
     ·rintro ((h | h) | h)
      ·exact .inl (.inl h)
      ·exact .inl (.inr (.inr h))
      ·exact .inr h
   ·intro i' o' ho' rL e he hbd
    have keep:∀ k,listed.getD k false=true->(listed.setIfInBounds g.i true).getD k false=true:=fun k hk=>by
     by_cases WS:g.i=k
     ·subst WS
      have hgs:g.i < listed.size:=by
       rw [hsz]; exact (Array.getElem?_eq_some_iff.1 h2).1
      simp [Array.getD_eq_getD_getElem?,hgs]
     ·rw [getD_set_ne false WS]; exact hk
    by_cases Pv:g.i=i'
    ·subst Pv
     rw [h2] at ho'; cases ho'
     exact keep _ (h3 e he hbd)
    ·rw [getD_set_ne false Pv] at rL
     exact keep _ (jK i' o' ho' rL e he hbd)
theorem iy:∀ {l:List FP},pe ops l=true->l.Pairwise (fun f g=>ue ops f g=true)
 | [],_=>.nil
 | f :: l,h=>by
  simp only [pe,Bool.and_eq_true,List.all_eq_true] at h
  exact .cons h.1 (iy h.2)
end Go.Dm
namespace Go.Dm
open Go.RowKit
variable {P:Program} {N:Nat} {G:Gh} {S S':CS} {w w':World} {s s2:St} {a:Act} {ρ ρ':fV} {F F':Nat->Prop} {heap heap':Nat->aN} {Y:Value} {E:cO} {Γ:Ctx} {Fw:Fence} {r:Nat} {ops:Array Oper} {lo base:Nat} {aS:List gx}
theorem nU {i:Nat} {p:Op×Option Nat} (h:EJ ops i=some p):∃ o,ops[i]? = some o/\o.guard=none/\o.op=p.1/\o.dst=p.2:=by
 unfold EJ at h
 split at h
 ·rename_i o ho
  split at h
  ·rename_i hg
   cases h
   exact ⟨o,ho,hg,rfl,rfl⟩
  ·cases h
 ·cases h
theorem Vt {o:Op} {T:TypeId} {m x:Nat} (h:ai1 o=some (T,m,x)):o = .lookup T (.tmp m) (.tmp x) false:=by
 unfold ai1 at h
 split at h
 ·cases h; rfl
 ·cases h
theorem Vu {o:Op} {x:Nat} {y:Operand} (h:ai2 o=some (x,y)):∃ t z,o = .binOp .add t (.tmp x) y z:=by
 unfold ai2 at h
 split at h
 ·cases h; exact ⟨_,_,rfl⟩
 ·cases h
theorem Vv {o:Op} {T:TypeId} {m x:Nat} (h:ai3 o=some (T,m,x)):o = .mapEntry T (.tmp m) (.tmp x):=by
 unfold ai3 at h
 split at h
 ·cases h; rfl
 ·cases h
theorem Vw {o:Op} {t i:Nat} (h:ai4 o=some (t,i)):o = .extract (.tmp t) i:=by
 unfold ai4 at h
 split at h
 ·cases h; rfl
 ·cases h
theorem Vx {o:Op} {m t y:Nat} (h:ai5 o=some (m,t,y)):∃ T,o = .entryStore T (.tmp m) (.tmp t) (.tmp y):=by
 unfold ai5 at h
 split at h
 ·cases h; exact ⟨_,rfl⟩
 ·cases h
structure agh (ops:Array Oper) (k:Nat) (c:Sn) (o0 o1 o2 o3 o4:Oper):Prop where
 h0:ops[k]? = some o0
 h1:ops[k + 1]? = some o1
 h2:ops[k + 2]? = some o2
 h3:ops[k + 3]? = some o3
 h4:ops[k + 4]? = some o4
 g0:o0.guard=none
 g1:o1.guard=none
 g2:o2.guard=none
 g3:o3.guard=none
 g4:o4.guard=none
 p0:o0.op = .lookup c.T (.tmp c.m) (.tmp c.x) false
 p1:∃ t z,o1.op = .binOp .add t (.tmp c.d0) c.y z
 p2:o2.op = .mapEntry c.T (.tmp c.m) (.tmp c.x)
 p3:o3.op = .extract (.tmp c.d2) 1
 p4:∃ T,o4.op = .entryStore T (.tmp c.m) (.tmp c.d3) (.tmp c.d1)
 d0:o0.dst=some c.d0
 d1:o1.dst=some c.d1
 d2:o2.dst=some c.d2
 d3:o3.dst=some c.d3
 d4:o4.dst=none
 y:af5 c.y=true
theorem Nl {k:Nat} {c:Sn} (h:zY ops k=some c):∃ o0 o1 o2 o3 o4,agh ops k c o0 o1 o2 o3 o4:=by
 unfold zY at h
 split at h
 case h_2=>cases h
 rename_i o0 d0 o1 d1 o2 d2 o3 d3 o4 e0 e1 e2 e3 e4
 split at h
 case h_2=>cases h
 rename_i T m x x1 y T2 m2 x2 t3 i3 m4 t4 y4 l0 l1 l2 l3 l4
 split at h
 case h_2=>cases h
 rename_i hb
 cases h
 simp only [Bool.and_eq_true] at hb
 obtain ⟨⟨⟨⟨⟨⟨⟨⟨⟨b1,b2⟩,b3⟩,b4⟩,b5⟩,b6⟩,b7⟩,b8⟩,b9⟩,b10⟩:=hb
 cases Nat.eq_of_beq_eq_true b1
 cases Nat.eq_of_beq_eq_true b3
 cases Nat.eq_of_beq_eq_true b4
 cases Nat.eq_of_beq_eq_true b5
 cases Nat.eq_of_beq_eq_true b6
 cases Nat.eq_of_beq_eq_true b7
 cases Nat.eq_of_beq_eq_true b8
 cases Nat.eq_of_beq_eq_true b9
 cases Nat.eq_of_beq_eq_true b10
 obtain ⟨p0,q01,q02,q03,q04⟩:=nU e0
 obtain ⟨p1,q11,q12,q13,q14⟩:=nU e1
 obtain ⟨p2,q21,q22,q23,q24⟩:=nU e2
 obtain ⟨p3,q31,q32,q33,q34⟩:=nU e3
 obtain ⟨p4,q41,q42,q43,q44⟩:=nU e4
 obtain ⟨t1,z1,r1⟩:=Vu l1
 obtain ⟨T4,r4⟩:=Vx l4
 exact ⟨p0,p1,p2,p3,p4,q01,q11,q21,q31,q41,q02,q12,q22,q32,q42,q03.trans (Vt l0),⟨t1,z1,q13.trans r1⟩,q23.trans (Vv l2),q33.trans (Vw l3),⟨T4,q43.trans r4⟩,q04,q14,q24,q34,q44,b2⟩
theorem nV (hE:Env P E Γ G Fw) {i:Nat} {o:Oper} (ho:ops[i]? = some o) (hg:o.guard=none) (Jg:∀ c,o.op ≠ .defer c) {Q:Exit->Act->World->Prop} {K:Act->World->Prop} {v:Value}
  (hr:(execOp a.eval o).run P w = .ok (.value v) w'\/(execOp a.eval o).run P w = .ok .skip w'/\v=undef) (hK:K (a.put o.dst v) w'):wpOpIn Fw r P ops Q i K a w:=by
 unfold wpOpIn
 simp only [ho]
 have hw:Region.wanted o (yielded ops a.tmps)=true:=by simp [Region.wanted,hg]
 rw [if_pos hw]
 refine kX hE.wide Jg ?_
 unfold Oper.wp
 rcases hr with hr | ⟨hr,rfl⟩
 ·rw [hr]; exact hK
 ·rw [hr]; exact hK
def yA (l:Bool) (a:Act) (d:Nat) (v:Value):Act:=bif l then a.put (some d) v else a
theorem fA {l:Bool} {d:Nat} {v:Value} {x:Operand} (h:x ≠ .tmp d):(yA l a d v).eval x=a.eval x:=by
 cases l
 ·rfl
 ·exact Act.eval_put (dst:=some d) (fun d' hd'=>by cases hd'; exact h)
theorem kY {l:Bool} {d:Nat} {v:Value}:(yA l a d v).tmps.size=a.tmps.size:=by
 cases l
 ·rfl
 ·show (a.tmps.setIfInBounds d v).size=_
  simp
theorem yB {d:Nat} {v:Value} (h:d < a.tmps.size):(yA true a d v).eval (.tmp d)=v:=by
 show (a.tmps.setIfInBounds d v).getD d undef=v
 simp [Array.getD_eq_getD_getElem?,h]
theorem nG {l:Bool} {d e:Nat} {v u:Value} (h:d≠e):(yA l a e u).put (some d) v=yA l (a.put (some d) v) e u:=by
 cases l
 ·rfl
 ·show ({ a with tmps:=(a.tmps.setIfInBounds e u).setIfInBounds d v }:Act)={ a with tmps:=(a.tmps.setIfInBounds d v).setIfInBounds e u }
  rw [Array.setIfInBounds_comm _ _ (Ne.symm h)]
def cA (a:Act) (c:Sn) (v0 v1 v2 v3:Value) (l0 l1 l2 l3:Bool):Act:=yA l3 (yA l2 (yA l1 (yA l0 a c.d0 v0) c.d1 v1) c.d2 v2) c.d3 v3
theorem vj {c:Sn} {v0 v1 v2 v3:Value} {l0 l1 l2 l3:Bool} {x:Operand} (h0:x ≠ .tmp c.d0) (h1:x ≠ .tmp c.d1) (h2:x ≠ .tmp c.d2) (h3:x ≠ .tmp c.d3):(cA a c v0 v1 v2 v3 l0 l1 l2 l3).eval x=a.eval x:=by
 unfold cA
 rw [fA h3,fA h2,fA h1,fA h0]
theorem Nn {listed:Array Bool} {i j:Nat} (hj:j < listed.size):(listed.setIfInBounds j true).getD i true=false↔i≠j/\listed.getD i true=false:=by
 by_cases h:j=i
 ·subst h
  simp [Array.getD_eq_getD_getElem?,hj]
 ·rw [getD_set_ne true h]
  exact ⟨fun q=>⟨fun e=>h e.symm,q⟩,fun q=>q.2⟩
theorem QB {listed:Array Bool} {j:Nat} {o:Oper} (hc:ux ops listed) (ho:ops[j]? = some o) (hl:∀ e∈o.after,Region.binds .any e=true->listed.getD e.on false=true) (hj:j < listed.size):ux ops (listed.setIfInBounds j true):=by
 intro i' o' ho' rL e he hbd
 have keep:∀ k,listed.getD k false=true->(listed.setIfInBounds j true).getD k false=true:=fun k hk=>by
  by_cases WS:j=k
  ·subst WS
   simp [Array.getD_eq_getD_getElem?,hj]
  ·rw [getD_set_ne false WS]; exact hk
 by_cases Pv:j=i'
 ·subst Pv
  rw [ho] at ho'; cases ho'
  exact keep _ (hl e he hbd)
 ·rw [getD_set_ne false Pv] at rL
  exact keep _ (hc i' o' ho' rL e he hbd)
theorem wV {listed:Array Bool} {i:Nat} (hi:i < listed.size):listed.getD i false=true↔¬ listed.getD i true=false:=by
 simp [Array.getD_eq_getD_getElem?,hi]
def left (l:Bool):Nat:=bif l then 0 else 1
theorem Fh:left true=0:=rfl
theorem KK:left false=1:=rfl
theorem KL {l:Bool} (h:left l=0):l=true:=by
 cases l
 ·cases h
 ·rfl
theorem ac7 (hE:Env P E Γ G Fw) {k:Nat} {c:Sn} {o0 o1 o2 o3 o4:Oper} (hc:agh ops k c o0 o1 o2 o3 o4) (hed:fk ops=true) (hw:lP ops k=true) (hf:Sn.Qk c N=true) {Q:Exit->Act->World->Prop}
  {b:Nat} {kv:Value} {ki:IntKind} {x0 n:Int} {v0:Value} {st:Int} {w1 w2:World}
  (hsz:a.tmps.size=N) (hm:a.eval (.tmp c.m) = .map (some b)) (hk:a.eval (.tmp c.x)=kv) (hy:a.eval c.y = .int ki n)
  (hl0:(Instr.lookup c.T (.map (some b)) kv false).run P w = .ok (.int ki x0) w) (hl1:(Instr.lookup c.T (.map (some b)) kv false).run P w1 = .ok (.int ki x0) w1)
  (hen:(Instr.mapEntry c.T (.map (some b)) kv).run P w = .ok (.tuple #[v0,goInt st]) w1)
  (hes:∀ T,(Instr.entryStore T (.map (some b)) (goInt st) (.int ki (ki.wrap (x0 + n)))).run P w1 = .ok () w2)
  (hQ:Q .normal (cA a c (.int ki x0) (.int ki (ki.wrap (x0 + n))) (.tuple #[v0,goInt st]) (goInt st) true true true true) w2) :
  ∀ (z:Nat) (l0 l1 l2 l3:Bool) (listed:Array Bool),z=left l0 + left l1 + left l2 + left l3->(l1=true->l0=true)->(l3=true->l2=true)->listed.size=ops.size->ux ops listed ->
   (∀ i,i < ops.size->(listed.getD i true=false↔(i=k/\l0=false)\/(i=k + 1/\l1=false)\/(i=k + 2/\l2=false)\/(i=k + 3/\l3=false)\/i=k + 4)) ->
   wpAnyIn Fw r P .any ops Q (z + 1) listed (cA a c (.int ki x0) (.int ki (ki.wrap (x0 + n))) (.tuple #[v0,goInt st]) (goInt st) l0 l1 l2 l3) (bif l2 then w1 else w):=by
 have hsize:ops.size=k + 5:=by
  unfold lP at hw
  simp only [Bool.and_eq_true] at hw
  exact Nat.eq_of_beq_eq_true hw.1.1.1.1.1
 have hwt:ew ops ops.size (k + 1) k=true/\ew ops ops.size (k + 3) (k + 2)=true/\ew ops ops.size (k + 4) (k + 1)=true/\ew ops ops.size (k + 4) (k + 3)=true:=by
  unfold lP at hw
  simp only [Bool.and_eq_true] at hw
  exact ⟨hw.1.1.1.2,hw.1.1.2,hw.1.2,hw.2⟩
 unfold Sn.Qk at hf
 simp only [Bool.and_eq_true,Bool.not_eq_true',Nat.blt_eq] at hf
 have bne:∀ {x y:Nat},Nat.beq x y=false->x≠y:=fun h e=>by subst e; rw [Nat.beq_refl] at h; cases h
 have Bo:∀ {x y:Nat},Nat.beq x y=false->Operand.tmp x ≠ .tmp y:=fun h e=>by cases e; rw [Nat.beq_refl] at h; cases h
 obtain ⟨⟨⟨⟨⟨⟨⟨⟨⟨⟨⟨⟨⟨⟨⟨⟨⟨f0,f1⟩,f2⟩,f3⟩,f01⟩,f02⟩,f03⟩,f12⟩,f13⟩,f23⟩,m0⟩,m1⟩,m2⟩,m3⟩,x0'⟩,x1'⟩,x2'⟩,x3'⟩:=hf
 have yne:∀ d,c.y ≠ .tmp d:=fun d e=>by have:=hc.y; rw [e] at this; cases this
 intro z
 induction z with
 | zero =>
  intro l0 l1 l2 l3 listed hz hi1 hi2 hls jK hu
  have e0:l0=true:=KL (by omega)
  have e1:l1=true:=KL (by omega)
  have e2:l2=true:=KL (by omega)
  have e3:l3=true:=KL (by omega)
  subst e0 e1 e2 e3
  have hrd:k + 4∈Region.ready .any ops listed:=mem_ready.2 ⟨(hu (k + 4) (by omega)).2 (by simp),o4,hc.h4,fun e he hbd=>by
   have hlt:=jR hed hc.h4 e he hbd
   rw [wV (by omega),hu _ (by omega)]
   rintro (h | h | h | h | h)
   ·cases h.2
   ·cases h.2
   ·cases h.2
   ·cases h.2
   ·omega⟩
  refine ⟨fun h0=>(by rw [h0] at hrd; cases hrd),fun i hi=>?_⟩
  obtain ⟨i1,oi,i2,i3⟩:=mem_ready.1 hi
  have Vs:i < ops.size:=(Array.getElem?_eq_some_iff.1 i2).1
  have hik:i=k + 4:=by
   rcases (hu i Vs).1 i1 with h | h | h | h | h
   ·cases h.2
   ·cases h.2
   ·cases h.2
   ·cases h.2
   ·exact h
  subst hik
  rw [hc.h4] at i2; cases i2
  obtain ⟨T4,p4⟩:=hc.p4
  have ev1:(cA a c (.int ki x0) (.int ki (ki.wrap (x0 + n))) (.tuple #[v0,goInt st]) (goInt st) true true true true).eval (.tmp c.m) = .map (some b):=by
   rw [vj (Bo m0) (Bo m1) (Bo m2) (Bo m3),hm]
  have ev2:(cA a c (.int ki x0) (.int ki (ki.wrap (x0 + n))) (.tuple #[v0,goInt st]) (goInt st) true true true true).eval (.tmp c.d3)=goInt st:=by
   unfold cA
   exact yB (by rw [kY,kY,kY,hsz]; exact f3)
  have ev3:(cA a c (.int ki x0) (.int ki (ki.wrap (x0 + n))) (.tuple #[v0,goInt st]) (goInt st) true true true true).eval (.tmp c.d1) = .int ki (ki.wrap (x0 + n)):=by
   unfold cA
   rw [fA (Bo f13),fA (Bo f12)]
   exact yB (by rw [kY,hsz]; exact f1)
  refine nV hE hc.h4 hc.g4 (fun c' e=>by rw [p4] at e; cases e) (v:=undef) (w':=w2) (.inr ⟨?_,rfl⟩) ?_
  ·show (execOp _ o4).run P w1=_
   simp only [execOp,p4,ev1,ev2,ev3,Sem.run_bind,hes,Result.andThen_ok,Sem.run_pure]
  ·rw [hc.d4]
   refine ⟨List.eq_nil_iff_forall_not_mem.2 fun i hi=>?_,hQ⟩
   obtain ⟨j1,oj,j2,_⟩:=mem_ready.1 hi
   have hjs:i < ops.size:=(Array.getElem?_eq_some_iff.1 j2).1
   obtain ⟨j3,j4⟩:=(Nn (by omega)).1 j1
   rcases (hu i hjs).1 j4 with h | h | h | h | h
   ·cases h.2
   ·cases h.2
   ·cases h.2
   ·cases h.2
   ·exact j3 h
 | succ z ih =>
  intro l0 l1 l2 l3 listed hz hi1 hi2 hls jK hu
  have mkU:∀ (j:Nat) (m0 m1 m2 m3:Bool),j < ops.size->(∀ i,((i=k/\m0=false)\/(i=k + 1/\m1=false)\/(i=k + 2/\m2=false)\/(i=k + 3/\m3=false)\/i=k + 4)↔i≠j/\((i=k/\l0=false)\/(i=k + 1/\l1=false)\/(i=k + 2/\l2=false)\/(i=k + 3/\l3=false)\/i=k + 4)) ->
    ∀ i,i < ops.size->((listed.setIfInBounds j true).getD i true=false↔(i=k/\m0=false)\/(i=k + 1/\m1=false)\/(i=k + 2/\m2=false)\/(i=k + 3/\m3=false)\/i=k + 4):=fun j m0 m1 m2 m3 hj h i hi=>by
   rw [Nn (by omega),h i,hu i hi]
  refine ⟨fun h0=>?_,fun i hi=>?_⟩
  ·exfalso
   have mk:∀ (j:Nat) (o:Oper),ops[j]? = some o->listed.getD j true=false->(∀ i,i < j->¬ listed.getD i true=false)->False:=fun j o ho hj hlt=>by
    have hjs:j < ops.size:=(Array.getElem?_eq_some_iff.1 ho).1
    have:j∈Region.ready .any ops listed:=mem_ready.2 ⟨hj,o,ho,fun e he hbd=>by
     have:=jR hed ho e he hbd
     rw [wV (by omega)]
     exact hlt _ this⟩
    rw [h0] at this; cases this
   cases l0 with
   | false=>exact mk k o0 hc.h0 ((hu k (by omega)).2 (by simp)) fun i hi=>by rw [hu i (by omega)]; omega
   | true =>
    cases l1 with
    | false=>exact mk (k + 1) o1 hc.h1 ((hu (k + 1) (by omega)).2 (by simp)) fun i hi=>by rw [hu i (by omega)]; simp; omega
    | true =>
     cases l2 with
     | false=>exact mk (k + 2) o2 hc.h2 ((hu (k + 2) (by omega)).2 (by simp)) fun i hi=>by rw [hu i (by omega)]; simp; omega
     | true =>
      cases l3 with
      | false=>exact mk (k + 3) o3 hc.h3 ((hu (k + 3) (by omega)).2 (by simp)) fun i hi=>by rw [hu i (by omega)]; simp; omega
      | true=>exact mk (k + 4) o4 hc.h4 ((hu (k + 4) (by omega)).2 (by simp)) fun i hi=>by rw [hu i (by omega)]; simp; omega
  ·obtain ⟨i1,oi,i2,i3⟩:=mem_ready.1 hi
   have Vs:i < ops.size:=(Array.getElem?_eq_some_iff.1 i2).1
   have No:=QB jK i2 i3 (by omega)
   have wl:∀ j,ew ops ops.size i j=true->j < ops.size->¬ listed.getD j true=false:=fun j hj hjs=>by
    rw [<- wV (by omega)]
    exact fz jK _ _ _ hj (fun o' ho' e he hbd=>by rw [i2] at ho'; cases ho'; exact i3 e he hbd)
   rcases (hu i Vs).1 i1 with ⟨rfl,rfl⟩ | ⟨rfl,rfl⟩ | ⟨rfl,rfl⟩ | ⟨rfl,rfl⟩ | rfl
   ·-- lookup
    have e1:l1=false:=by
     cases l1 with
     | false=>rfl
     | true=>exact absurd (hi1 rfl) (by simp)
    subst e1
    have Vk:z=left true + left false + left l2 + left l3:=by rw [Fh]; rw [KK] at *; omega
    have:=ih true false l2 l3 (listed.setIfInBounds i true) Vk (by simp) hi2 (by simpa using hls) No (mkU i _ _ _ _ Vs fun j=>by clear hu No Vk hz hi2; cases l2 <;> cases l3 <;> simp <;> omega)
    rw [hc.h0] at i2; cases i2
    refine nV hE hc.h0 hc.g0 (fun c' e=>by rw [hc.p0] at e; cases e) (v:=.int ki x0) (w':=bif l2 then w1 else w) (.inl ?_) ?_
    ·simp only [execOp,hc.p0,vj (Bo m0) (Bo m1) (Bo m2) (Bo m3),vj (Bo x0') (Bo x1') (Bo x2') (Bo x3'),hm,hk]
     cases l2
     ·simp only [cond_false,Sem.run_bind,hl0,Result.andThen_ok,Sem.run_pure]
     ·simp only [cond_true,Sem.run_bind,hl1,Result.andThen_ok,Sem.run_pure]
    ·rw [hc.d0]
     have e:(cA a c (.int ki x0) (.int ki (ki.wrap (x0 + n))) (.tuple #[v0,goInt st]) (goInt st) false false l2 l3).put (some c.d0) (.int ki x0)=cA a c (.int ki x0) (.int ki (ki.wrap (x0 + n))) (.tuple #[v0,goInt st]) (goInt st) true false l2 l3:=by
      unfold cA
      rw [nG (bne f03),nG (bne f02),nG (bne f01)]
      rfl
     rw [e]; exact this
   ·-- add
    have e0:l0=true:=by
     cases l0 with
     | true=>rfl
     | false=>exact absurd ((hu k (by omega)).2 (by simp)) (wl k hwt.1 (by omega))
    subst e0
    have Vk:z=left true + left true + left l2 + left l3:=by rw [Fh] at *; rw [KK] at hz; omega
    have:=ih true true l2 l3 (listed.setIfInBounds (k + 1) true) Vk (by simp) hi2 (by simpa using hls) No (mkU (k + 1) _ _ _ _ Vs fun j=>by clear hu No Vk hz hi2; cases l2 <;> cases l3 <;> simp <;> omega)
    rw [hc.h1] at i2; cases i2
    obtain ⟨t1,z1,p1⟩:=hc.p1
    have ev:(cA a c (.int ki x0) (.int ki (ki.wrap (x0 + n))) (.tuple #[v0,goInt st]) (goInt st) true false l2 l3).eval (.tmp c.d0) = .int ki x0:=by
     unfold cA
     rw [fA (Bo f03),fA (Bo f02),fA (Bo f01)]
     exact yB (by rw [hsz]; exact f0)
    refine nV hE hc.h1 hc.g1 (fun c' e=>by rw [p1] at e; cases e) (v:=.int ki (ki.wrap (x0 + n))) (w':=bif l2 then w1 else w) (.inl ?_) ?_
    ·simp only [execOp,p1,ev,vj (yne _) (yne _) (yne _) (yne _),hy]
     simp [eqGuard,binOp,Op.intArith]
    ·rw [hc.d1]
     have e:(cA a c (.int ki x0) (.int ki (ki.wrap (x0 + n))) (.tuple #[v0,goInt st]) (goInt st) true false l2 l3).put (some c.d1) (.int ki (ki.wrap (x0 + n)))=cA a c (.int ki x0) (.int ki (ki.wrap (x0 + n))) (.tuple #[v0,goInt st]) (goInt st) true true l2 l3:=by
      unfold cA
      rw [nG (bne f13),nG (bne f12)]
      rfl
     rw [e]; exact this
   ·-- the entry
    have e3:l3=false:=by
     cases l3 with
     | false=>rfl
     | true=>exact absurd (hi2 rfl) (by simp)
    subst e3
    have Vk:z=left l0 + left l1 + left true + left false:=by rw [Fh]; rw [KK] at *; omega
    have:=ih l0 l1 true false (listed.setIfInBounds (k + 2) true) Vk hi1 (by simp) (by simpa using hls) No (mkU (k + 2) _ _ _ _ Vs fun j=>by clear hu No Vk hz hi1; cases l0 <;> cases l1 <;> simp <;> omega)
    rw [hc.h2] at i2; cases i2
    refine nV hE hc.h2 hc.g2 (fun c' e=>by rw [hc.p2] at e; cases e) (v:=.tuple #[v0,goInt st]) (w':=w1) (.inl ?_) ?_
    ·simp only [execOp,hc.p2,vj (Bo m0) (Bo m1) (Bo m2) (Bo m3),vj (Bo x0') (Bo x1') (Bo x2') (Bo x3'),hm,hk,cond_false,Sem.run_bind,hen,Result.andThen_ok,Sem.run_pure]
    ·rw [hc.d2]
     have e:(cA a c (.int ki x0) (.int ki (ki.wrap (x0 + n))) (.tuple #[v0,goInt st]) (goInt st) l0 l1 false false).put (some c.d2) (.tuple #[v0,goInt st])=cA a c (.int ki x0) (.int ki (ki.wrap (x0 + n))) (.tuple #[v0,goInt st]) (goInt st) l0 l1 true false:=by
      unfold cA
      rw [nG (bne f23)]
      rfl
     rw [e]; exact this
   ·-- its stamp
    have e2:l2=true:=by
     cases l2 with
     | true=>rfl
     | false=>exact absurd ((hu (k + 2) (by omega)).2 (by simp)) (wl (k + 2) hwt.2.1 (by omega))
    subst e2
    have Vk:z=left l0 + left l1 + left true + left true:=by rw [Fh] at *; rw [KK] at hz; omega
    have:=ih l0 l1 true true (listed.setIfInBounds (k + 3) true) Vk hi1 (by simp) (by simpa using hls) No (mkU (k + 3) _ _ _ _ Vs fun j=>by clear hu No Vk hz hi1; cases l0 <;> cases l1 <;> simp <;> omega)
    rw [hc.h3] at i2; cases i2
    have ev:(cA a c (.int ki x0) (.int ki (ki.wrap (x0 + n))) (.tuple #[v0,goInt st]) (goInt st) l0 l1 true false).eval (.tmp c.d2) = .tuple #[v0,goInt st]:=by
     unfold cA
     rw [fA (Bo f23)]
     exact yB (by rw [kY,kY,hsz]; exact f2)
    refine nV hE hc.h3 hc.g3 (fun c' e=>by rw [hc.p3] at e; cases e) (v:=goInt st) (w':=w1) (.inl ?_) ?_
    ·simp only [execOp,hc.p3,ev,cond_true]
     simp [Instr.extract]
    ·rw [hc.d3]
     exact this
   ·-- the store waits for all
    exfalso
    have a1:=wl (k + 1) hwt.2.2.1 (by omega)
    have a2:=wl (k + 3) hwt.2.2.2 (by omega)
    rw [hu _ (by omega)] at a1 a2
    have e1:l1=true:=by cases l1 <;> simp at a1 ⊢
    have e3:l3=true:=by cases l3 <;> simp at a2 ⊢
    have e0:=hi1 e1
    have e2:=hi2 e3
    subst e0 e1 e2 e3
    simp only [Fh] at hz; omega
theorem SR.KM (h:SR P N G s a w ρ S F) {d:Nat} (hd:d < N) (v:Value):SR P N G { s with env:=setEnv s.env d .top } (a.put (some d) v) w ρ S F:=
 h.put (dst:=some d) (by simpa [Nat.blt_eq] using hd) (sl:=.top) trivial
theorem Vy (hE:Env P E Γ G Fw) {k:Nat} {c:Sn} (hp:zY ops k=some c) (hed:fk ops=true) (hw:lP ops k=true) (hd:YM P E Γ N c s=some s2) {Q:Exit->Act->World->Prop}
  (hQ:∀ a' w',SX P N G s2 a' w'->Q .normal a' w') {listed:Array Bool} (hu:∀ i,i < ops.size->(listed.getD i true=false↔k<=i)) (hls:listed.size=ops.size) (jK:ux ops listed) (h:SX P N G s a w) :
  wpAnyIn Fw r P .any ops Q 5 listed a w:=by
 obtain ⟨o0,o1,o2,o3,o4,hc⟩:=Nl hp
 obtain ⟨ρ,S,F,h⟩:=h
 unfold YM at hd
 split at hd
 case h_2=>cases hd
 rename_i kt vt Na
 split at hd
 case h_2=>cases hd
 rename_i kk ki z id kj n hK hk hv hz hem hey cC
 split at hd
 case h_2=>cases hd
 rename_i k' v' m' key zd ho hkey hzd aBw
 split at hd
 case h_2=>cases hd
 rename_i m hcast
 cases hd
 obtain rfl:=of_decide_eq_true aBw
 obtain ⟨e1,hm'⟩:=bK hcast
 obtain ⟨rfl,rfl⟩:k'=kk/\v' = .int ki:=by injection e1 with a b; exact ⟨a,b⟩
 obtain rfl:m=m':=hm'
 have hsize:ops.size=k + 5:=by
  unfold lP at hw
  simp only [Bool.and_eq_true] at hw
  exact Nat.eq_of_beq_eq_true hw.1.1.1.1.1
 have dn:=h.obj id
 rw [ho] at dn
 obtain ⟨b,es,cc,q1,q2,q3,⟨p1,p2,p3,p4⟩,q5,q6⟩:=dn
 have hx:=h.env c.m
 rw [hem] at hx
 obtain ⟨_,_,hx3⟩:=hx
 obtain ⟨b',hb',dJ⟩:=hx3 _ _ _ ho
 rw [q1] at hb'; cases hb'
 have hKA:=hE.key kt k' hK hk
 have aqz:(Ty.int ki).one=true:=rfl
 obtain ⟨ti,zv,hti,htz,LZ⟩:=EV p2 (lI aqz) hz hzd
 have hkv:=mX p1 p3 (h.env c.x) hkey
 have hyv:a.eval c.y = .int ki n:=by
  have:=Ab hE.fns h c.y
  rw [hey] at this
  exact jP this
 have hlt:=(Array.getElem?_eq_some_iff.1 q3).1
 obtain ⟨es1,c1,st,v0,m1,r1,r2,r3,r4⟩:=Vj (P:=P) Na hKA q3 q5 key hti htz LZ
 obtain ⟨es',c',r5,r6⟩:=r4 (ki.wrap ((show Int from (m key).getD zd) + (show Int from n)))
 have hl0:=wP (P:=P) (w:=w) Na hKA (.inr ⟨b,cc,rfl,q3⟩) q5.1 key hti htz LZ false
 have hl1:=wP (P:=P) (w:=w.putObj b (.map es1 c1)) Na hKA (.inr ⟨b,c1,rfl,World.putObj_heap_same hlt⟩) r2 key hti htz LZ false
 rw [r3] at hl1
 have hf:=cC
 unfold Sn.Qk at hf
 simp only [Bool.and_eq_true,Bool.not_eq_true',Nat.blt_eq] at hf
 obtain ⟨⟨⟨⟨⟨⟨⟨⟨⟨⟨⟨⟨⟨⟨⟨⟨⟨f0,f1⟩,f2⟩,f3⟩,f01⟩,f02⟩,f03⟩,f12⟩,f13⟩,f23⟩,m0⟩,m1'⟩,m2⟩,m3⟩,x0'⟩,x1'⟩,x2'⟩,x3'⟩:=hf
 have aqA:(w.putObj b (.map es1 c1)).putObj b (.map es' c')=w.putObj b (.map es' c'):=by simp [World.putObj]
 have aBx:=ac7 (Fw:=Fw) (r:=r) (a:=a) (w:=w) (w1:=w.putObj b (.map es1 c1)) (w2:=w.putObj b (.map es' c')) hE hc hed hw cC (Q:=Q) (b:=b) (kv:=pack (encs k' key)) (ki:=ki) (x0:=(m key).getD zd) (n:=n) (v0:=v0) (st:=st) h.size dJ hkv hyv hl0 hl1 r1 (fun T=>by
   have:=r5 (w.putObj b (.map es1 c1)) (World.putObj_heap_same hlt)
   rw [aqA] at this
   exact this) ?_ 4 false false false false listed rfl (by simp) (by simp) hls jK (fun i hi=>by rw [hu i hi]; simp; omega)
 ·exact aBx
 ·refine hQ _ _ ?_
  have h2:=(((h.KM f0 (.int ki ((m key).getD zd))).KM f1 (.int ki (ki.wrap ((show Int from (m key).getD zd) + (show Int from n))))).KM f2 (.tuple #[v0,goInt st])).KM f3 (goInt st)
  obtain ⟨es2,c2,g1,g2⟩:=pP (P:=P) (w:=w) Na hKA q3 q5 key (v:=.int ki) (ki.wrap ((show Int from (m key).getD zd) + (show Int from n)))
  rw [r6] at g1
  injection g1 with _ g1
  have e1:(w.putObj b (.map es' c')).heap[b]? = some (.map es' c'):=World.putObj_heap_same hlt
  rw [g1,World.putObj_heap_same hlt] at e1
  injection e1 with e1
  injection e1 with e1 e2
  subst e1 e2
  have gO:∀ j,j≠b->(w.putObj b (.map es2 c2)).heap[j]? = w.heap[j]? := fun j hj=>World.putObj_heap_other hj
  have hsz:(w.putObj b (.map es2 c2)).heap.size=w.heap.size:=by simp [World.putObj]
  have ex:Ext0 S w S (w.putObj b (.map es2 c2)):=⟨by omega,fun _ _ x=>x,fun b' o hS=>World.cell?_of_block (a:=⟨b',o,none⟩) (gO b' (fun e=>q6 o (e ▸ hS))),fun b' o es c hS hm=>(gO b' (fun e=>q6 o (e ▸ hS))).trans hm,fun b' o hS=>by rw [hsz]; exact h.bd b' o hS,.putObj hlt (fun _ _ _=>by simp)⟩
  have q:=h2.MP hE.gh (id:=id) (o:=.mp k' (.int ki) (ek (nP k') m key (ki.wrap ((show Int from (m key).getD zd) + (show Int from n))))) (by show live (s.heap id); rw [ho]; trivial) q1 ex ⟨rfl,rfl,rfl,by omega,fun j hj=>gO j hj.2⟩ hsz (fun _ _ q=>.inl q) (by show Kept _ _ _ _ _ (s.heap id) _; rw [ho]; exact .inr ⟨⟨_,rfl⟩,rfl⟩)
   ⟨b,es2,c2,q1,q2,World.putObj_heap_same hlt,⟨p1,p2,p3,p4⟩,g2,q6⟩
  exact ⟨ρ,S,F,q.of_eq rfl rfl rfl rfl⟩
end Go.Dm
namespace Go.Dm
variable {P:Program} {F:Fence} {n:Nat} {fid:FuncId} {Q Q':Exit->Act->World->Prop} {a:Act} {w:World}
def Bp (fid:FuncId) (F:Fence) (n:Nat) (P:Program) (c:Code) (Q:Exit->Act->World->Prop) (a:Act) (w:World):Prop:=
 ∀ (b:Frame) (k:List Item) (cs:List Frame),b.fn=fid->b.roundOf=F.round->F.fn b.fn->F.room (cs.length + 1 + n) ->
  ∃ e a' w',Q e a' w'/\ArrivesIn (Machine.fenced P F) P (lone (b.atR a (.code c :: k)) cs w) b k cs e a' w'
theorem Fi {c:Code} (h:c.wpIn F n P Q a w):Bp fid F n P c Q a w:=fun b k cs _=>h b k cs
theorem dG {c:Code} (h:Bp fid F n P c Q a w) (hq:∀ e a w,Q e a w->Q' e a w):Bp fid F n P c Q' a w:=
 fun b k cs hf hro hb hr=>let ⟨e,a',w',q,r⟩:=h b k cs hf hro hb hr; ⟨e,a',w',hq _ _ _ q,r⟩
theorem ac8 {x y:Code} (h:Bp fid F n P x (Exit.then (Bp fid F n P y Q) Q) a w):Bp fid F n P (.seq x y) Q a w:=by
 intro b k cs hf hro hb hr
 have h0:(lone (b.atR a (.code (.seq x y) :: k)) cs w).fenced P F:=fenced_calm hb hr rfl
 obtain ⟨e,a₁,w₁,hq,dM⟩:=h b (.code y :: k) cs hf hro hb hr
 cases e with
 | normal =>
  obtain ⟨e₂,a₂,w₂,WT,vV⟩:=hq b k cs hf hro hb hr
  exact ⟨e₂,a₂,w₂,WT,.of_steps (.head h0 stepR_seq dM) vV⟩
 | exit id=>exact ⟨_,a₁,w₁,hq,.of_steps (.one h0 stepR_seq) (.pass (x:=.code y) rfl (fun _ _=>.inl (by simp)) dM)⟩
 | goto l=>exact ⟨_,a₁,w₁,hq,.of_steps (.one h0 stepR_seq) (.pass (x:=.code y) rfl (fun _ _=>.inl (by simp)) dM)⟩
 | ret=>exact ⟨_,a₁,w₁,hq,.of_steps (.one h0 stepR_seq) (.pass (x:=.code y) rfl (fun _ _=>.inl (by simp)) dM)⟩
 | panic ch=>exact ⟨_,a₁,w₁,hq,.of_steps (.one h0 stepR_seq) (.pass (x:=.code y) rfl (fun _ _=>.inl (by simp)) dM)⟩
 | outgrown=>exact ⟨_,a₁,w₁,hq,.of_steps (.one h0 stepR_seq) (.pass (x:=.code y) rfl (fun _ _=>.inl (by simp)) dM)⟩
theorem Np {c:Operand} {x y:Code} {t:Bool} (hc:a.eval c = .bool t) (h:Bp fid F n P (if t then x else y) Q a w):Bp fid F n P (.cond c x y) Q a w:=
 fun b k cs hf hro hb hr=>let ⟨e,a',w',q,r⟩:=h b k cs hf hro hb hr; ⟨e,a',w',q,.of_steps (.one (fenced_calm hb hr rfl) (stepR_cond hc)) r⟩
theorem IA {c:Operand} {x y:Code} (hc:a.eval c = .bool true) (h:Bp fid F n P x Q a w):Bp fid F n P (.cond c x y) Q a w:=Np hc h
theorem Fj {c:Operand} {x y:Code} (hc:a.eval c = .bool false) (h:Bp fid F n P y Q a w):Bp fid F n P (.cond c x y) Q a w:=Np hc h
theorem Vz {id:Nat} {c:Code} (h:Bp fid F n P c (Exit.inBlock id Q) a w):Bp fid F n P (.block id c) Q a w:=by
 intro b k cs hf hro hb hr
 have h0:(lone (b.atR a (.code (.block id c) :: k)) cs w).fenced P F:=fenced_calm hb hr rfl
 obtain ⟨e,a₁,w₁,hq,dM⟩:=h b (.inBlock id :: k) cs hf hro hb hr
 cases e with
 | normal=>exact ⟨.normal,a₁,w₁,hq,.head h0 stepR_block (StepsIn.trans dM (.one (fenced_calm hb hr rfl) stepR_inBlock))⟩
 | exit id' =>
  by_cases hid:id'=id
  ·simp only [Exit.inBlock,hid,if_true] at hq
   exact ⟨.normal,a₁,w₁,hq,.head h0 stepR_block (dM.1 k (by simp [exitTo,hid]))⟩
  ·simp only [Exit.inBlock,hid,if_false] at hq
   have this:(id == id')=false:=by simp; exact fun h=>hid h.symm
   have hx:exitTo id' (.inBlock id :: k)=exitTo id' k:=by simp [exitTo,this]
   exact ⟨.exit id',a₁,w₁,hq,fun k' hk=>.head h0 stepR_block (dM.1 k' (by rw [hx]; exact hk)),
    fun hr' hk=>let ⟨k₁,h1,h2⟩:=dM.2 hr' (by rw [hx]; exact hk); ⟨k₁,h1,.head h0 stepR_block h2⟩⟩
 | goto l =>
  have hx:gotoIn l (.inBlock id :: k)=gotoIn l k:=by simp [gotoIn]
  exact ⟨_,a₁,w₁,hq,fun k' hk=>.head h0 stepR_block (dM.1 k' (by rw [hx]; exact hk)),
   fun hr' hk=>let ⟨k₁,h1,h2⟩:=dM.2 hr' (by rw [hx]; exact hk); ⟨k₁,h1,.head h0 stepR_block h2⟩⟩
 | ret=>exact ⟨_,a₁,w₁,hq,.of_steps (.one h0 stepR_block) dM⟩
 | panic ch=>exact ⟨_,a₁,w₁,hq,.of_steps (.one h0 stepR_block) dM⟩
 | outgrown=>exact ⟨_,a₁,w₁,hq,.of_steps (.one h0 stepR_block) dM⟩
theorem jD {b:Frame} {k:List Item} {cs:List Frame} {c:Code}:step P (lone (b.atR a (.code (.scope c) :: k)) cs w) = .next (lone (b.atR a (.code c :: .inScope c :: k)) cs w):=
 step_lone_go (by simp [stepG,stepG.exec,Frame.atR])
theorem IC {b:Frame} {k:List Item} {cs:List Frame} {c:Code}:step P (lone (b.atR a (.inScope c :: k)) cs w) = .next (lone (b.atR a k) cs w):=
 step_lone_go (by simp [stepG,stepG.exec,Frame.atR])
theorem wW {c:Code} (h:Bp fid F n P c (Exit.noGoto Q) a w):Bp fid F n P (.scope c) Q a w:=by
 intro b k cs hf hro hb hr
 have h0:(lone (b.atR a (.code (.scope c) :: k)) cs w).fenced P F:=fenced_calm hb hr rfl
 obtain ⟨e,a₁,w₁,hq,dM⟩:=h b (.inScope c :: k) cs hf hro hb hr
 cases e with
 | normal =>
  exact ⟨.normal,a₁,w₁,hq,.head h0 jD (StepsIn.trans dM (.one (fenced_calm hb hr rfl) IC))⟩
 | exit id =>
  have hx:exitTo id (.inScope c :: k)=exitTo id k:=by simp [exitTo]
  exact ⟨.exit id,a₁,w₁,hq,fun k' hk=>.head h0 jD (dM.1 k' (by rw [hx]; exact hk)),
   fun hr' hk=>let ⟨k₁,h1,h2⟩:=dM.2 hr' (by rw [hx]; exact hk); ⟨k₁,h1,.head h0 jD h2⟩⟩
 | goto l=>exact hq.elim
 | ret=>exact ⟨_,a₁,w₁,hq,.of_steps (.one h0 jD) dM⟩
 | panic ch=>exact ⟨_,a₁,w₁,hq,.of_steps (.one h0 jD) dM⟩
 | outgrown=>exact ⟨_,a₁,w₁,hq,.of_steps (.one h0 jD) dM⟩
def mZ (fid:FuncId) (F:Fence) (n:Nat) (P:Program) (c:Code) (Q:Exit->Act->World->Prop):Nat->Act->World->Prop
 | 0,_,_=>False
 | m + 1,a,w=>Bp fid F n P c (Exit.then (mZ fid F n P c Q m) Q) a w
theorem mB {c:Code} (m:Nat) (h:mZ fid F n P c Q m a w):Bp fid F n P (.loop c) Q a w:=by
 intro b k cs hf hro hb hr
 have key:∀ m a w,mZ fid F n P c Q m a w ->
   ∃ e a' w',Q e a' w'/\ArrivesIn (Machine.fenced P F) P (lone (b.atR a (.code c :: .inLoop c :: k)) cs w) b k cs e a' w':=by
  intro m
  induction m with
  | zero=>intro a w h; exact h.elim
  | succ m ih =>
   intro a w h
   obtain ⟨e,a₁,w₁,hq,dM⟩:=h b (.inLoop c :: k) cs hf hro hb hr
   cases e with
   | normal =>
    obtain ⟨e₂,a₂,w₂,WT,vV⟩:=ih a₁ w₁ hq
    exact ⟨e₂,a₂,w₂,WT,.of_steps (StepsIn.trans dM (.one (fenced_calm hb hr rfl) stepR_inLoop)) vV⟩
   | exit id=>exact ⟨_,a₁,w₁,hq,.pass (x:=.inLoop c) rfl (fun _ _=>.inl (by simp)) dM⟩
   | goto l=>exact ⟨_,a₁,w₁,hq,.pass (x:=.inLoop c) rfl (fun _ _=>.inl (by simp)) dM⟩
   | ret=>exact ⟨_,a₁,w₁,hq,.pass (x:=.inLoop c) rfl (fun _ _=>.inl (by simp)) dM⟩
   | panic ch=>exact ⟨_,a₁,w₁,hq,.pass (x:=.inLoop c) rfl (fun _ _=>.inl (by simp)) dM⟩
   | outgrown=>exact ⟨_,a₁,w₁,hq,.pass (x:=.inLoop c) rfl (fun _ _=>.inl (by simp)) dM⟩
 obtain ⟨e,a',w',hq,dM⟩:=key m a w h
 exact ⟨e,a',w',hq,.of_steps (.one (fenced_calm hb hr rfl) stepR_loop) dM⟩
theorem fN {fn:Func} {c:Code} {args:Array Value} {w:World} {R:Ending->World->Prop}
  (hf:P.funcs[fid]? = some fn) (hb:fn.body=some c) (hF:F.fn fid)
  (h:Bp fid F n P c (bodyPostM F n P fn R) { tmps:=args ++ Array.replicate (fn.ntmps - args.size) undef,defers:=[] } w) (hro:F.round=none:=by rfl):CallsIn F n P fid args w R:=by
 refine ⟨hF,fun cs hr=>?_⟩
 let b:Frame:={ (default:Frame) with fn:=fid,kind:=.normal,roundOf:=none }
 have wX:Frame.enter P fid args .normal =
   b.atR { tmps:=args ++ Array.replicate (fn.ntmps - args.size) undef,defers:=[] } [.code c]:=by
  simp [Frame.enter,Frame.atR,hf,hb,b]
 obtain ⟨e,a',w',hq,dM⟩:=h b [] cs rfl hro.symm hF hr
 rw [<- wX] at dM
 cases e with
 | normal =>
  obtain ⟨e',w'',fr',hR,hs,hfn,hl⟩:=leaves_stepsInM a'.defers .returning w' { b.atR a' [] with mode:=.returning } cs rfl rfl rfl hf rfl hF hr hq
  exact ⟨e',w'',fr',hR,ComesIn.of_steps (StepsIn.trans dM (.one (fenced_calm (fr:=b.atR a' []) hF hr rfl) (stepR_end rfl))) hs,hfn,hl⟩
 | ret =>
  obtain ⟨todo,aBy⟩:=dM.1 rfl
  obtain ⟨e',w'',fr',hR,hs,hfn,hl⟩:=leaves_stepsInM a'.defers .returning w' { b.atR a' todo with mode:=.returning } cs rfl rfl rfl hf rfl hF hr hq
  exact ⟨e',w'',fr',hR,ComesIn.of_steps aBy hs,hfn,hl⟩
 | panic chain =>
  obtain ⟨todo,aBy⟩:=dM
  obtain ⟨e',w'',fr',hR,hs,hfn,hl⟩:=leaves_stepsInM a'.defers (.panicking chain) w' { b.atR a' todo with mode:=.panicking chain } cs rfl rfl rfl hf rfl hF hr hq
  exact ⟨e',w'',fr',hR,ComesIn.of_steps aBy hs,hfn,hl⟩
 | exit id=>exact hq.elim
 | goto l=>exact hq.elim
 | outgrown=>exact ⟨.outgrown,w',b,hq,dM.resolve_left (by simp [b]),rfl,trivial⟩
end Go.Dm
namespace Go.Dm
open Go.RowKit
variable {P:Program} {N:Nat} {G:Gh} {S S':CS} {w w':World} {s:St} {a:Act} {ρ ρ':fV} {F F':Nat->Prop} {heap heap':Nat->aN} {Y:Value} {E:cO} {Γ:Ctx} {Fw:Fence} {r:Nat} {ops:Array Oper} {lo base:Nat} {aS:List gx}
theorem SR.gone (hG:G.Ok P) (h:SR P N G s a w ρ S F) {id b m:Nat} (hl:live (s.heap id)) (hc:dS (s.heap id)=false) (hb:ρ id=some b) :
  SR P N G { s with heap:=ay s.heap id .gone } a w ρ (fun b' o=>S b' o\/(b'=b/\o < m)) F:=by
 have hlt:=(h.eE hl hb).1
 have ex:Ext0 S w (fun b' o=>S b' o\/(b'=b/\o < m)) w:=⟨Nat.le_refl _,fun _ _ q=>.inl q,fun _ _ _=>rfl,fun _ _ _ _ _ q=>q,fun b' o q=>by
  rcases q with q | q
  ·exact h.bd b' o q
  ·omega,.refl w⟩
 refine h.MP hG hl hb ex (eT.refl _ _) rfl (fun k i q=>q.imp (fun x=>x) (fun x=>x.1)) ?_ trivial
 cases ho:s.heap id with
 | none=>rw [ho] at hl; exact hl.elim
 | gone=>rw [ho] at hl; exact hl.elim
 | box ds=>exact .inl rfl
 | chain _ _ _ _=>rw [ho] at hc; cases hc
 | row cur T e s'=>exact .inl rfl
 | mp k v m=>exact .inl rfl
 | rows cur T e d=>exact .inl rfl
theorem SR.aqB (hG:G.Ok P) (h:SR P N G s a w ρ S F) {id cur:Nat} {T:TypeId} {e:Ty} {x:Sl e.den} (ho:s.heap id = .row cur T e x) (hb:ρ id=none) :
  SR P N G { s with heap:=ay s.heap id .gone } a w ρ S F:=by
 have hk:∀ j,Kept w w ρ ρ j (s.heap j) (ay s.heap id .gone j):=fun j=>by
  by_cases hj:j=id
  ·subst hj; simp only [ay,Nat.beq_refl,cond_true]; rw [ho]; exact .inl rfl
  ·simp only [ay,bC hj,cond_false]
   exact .refl rfl fun b hb hl=>rfl
 have hl:∀ j,live (ay s.heap id .gone j)->live (s.heap j):=fun j hj=>by
  by_cases zZ:j=id
  ·subst zZ; simp only [ay,Nat.beq_refl,cond_true] at hj; exact hj.elim
  ·simpa only [ay,bC zZ,cond_false] using hj
 refine ⟨h.size,h.aS.tr hk (fun D hF hD=>⟨hD,hF⟩),fun t=>(h.env t).tr (.refl h.bd) hk,fun j=>?_,h.vf (fun _ _=>rfl) (fun _ _ _ _ _=>rfl) (fun _ q=>q.elim),h.ext,h.new,h.same,h.tr,h.fb,h.f0,h.sub,h.fs,fun j b hj=>⟨(h.pins j b hj).1,?_⟩⟩
 ·by_cases hj:j=id
  ·subst hj; simp only [ay,Nat.beq_refl,cond_true]; trivial
  ·simp only [ay,bC hj,cond_false]
   exact (h.obj j).tr (.refl h.bd) hk rfl fun b hb=>⟨rfl,fun i q=>q,fun x=>x⟩
 ·by_cases zZ:j=id
  ·subst zZ; simp only [ay,Nat.beq_refl,cond_true]; rfl
  ·simp only [ay,bC zZ,cond_false]; exact (h.pins j b hj).2
theorem SR.freeze (hG:G.Ok P) (h:SR P N G s a w ρ S F) {id cur:Nat} {T:TypeId} {e:Ty} {x:Sl e.den} (ho:s.heap id = .row cur T e x) :
  ∃ S',SR P N G { s with heap:=ay s.heap id .gone } a w ρ S' F/\Ext0 S w S' w/\(∀ id',Kept w w ρ ρ id' (s.heap id') (ay s.heap id .gone id')) /\
   ∀ v,RC P G.Y S w s.heap ρ (.row id cur) v->RC P G.Y S' w (ay s.heap id .gone) ρ (.pc (.sl e) x) v:=by
 have hkp:∀ id',Kept w w ρ ρ id' (s.heap id') (ay s.heap id .gone id'):=fun j=>by
  by_cases hj:j=id
  ·subst hj; simp only [ay,Nat.beq_refl,cond_true]; rw [ho]; exact .inl rfl
  ·simp only [ay,bC hj,cond_false]; exact .refl rfl fun b hb hl=>rfl
 have dn:=h.obj id
 rw [ho] at dn
 obtain ⟨⟨hfl,hpos⟩,⟨hb,hn⟩ | ⟨b,arr,hb,kV,hh,hsz,hcells,hS⟩⟩:=dn
 ·refine ⟨S,h.aqB hG ho hb,.refl h.bd,hkp,fun v hv=>⟨rfl,?_⟩⟩
  obtain ⟨_,_,hv⟩:=hv
  rcases (hv _ _ _ _ ho).2 rfl with ⟨_,a0,q⟩ | ⟨b,cap,q,_⟩
  ·exact .inl ⟨hn,a0,0,by rw [q]⟩
  ·rw [hb] at q; cases q
 ·have q:=h.gone hG (m:=arr.size) (by rw [ho]; trivial) (by rw [ho]; rfl) hb
  have ex:Ext0 S w (fun b' o=>S b' o\/(b'=b/\o < arr.size)) w:=⟨Nat.le_refl _,fun _ _ q=>.inl q,fun _ _ _=>rfl,fun _ _ _ _ _ q=>q,q.bd,.refl w⟩
  refine ⟨_,q,ex,hkp,fun v hv=>⟨rfl,?_⟩⟩
  obtain ⟨_,_,hv⟩:=hv
  rcases (hv _ _ _ _ ho).2 rfl with ⟨hn,a0,q⟩ | ⟨b',cap,q1,q2,q3,q4,_,_⟩
  ·exact .inl ⟨hn,a0,0,by rw [q]⟩
  rw [hb] at q1; cases q1
  refine .inr ⟨b,0,cap,by rw [q2],q3,q4,fun i hi=>?_⟩
  obtain ⟨us,u1,u2,u3⟩:=hcells i hi
  refine ⟨us,u1.mono ex,u2,fun j v hj=>?_⟩
  have hjl:j < e.cells:=by
   have:=(List.getElem?_eq_some_iff.1 hj).1
   omega
  have aje:i * e.cells + e.cells<=x.n * e.cells:=by rw [<- Nat.succ_mul]; exact Nat.mul_le_mul_right _ hi
  refine ⟨.inr ⟨rfl,by omega⟩,?_⟩
  rw [cell_of_row w b _ arr T _ hh,Nat.zero_add]
  exact u3 j v hj
theorem SR.setEnv (h:SR P N G s a w ρ S F) {t:Nat} {sl:Slot} (hr:RS P G.Y S w s.heap ρ sl (a.tmps.getD t undef)):SR P N G { s with env:=setEnv s.env t sl } a w ρ S F:=by
 refine ⟨h.size,h.aS,fun u=>?_,h.obj,h.inj,h.ext,h.new,h.same,h.tr,h.fb,h.f0,h.sub,h.fs,h.pins⟩
 by_cases hu:u=t
 ·subst hu; simpa only [Go.Dm.setEnv,Nat.beq_refl,cond_true] using hr
 ·simpa only [Go.Dm.setEnv,bC hu,cond_false] using h.env u
theorem SX.YE (hG:G.Ok P) (h:SX P N G s a w) (t:Nat):SX P N G (YE s t) a w:=by
 unfold Go.Dm.YE
 split
 ·rename_i id ht
  split
  ·rename_i ds ho
   split
   ·rename_i τ hc
    split
    ·rename_i x hx
     obtain ⟨ρ,S,F,h⟩:=h
     have hp:=h.env t
     rw [ht] at hp
     obtain ⟨b,arr,T,hb,hv,hh,hr⟩:=Dr h ho hp
     have q:=h.gone hG (m:=arr.size) (by rw [ho]; trivial) (by rw [ho]; rfl) hb
     refine ⟨ρ,_,F,(q.setEnv (t:=t) (sl:=.v (.pc (.ptr τ) x)) ⟨rfl,b,0,arr.toList,by rw [hv],?_,?_,fun j v hj=>?_⟩).of_eq rfl rfl rfl rfl⟩
     ·exact (iS hr hx).mono ⟨Nat.le_refl _,fun _ _ q=>.inl q,fun _ _ _=>rfl,fun _ _ _ _ _ q=>q,q.bd,.refl w⟩
     ·exact R.len (iS hr hx)
     ·have hj':j < arr.size:=by have:=(List.getElem?_eq_some_iff.1 hj).1; simpa using this
      refine ⟨.inr ⟨rfl,by omega⟩,?_⟩
      rw [cell_of_row w b (0 + j) arr T _ hh,Nat.zero_add,<- Array.getElem?_toList]
      exact hj
    ·exact h
   ·exact h
  ·exact h
 ·exact h
theorem SX.rB (hG:G.Ok P) (h:SX P N G s a w) (t:Nat):SX P N G (rB s t) a w:=by
 unfold Go.Dm.rB
 split
 ·rename_i id bB ht
  split
  ·rename_i cur T e x ho
   split
   ·rename_i vh
    cases Nat.eq_of_beq_eq_true vh
    obtain ⟨ρ,S,F,h⟩:=h
    have hp:=h.env t
    rw [ht] at hp
    obtain ⟨S',q,_,_,hq⟩:=h.freeze hG ho
    exact ⟨ρ,S',F,(q.setEnv (t:=t) (sl:=.v (.pc (.sl e) x)) (hq _ hp)).of_eq rfl rfl rfl rfl⟩
   ·exact h
  ·exact h
 ·rename_i id ht
  split
  ·rename_i k v m ho
   obtain ⟨ρ,S,F,h⟩:=h
   have hp:=h.env t
   rw [ht] at hp
   obtain ⟨_,_,hp⟩:=hp
   obtain ⟨b,hb,hv⟩:=hp _ _ _ ho
   have dn:=h.obj id
   rw [ho] at dn
   obtain ⟨b',es,c,hb',kV,hh,⟨p1,p2,p3,p4⟩,hm,hS⟩:=dn
   rw [hb] at hb'; cases hb'
   have q:=h.gone hG (m:=1) (by rw [ho]; trivial) (by rw [ho]; rfl) hb
   exact ⟨ρ,_,F,(q.setEnv (t:=t) (sl:=.v (.pc (.map k v) m)) ⟨rfl,p1,p2,p3,p4,.inr ⟨b,es,c,by rw [hv],.inr ⟨rfl,by omega⟩,hh,hm.1⟩⟩).of_eq rfl rfl rfl rfl⟩
  ·exact h
 ·exact h
theorem Kept.trans {w1 w2 w3:World} {ρ1 ρ2 ρ3:fV} {id:Nat} {o1 o2 o3:aN} (h:Kept w1 w2 ρ1 ρ2 id o1 o2) (h':Kept w2 w3 ρ2 ρ3 id o2 o3):Kept w1 w3 ρ1 ρ3 id o1 o3:=by
 cases o1 with
 | none=>trivial
 | gone=>rw [show o2=_ from h] at h'; exact h'
 | box ds =>
  rcases h with rfl | ⟨⟨ds',rfl⟩,e⟩
  ·exact .inl h'
  ·rcases h' with rfl | ⟨⟨ds',rfl⟩,e'⟩
   ·exact .inl rfl
   ·exact .inr ⟨⟨_,rfl⟩,e'.trans e⟩
 | chain cur T k n =>
  obtain ⟨c2,n2,rfl,l2,q2⟩:=h
  obtain ⟨c3,n3,rfl,l3,q3⟩:=h'
  refine ⟨c3,n3,rfl,by omega,fun e=>?_⟩
  obtain ⟨a1,a2,a3⟩:=q2 (by omega)
  obtain ⟨b1,b2,b3⟩:=q3 (by omega)
  refine ⟨by omega,b2.trans a2,fun b hb arr T hh=>?_⟩
  have h2:=a3 b hb arr T hh
  exact (b3 b (a2.trans hb) arr T (h2.trans hh)).trans h2
 | row cur T e s =>
  rcases h with rfl | ⟨c2,s2,rfl,l2,q2⟩
  ·exact .inl h'
  rcases h' with rfl | ⟨c3,s3,rfl,l3,q3⟩
  ·exact .inl rfl
  refine .inr ⟨c3,s3,rfl,by omega,fun e=>?_⟩
  obtain ⟨a1,a2⟩:=q2 (by omega)
  obtain ⟨b1,b2⟩:=q3 (by omega)
  refine ⟨by omega,?_⟩
  rcases a2 with a2 | ⟨a2,a3⟩
  ·rcases b2 with b2 | ⟨b2,b3⟩
   ·exact .inl (b2.trans a2)
   ·exact .inr ⟨by omega,a2.symm.trans b3⟩
  ·exact .inr ⟨a2,a3⟩
 | mp k v m =>
  rcases h with rfl | ⟨⟨m',rfl⟩,e⟩
  ·exact .inl h'
  ·rcases h' with rfl | ⟨⟨m',rfl⟩,e'⟩
   ·exact .inl rfl
   ·exact .inr ⟨⟨_,rfl⟩,e'.trans e⟩
 | rows cur T e d =>
  rcases h with rfl | ⟨c2,d2,rfl,l2,n2,r2,q2⟩
  ·exact .inl h'
  rcases h' with rfl | ⟨c3,d3,rfl,l3,n3,r3,q3⟩
  ·exact .inl rfl
  refine .inr ⟨c3,d3,rfl,by omega,n3.trans n2,r3.trans r2,fun e=>?_⟩
  obtain ⟨a1,a2⟩:=q2 (by omega)
  obtain ⟨b1,b2⟩:=q3 (by omega)
  exact ⟨fun i hi=>(b1 i (by omega)).trans (a1 i hi),fun b hb=>(b2 b (r2.trans hb)).trans (a2 b hb)⟩
theorem iV:∀ {ds:List DC} {h:Nat->aN} {id:Nat} {Zk:List DC},h id = .box Zk->(cD ds h).2 id = .box Zk
 | [],_,_,_,hb=>hb
 | d :: ds,h,id,Zk,hb=>by
  cases d with
  | row i bB =>
   cases ho:h i with
   | row cur T e x =>
    cases vh:Nat.beq bB cur with
    | true =>
     simp only [cD,ho,vh]
     refine iV (ds:=ds) ?_
     have:id≠i:=fun e=>by subst e; rw [hb] at ho; cases ho
     simp only [ay,bC this,cond_false]; exact hb
    | false=>simp only [cD,ho,vh]; exact iV hb
   | _=>simp only [cD,ho]; exact iV hb
  | _=>simp only [cD]; exact iV hb
theorem uz (hG:G.Ok P):∀ {ds:List DC} {s:St} {S:CS} {us:List Value},SR P N G s a w ρ S F->RL (RC P G.Y S w s.heap ρ) ds us ->
  ∃ S',SR P N G { s with heap:=(cD ds s.heap).2 } a w ρ S' F/\Ext0 S w S' w/\(∀ id,Kept w w ρ ρ id (s.heap id) ((cD ds s.heap).2 id))/\RL (RC P G.Y S' w (cD ds s.heap).2 ρ) (cD ds s.heap).1 us
 | [],s,S,us,h,hr=>⟨S,h.of_eq rfl rfl rfl rfl,.refl h.bd,fun id=>.refl rfl fun _ _ _=>rfl,hr⟩
 | d :: ds,s,S,us,h,hr=>by
  cases us with
  | nil=>have:=hr.1; cases this
  | cons u us =>
  obtain ⟨r1,r2⟩:=hr.of_cons
  have keep:∃ S',SR P N G { s with heap:=(cD ds s.heap).2 } a w ρ S' F/\Ext0 S w S' w/\(∀ id,Kept w w ρ ρ id (s.heap id) ((cD ds s.heap).2 id))/\RL (RC P G.Y S' w (cD ds s.heap).2 ρ) (d :: (cD ds s.heap).1) (u :: us):=by
   obtain ⟨S',q1,q2,q3,q4⟩:=uz hG h r2
   exact ⟨S',q1,q2,q3,.cons (r1.tr q2 q3) q4⟩
  cases d with
  | row id bB =>
   cases ho:s.heap id with
   | row cur T e x =>
    cases vh:Nat.beq bB cur with
    | true =>
     simp only [cD,ho,vh]
     cases Nat.eq_of_beq_eq_true vh
     obtain ⟨S1,q1,q2,q3,q4⟩:=h.freeze hG ho
     obtain ⟨S',p1,p2,p3,p4⟩:=uz (s:={ s with heap:=ay s.heap id .gone }) hG q1 (r2.imp fun d u hd=>hd.tr q2 q3)
     refine ⟨S',p1,q2.trans p2,fun i=>?_,.cons ((q4 _ r1).tr p2 p3) p4⟩
     exact Kept.trans (q3 i) (p3 i)
    | false=>simp only [cD,ho,vh]; exact keep
   | _=>simp only [cD,ho]; exact keep
  | _=>simp only [cD]; exact keep
theorem SX.EI (hG:G.Ok P) (h:SX P N G s a w) (t:Nat):SX P N G (EI s t) a w:=by
  unfold Go.Dm.EI
  split
  · rename_i id ht
    split
    · rename_i ds ho
      split
      · obtain ⟨ρ,S,F,h⟩:=h
        have dn:=h.obj id
        rw [ho] at dn
        obtain ⟨b,arr,T,hb,kV,hh,hr,hS⟩:=dn
        obtain ⟨S',q1,q2,q3,q4⟩:=uz hG h hr
        have hk:=q3 id
        rw [ho] at hk
        rcases hk with hk | ⟨⟨ds',hk⟩,_⟩
        · -- the box itself is no row
          exfalso
          have:=iV (ds:=ds) (h:=s.heap) (id:=id) (Zk:=ds) ho
          rw [this] at hk; cases hk
        · have hb':=iV (ds:=ds) (h:=s.heap) (id:=id) (Zk:=ds) ho
          have Co:∀ o,¬ S' b o:=by
            have:=q1.obj id
            have h3:({ s with heap:=(cD ds s.heap).2 }:St).heap id = .box ds:=hb'
            rw [h3] at this
            obtain ⟨b2,_,_,e1,_,_,_,e2⟩:=this
            rw [hb] at e1; cases e1; exact e2
          have q:=q1.MP hG (id:=id) (b:=b) (o:=.box (cD ds s.heap).1) (by show live ((cD ds s.heap).2 id); rw [hb']; trivial) hb (.refl q1.bd) (eT.refl _ _) rfl (fun _ _ q=>.inl q)
            (by show Kept w w ρ ρ id ((cD ds s.heap).2 id) _; rw [hb']; exact .inr ⟨⟨_,rfl⟩,rfl⟩)
            (by
              refine ⟨b,arr,T,hb,kV,hh,q4.imp fun d u hd=>hd.tr (.refl q1.bd) fun j=>?_,Co⟩
              show Kept w w ρ ρ j ((cD ds s.heap).2 j) (ay (cD ds s.heap).2 id (.box (cD ds s.heap).1) j)
              by_cases hj:j=id
              · subst hj; simp only [ay,Nat.beq_refl,cond_true]; rw [hb']; exact .inr ⟨⟨_,rfl⟩,rfl⟩
              · simp only [ay,bC hj,cond_false]; exact .refl rfl fun _ _ _=>rfl)
          exact ⟨ρ,S',F,q.of_eq rfl rfl rfl rfl⟩
      · exact h
    · exact h
  · exact h
theorem SX.lN (hG:G.Ok P):∀ (ts:List Nat) {s:St},SX P N G s a w->SX P N G (lN s ts) a w
 | [],_,h=>h
 | t :: ts,_,h=>SX.lN hG ts (h.EI hG t)
theorem SX.vc (hG:G.Ok P):∀ (ts:List Nat) {s:St},SX P N G s a w->SX P N G (vc s ts) a w
 | [],_,h=>h
 | t :: ts,_,h=>SX.vc hG ts (h.YE hG t)
theorem SX.er (hG:G.Ok P):∀ (ts:List Nat) {s:St},SX P N G s a w->SX P N G (er s ts) a w
 | [],_,h=>h
 | t :: ts,_,h=>SX.er hG ts (h.rB hG t)
theorem SX.Cn (hG:G.Ok P) (h:SX P N G s a w):SX P N G (Cn P E Γ s ops) a w:=SX.vc hG _ (SX.lN hG _ (SX.lN hG _ (SX.er hG _ h)))
def qx (P:Program) (N:Nat) (G:Gh):Out->Exit->Act->World->Prop
 | .norm s,.normal,a,w=>SX P N G s a w
 | .exit id s,.exit id',a,w=>id=id'/\SX P N G s a w
 | .ret s,.ret,a,w=>SX P N G s a w
 | .cw d s,.panic ch,a,w=>Vd P N G s a w d ch
 | _,_,_,_=>False
def Out.Qk (G:Gh):Out->Prop
 | .bad=>False
 | .cw .jc s=>YG G s
 | _=>True
def gX (P:Program) (N:Nat) (G:Gh) (fid:FuncId) (Fw:Fence) (r:Nat) (c:Code) (f:St->Tree Out):Prop:=
 ∀ (s:St) (a:Act) (w:World),SX P N G s a w->(∀ o,(f s).Has o->o.Qk G)->Bp fid Fw r P c (fun e a' w'=>∃ o,(f s).Has o/\qx P N G o e a' w') a w
def iW (P:Program) (N:Nat) (G:Gh) (fid:FuncId) (Fw:Fence) (r:Nat):Code->List Loop->Prop
 | .seq a b,ls=>iW P N G fid Fw r a (ls.take (Code.loops a))/\iW P N G fid Fw r b (ls.drop (Code.loops a))
 | .cond _ a b,ls=>iW P N G fid Fw r a (ls.take (Code.loops a))/\iW P N G fid Fw r b (ls.drop (Code.loops a))
 | .block _ b,ls=>iW P N G fid Fw r b ls
 | .scope b,ls=>iW P N G fid Fw r b ls
 | .loop b,ls=>match ls with
  | .gW _ inner :: _=>iW P N G fid Fw r b inner
  | .known f :: _=>gX P N G fid Fw r (.loop b) f
  | []=>True
 | .rangeFunc g ps as b,ls=>match ls with
  | .known f :: _=>gX P N G fid Fw r (.rangeFunc g ps as b) f
  | _=>True
 | _,_=>True
theorem KN (hE:Env P E Γ G Fw) {β:Type} {T:β->Prop} {ch:β->β->β} (hch:∀ a b,T (ch a b)->T a/\T b) {K:Out->β} (dF:¬ T (K .bad)/\∀ s',T (K (.cw .jc s'))->YG G s') {id:Nat} {draw:Bool} {ls:List Loop}
  (hT:T (gF P E Γ G.lo N ch (.region id ops draw) ls s K)) (h:SX P N G s a w) :
  (Code.region id ops draw).wpIn Fw r P (fun e a' w'=>∃ o,qx P N G o e a' w'/\T (K o)) a w:=by
 have h:=h.Cn (E:=E) (Γ:=Γ) (ops:=ops) hE.gh
 cases draw with
 | false =>
  have hT:T (YJ P E Γ G.lo N ch ops ops.toList (Cn P E Γ s ops) K):=hT
  refine wpIn_region ?_
  have:=Ff (Fw:=Fw) (r:=r) (ops:=ops) hE hch dF (Q:=fun e a' w'=>∃ o,qx P N G o e a' w'/\T (K o)) (fun s' a' w' q1 q2=>⟨.norm s',q2,q1⟩) (fun d s' c a' w' q1 q2=>⟨.cw d s',q2,q1⟩) (l:=ops.toList) (i:=0) (by simp) h hT
  rw [List.range_eq_range']
  simpa using this
 | true =>
  have hT:T (match Sq E ops with
   | some k=>wH P E Γ G.lo N ops (ops.toList.take k) 0 [] (Cn P E Γ s ops) (ai6 P E Γ N ops k K)
   | none=>match acX E ops with
    | none=>wH P E Γ G.lo N ops ops.toList 0 [] (Cn P E Γ s ops) (ML N ops K)
    | some k=>wH P E Γ G.lo N ops (ops.toList.take k) 0 [] (Cn P E Γ s ops) (ai0 P E Γ G.lo N ch ops k K)):=hT
  generalize Cn P E Γ s ops=s at hT h
  have SB:qm ops=true->∀ (i:Nat) (o:Oper),ops[i]? = some o->∀ c,o.op ≠ .defer c:=fun c3 i o ho c e=>by
   unfold qm at c3
   rw [List.all_eq_true] at c3
   have:=c3 o (Array.mem_toList_iff.2 (Array.mem_of_getElem? ho))
   rw [e] at this; cases this
  have LX:SX P N G (s.x.st s.base s.aS) a { w with drawn:=w.drawn + 1 }:=by obtain ⟨ρ,S,F,q⟩:=h; exact ⟨ρ,S,F,(q.drew hE.gh.c).of_eq rfl rfl rfl rfl⟩
  cases hcn:Sq E ops with
  | some k =>
   rw [hcn] at hT
   simp only at hT
   have hbk:YL ops k=true:=by
    unfold Sq at hcn
    split at hcn
    ·exact List.find?_some hcn
    ·cases hcn
   unfold YL at hbk
   split at hbk
   case h_2=>cases hbk
   rename_i c hpat
   have hsize:ops.size=k + 5:=by
    unfold lP at hbk
    simp only [Bool.and_eq_true] at hbk
    exact Nat.eq_of_beq_eq_true hbk.1.1.1.1.1
   have aqC:∀ j,k<=j->j < ops.size->(∀ i,i < k->ew ops ops.size j i=true)\/∃ i,k<=i/\i < ops.size/\ew ops ops.size j i=true:=fun j hj hjs=>by
    have hb:=hbk
    unfold lP at hb
    simp only [Bool.and_eq_true,List.all_eq_true,List.mem_range] at hb
    obtain ⟨⟨⟨⟨⟨_,w0⟩,w1⟩,w3⟩,w4⟩,_⟩:=hb
    have:j=k\/j=k + 1\/j=k + 2\/j=k + 3\/j=k + 4:=by omega
    rcases this with rfl | rfl | rfl | rfl | rfl
    ·exact .inl fun i hi=>(w0 i hi).1
    ·exact .inr ⟨k,Nat.le_refl _,by omega,w1⟩
    ·exact .inl fun i hi=>(w0 i hi).2
    ·exact .inr ⟨k + 2,by omega,by omega,w3⟩
    ·exact .inr ⟨k + 1,by omega,by omega,w4⟩
   rcases qw (P:=P) (E:=E) (Γ:=Γ) (N:=N) (ops:=ops) (lo:=G.lo) (K:=ai6 P E Γ N ops k K) (l:=ops.toList.take k) (i:=0) (log:=[]) (s:=s) (fun j o h=>by
     rw [List.getElem?_take] at h
     split at h
     ·simpa using h
     ·cases h) with ⟨s',KJ,h1,hb,hd,h2,h3⟩ | h3
   ·rw [h3] at hT
    rw [List.append_nil] at hT
    have h2:KJ.map (·.i)=List.range' 0 k:=by rw [h2,List.length_take,Array.length_toList,Nat.min_eq_left (by omega)]
    have hlen:KJ.length=k:=by have:=congrArg List.length h2; simpa using this
    have hT:T (match fk ops && pe ops KJ.reverse && qm ops,zY ops k with
     | true,some c=>match YM P E Γ N c s' with
      | some s2=>K (.norm (nextRegion N s2))
      | none=>K .bad
     | _,_=>K .bad):=hT
    rw [hpat] at hT
    cases hc:(fk ops && pe ops KJ.reverse && qm ops) with
    | false=>rw [hc] at hT; exact absurd hT dF.1
    | true =>
     rw [hc] at hT
     simp only [Bool.and_eq_true] at hc hT
     obtain ⟨⟨c1,c2⟩,c3⟩:=hc
     cases hcd:YM P E Γ N c s' with
     | none=>rw [hcd] at hT; exact absurd hT dF.1
     | some s2 =>
      rw [hcd] at hT
      have hT:T (K (.norm (nextRegion N s2))):=hT
      refine wpIn_region_any hE.mixed ?_
      have hsz:ops.size=5 + k:=by omega
      rw [hsz]
      refine uy hE (SB c3) c1 (y:=s'.x) (base:=s.base) (aS:=s.aS) (by omega) aqC ?_ k hlen ?_ ?_ ?_ (by simp; omega) ?_ ?_ h1 LX
      ·intro listed a' w' hu hls jK hx
       have hx:SX P N G s' a' w':=hx.of_eq rfl rfl rfl hd
       exact Vy hE hpat c1 hbk hcd (fun a2 w2 q=>⟨.norm (nextRegion N s2),q.of_eq rfl rfl rfl rfl,hT⟩) hu hls jK hx
      ·rw [h2]; exact List.pairwise_lt_range' ..
      ·intro f hf
       have:f.i∈List.range' 0 k:=by rw [<- h2]; exact List.mem_map.2 ⟨f,hf,rfl⟩
       rw [List.mem_range'_1] at this
       omega
      ·intro i hi
       rw [h2]
       have:i < 5 + k:=by omega
       simp [Array.getD_eq_getD_getElem?,this,List.mem_range'_1]
       omega
      ·intro i o ho rL
       have:i < ops.size:=(Array.getElem?_eq_some_iff.1 ho).1
       have:i < 5 + k:=by omega
       simp [Array.getD_eq_getD_getElem?,this] at rL
      ·have:=iy c2
       rwa [List.pairwise_reverse] at this
   ·rw [h3] at hT
    exact absurd hT dF.1
  | none =>
  rw [hcn] at hT
  simp only at hT
  cases VA:acX E ops with
  | none =>
   rw [VA] at hT
   simp only at hT
   rcases qw (P:=P) (E:=E) (Γ:=Γ) (N:=N) (ops:=ops) (lo:=G.lo) (K:=ML N ops K) (l:=ops.toList) (i:=0) (log:=[]) (s:=s) (fun j o h=>by simpa using h) with ⟨s',KJ,h1,hb,hd,h2,h3⟩ | h3
   ·rw [h3] at hT
    rw [List.append_nil] at hT
    have hlen:KJ.length=ops.size:=by have:=congrArg List.length h2; simpa using this
    have hT:T (match fk ops && pe ops KJ.reverse && qm ops with
     | true=>K (.norm (nextRegion N s'))
     | false=>K .bad):=hT
    cases hc:(fk ops && pe ops KJ.reverse && qm ops) with
    | false=>rw [hc] at hT; exact absurd hT dF.1
    | true =>
     rw [hc] at hT
     simp only [Bool.and_eq_true] at hc
     obtain ⟨⟨c1,c2⟩,c3⟩:=hc
     refine wpIn_region_any hE.mixed ?_
     refine mA hE (SB c3) c1 (y:=s'.x) (base:=s.base) (aS:=s.aS) (fun a' w' q=>⟨.norm (nextRegion N s'),q.of_eq rfl rfl rfl hd,hT⟩) ops.size hlen ?_ ?_ ?_ (by simp) ?_ ?_ h1 LX
     ·rw [h2]; exact List.pairwise_lt_range' ..
     ·intro f hf
      have:f.i∈List.range' 0 ops.toList.length:=by rw [<- h2]; exact List.mem_map.2 ⟨f,hf,rfl⟩
      rw [List.mem_range'_1] at this
      simpa using this.2
     ·intro i hi
      rw [h2]
      simp [Array.getD_eq_getD_getElem?,hi,List.mem_range'_1]
     ·intro i o ho rL
      have:i < ops.size:=(Array.getElem?_eq_some_iff.1 ho).1
      simp [Array.getD_eq_getD_getElem?,this] at rL
     ·have:=iy c2
      rwa [List.pairwise_reverse] at this
   ·rw [h3] at hT
    exact absurd hT dF.1
  | some k =>
   rw [VA] at hT
   simp only at hT
   have hbk:YK E ops k=true:=by
    unfold acX at VA
    split at VA
    ·exact List.find?_some VA
    ·cases VA
   unfold YK at hbk
   simp only [Bool.and_eq_true,List.all_eq_true,List.mem_range,Bool.or_eq_true] at hbk
   obtain ⟨⟨b1,b2⟩,b3⟩:=hbk
   have hks:k < ops.size:=by
    cases ho:ops[k]? with
    | none=>rw [ho] at b1; cases b1
    | some o=>exact (Array.getElem?_eq_some_iff.1 ho).1
   have b3:∀ j,k < j->j < ops.size->ew ops ops.size j k=true:=fun j hj hs=>by
    rcases b3 j hs with q | q
    ·have:=Nat.le_of_ble_eq_true q; omega
    ·exact q
   rcases qw (P:=P) (E:=E) (Γ:=Γ) (N:=N) (ops:=ops) (lo:=G.lo) (K:=ai0 P E Γ G.lo N ch ops k K) (l:=ops.toList.take k) (i:=0) (log:=[]) (s:=s) (fun j o h=>by
     rw [List.getElem?_take] at h
     split at h
     ·simpa using h
     ·cases h) with ⟨s',KJ,h1,hb,hd,h2,h3⟩ | h3
   ·rw [h3] at hT
    rw [List.append_nil] at hT
    have h2:KJ.map (·.i)=List.range' 0 k:=by rw [h2,List.length_take,Array.length_toList,Nat.min_eq_left (Nat.le_of_lt hks)]
    have hlen:KJ.length=k:=by have:=congrArg List.length h2; simpa using this
    have hT:T (match fk ops && pe ops KJ.reverse && qm ops,ops[k]? with
     | true,some o=>MM P E Γ G.lo N ch ops o s' fun
      | .ok s2=>wH P E Γ G.lo N ops (ops.toList.drop (k + 1)) (k + 1) [] s2 (ML N ops K)
      | .cw d s2=>K (.cw d s2)
      | .bad=>K .bad
     | _,_=>K .bad):=hT
    have hok:ops[k]? = some ops[k]:=Array.getElem?_eq_getElem hks
    generalize ops[k]=o at hok
    rw [hok] at hT
    cases hc:(fk ops && pe ops KJ.reverse && qm ops) with
    | false=>rw [hc] at hT; exact absurd hT dF.1
    | true =>
     rw [hc] at hT
     simp only [Bool.and_eq_true] at hc hT
     obtain ⟨⟨c1,c2⟩,c3⟩:=hc
     refine wpIn_region_any hE.mixed ?_
     have hsz:ops.size=(ops.size - k) + k:=by omega
     rw [hsz]
     refine uy hE (SB c3) c1 (y:=s'.x) (base:=s.base) (aS:=s.aS) (Nat.le_of_lt hks) (fun j hj hjs=>by
      rcases Nat.lt_or_eq_of_le hj with q | q
      ·exact .inr ⟨k,Nat.le_refl _,hks,b3 j q hjs⟩
      ·subst q; exact .inl b2) ?_ k hlen ?_ ?_ ?_ (by simp; omega) ?_ ?_ h1 LX
     ·intro listed a' w' hu hls jK hx
      have hx:SX P N G s' a' w':=hx.of_eq rfl rfl rfl hd
      have hm:ops.size - k=(ops.size - (k + 1)) + 1:=by omega
      rw [hm]
      have hrd:k∈Region.ready .any ops listed:=mem_ready.2 ⟨(hu k hks).2 (Nat.le_refl _),o,hok,fun e he hbd=>by
       have hlt:=jR c1 hok e he hbd
       have h1:¬ listed.getD e.on true=false:=fun q=>by have:=(hu e.on (by omega)).1 q; omega
       have hl:e.on < listed.size:=by omega
       simp [Array.getD_eq_getD_getElem?,hl] at h1 ⊢
       exact h1⟩
      refine ⟨fun h0=>(by rw [h0] at hrd; cases hrd),fun i hi=>?_⟩
      obtain ⟨i1,oi,i2,i3⟩:=mem_ready.1 hi
      have Vs:i < ops.size:=(Array.getElem?_eq_some_iff.1 i2).1
      have hik:i=k:=by
       rcases Nat.lt_or_eq_of_le ((hu i Vs).1 i1) with q | q
       ·exfalso
        have:=fz jK _ _ _ (b3 i q Vs) (fun o' ho' e he hbd=>by rw [i2] at ho'; cases ho'; exact i3 e he hbd)
        have h4:=(hu k hks).2 (Nat.le_refl _)
        have hl:k < listed.size:=by omega
        simp [Array.getD_eq_getD_getElem?,hl] at this h4
        rw [this] at h4; cases h4
       ·exact q.symm
      subst hik
      refine wpOpIn_mono ?_ (Bl (K:=fun
       | .ok s2=>wH P E Γ G.lo N ops (ops.toList.drop (i + 1)) (i + 1) [] s2 (ML N ops K)
       | .cw d s2=>K (.cw d s2)
       | .bad=>K .bad) hE hch dF hok hx hT (fun d s2 c w2 q1 q2=>⟨.cw d s2,q2,q1⟩))
      rintro a2 w2 ⟨s2,q1,q2⟩
      have q2:T (wH P E Γ G.lo N ops (ops.toList.drop (i + 1)) (i + 1) [] s2 (ML N ops K)):=q2
      rcases qw (P:=P) (E:=E) (Γ:=Γ) (N:=N) (ops:=ops) (lo:=G.lo) (K:=ML N ops K) (l:=ops.toList.drop (i + 1)) (i:=i + 1) (log:=[]) (s:=s2) (fun j o h=>by
        rw [List.getElem?_drop] at h
        simpa using h) with ⟨s3,ac9,g1,gb,gd,g2,g3⟩ | g3
      ·rw [g3] at q2
       rw [List.append_nil] at q2
       have g2:ac9.map (·.i)=List.range' (i + 1) (ops.size - (i + 1)):=by rw [g2,List.length_drop,Array.length_toList]
       have aBz:ac9.length=ops.size - (i + 1):=by have:=congrArg List.length g2; simpa using this
       have q2:T (match fk ops && pe ops ac9.reverse && qm ops with
        | true=>K (.norm (nextRegion N s3))
        | false=>K .bad):=q2
       cases hc:(fk ops && pe ops ac9.reverse && qm ops) with
       | false=>rw [hc] at q2; exact absurd q2 dF.1
       | true =>
        rw [hc] at q2
        simp only [Bool.and_eq_true] at hc
        refine mA hE (SB c3) c1 (y:=s3.x) (base:=s2.base) (aS:=s2.aS) (fun a' w' q=>⟨.norm (nextRegion N s3),q.of_eq rfl rfl rfl gd,q2⟩) _ aBz ?_ ?_ ?_ (by simpa using hls) ?_ ?_ g1 (q1.of_eq rfl rfl rfl rfl)
        ·rw [g2]; exact List.pairwise_lt_range' ..
        ·intro f hf
         have:f.i∈List.range' (i + 1) (ops.size - (i + 1)):=by rw [<- g2]; exact List.mem_map.2 ⟨f,hf,rfl⟩
         rw [List.mem_range'_1] at this
         omega
        ·intro j hj
         rw [g2,List.mem_range'_1]
         by_cases hji:i=j
         ·subst hji
          have hl:i < listed.size:=by omega
          simp [Array.getD_eq_getD_getElem?,hl]
          try omega
         ·rw [getD_set_ne true hji,hu j hj]
          omega
        ·intro i' o' ho' rL e he hbd
         have keep:∀ k,listed.getD k false=true->(listed.setIfInBounds i true).getD k false=true:=fun k hk=>by
          by_cases WS:i=k
          ·subst WS
           have hl:i < listed.size:=by omega
           simp [Array.getD_eq_getD_getElem?,hl]
          ·rw [getD_set_ne false WS]; exact hk
         by_cases Pv:i=i'
         ·subst Pv
          rw [i2] at ho'; cases ho'
          exact keep _ (i3 e he hbd)
         ·rw [getD_set_ne false Pv] at rL
          exact keep _ (jK i' o' ho' rL e he hbd)
        ·have:=iy hc.1.2
         rwa [List.pairwise_reverse] at this
      ·rw [g3] at q2
       exact absurd q2 dF.1
     ·rw [h2]; exact List.pairwise_lt_range' ..
     ·intro f hf
      have:f.i∈List.range' 0 k:=by rw [<- h2]; exact List.mem_map.2 ⟨f,hf,rfl⟩
      rw [List.mem_range'_1] at this
      omega
     ·intro i hi
      rw [h2]
      have:i < ops.size - k + k:=by omega
      simp [Array.getD_eq_getD_getElem?,this,List.mem_range'_1]
      omega
     ·intro i o ho rL
      have:i < ops.size:=(Array.getElem?_eq_some_iff.1 ho).1
      have:i < ops.size - k + k:=by omega
      simp [Array.getD_eq_getD_getElem?,this] at rL
     ·have:=iy c2
      rwa [List.pairwise_reverse] at this
   ·rw [h3] at hT
    exact absurd hT dF.1
end Go.Dm
namespace Go.Dm
open Go.RowKit
variable {P:Program} {N:Nat} {G:Gh} {S S':CS} {w w':World} {s:St} {a:Act} {ρ ρ':fV} {F F':Nat->Prop} {heap heap':Nat->aN} {Y:Value} {E:cO} {Γ:Ctx} {Fw:Fence} {r:Nat} {ops:Array Oper} {lo base:Nat} {aS:List gx} {fid:FuncId}
theorem dy (hE:Env P E Γ G Fw):∀ {c:Code} {ls:List Loop} {β:Type} {T:β->Prop} {ch:β->β->β} {K:Out->β} {s:St} {a:Act} {w:World},(∀ a b,T (ch a b)->T a/\T b)->(¬ T (K .bad)/\∀ s',T (K (.cw .jc s'))->YG G s') ->
  T (gF P E Γ G.lo N ch c ls s K)->iW P N G fid Fw r c ls->SX P N G s a w->Bp fid Fw r P c (fun e a' w'=>∃ o,qx P N G o e a' w'/\T (K o)) a w
 | .skip,ls,β,T,ch,K,s,a,w,hch,dF,hT,_,h=>Fi <| wpIn_skip ⟨.norm s,h,hT⟩
 | .region id ops draw,ls,β,T,ch,K,s,a,w,hch,dF,hT,_,h=>Fi <| KN hE hch dF hT h
 | .seq x y,ls,β,T,ch,K,s,a,w,hch,dF,hT,hl,h=>by
  refine ac8 (dG (dy hE (K:=acW (fun s'=>gF P E Γ G.lo N ch y (ls.drop (Code.loops x)) s' K) K) hch dF hT hl.1 h) ?_)
  rintro e a' w' ⟨o,ho,lR⟩
  cases o with
  | norm s' =>
   cases e <;> first | exact (ho.elim) | skip
   exact dy hE hch dF lR hl.2 ho
  | exit id s'=>cases e <;> first | exact ho.elim | exact ⟨_,ho,lR⟩
  | ret s'=>cases e <;> first | exact ho.elim | exact ⟨_,ho,lR⟩
  | cw d s'=>cases e <;> first | exact ho.elim | exact ⟨_,ho,lR⟩
  | bad=>cases e <;> exact ho.elim
 | .cond c x y,ls,β,T,ch,K,s,a,w,hch,dF,hT,hl,h=>by
  simp only [gF] at hT
  split at hT
  ·rename_i t hc
   have h0:=h
   obtain ⟨ρ,S,F,hs⟩:=h
   have Qr:=Ab hE.fns hs c
   rw [hc] at Qr
   have hcb:=rG Qr
   have yz:∀ u,c = .tmp u->∀ b:Bool,t=b->setEnv s.env u (.v (.pc .bool b))=s.env:=fun u hu b hb=>by
    subst hu hb; exact uu _ _ _ hc
   obtain hb | hb:t=true\/t=false:=by
    have:(show Bool from t)=true\/(show Bool from t)=false:=by cases (show Bool from t) <;> simp
    exact this
   ·subst hb
    simp only [cond_true] at hT
    refine IA hcb (dy hE hch dF hT hl.1 ?_)
    cases c with
    | tmp u=>exact h0.of_eq (yz u rfl true rfl) rfl rfl rfl
    | _=>exact h0
   ·subst hb
    simp only [cond_false] at hT
    refine Fj hcb (dy hE hch dF hT hl.2 ?_)
    cases c with
    | tmp u=>exact h0.of_eq (yz u rfl false rfl) rfl rfl rfl
    | _=>exact h0
  ·exact absurd hT dF.1
 | .block id x,ls,β,T,ch,K,s,a,w,hch,dF,hT,hl,h=>by
  refine Vz (dG (dy hE (K:=Kw id K) hch dF hT hl h) ?_)
  rintro e a' w' ⟨o,ho,lR⟩
  cases o with
  | norm s'=>cases e <;> first | exact ho.elim | exact ⟨_,ho,lR⟩
  | exit id' s' =>
   cases e <;> first | exact ho.elim | skip
   rename_i zw
   obtain ⟨rfl,ho⟩:=ho
   simp only [Exit.inBlock]
   by_cases hid:id'=id
   ·rw [if_pos hid]
    subst hid
    simp only [Kw,Nat.beq_refl] at lR
    exact ⟨.norm s',ho,lR⟩
   ·rw [if_neg hid]
    simp only [Kw,bC hid] at lR
    exact ⟨.exit id' s',⟨rfl,ho⟩,lR⟩
  | ret s'=>cases e <;> first | exact ho.elim | exact ⟨_,ho,lR⟩
  | cw d s'=>cases e <;> first | exact ho.elim | exact ⟨_,ho,lR⟩
  | bad=>cases e <;> exact ho.elim
 | .exit id,ls,β,T,ch,K,s,a,w,hch,dF,hT,_,h=>Fi <| wpIn_exit ⟨.exit id s,⟨rfl,h⟩,hT⟩
 | .ret,ls,β,T,ch,K,s,a,w,hch,dF,hT,_,h=>Fi <| wpIn_ret ⟨.ret s,h,hT⟩
 | .label l,ls,β,T,ch,K,s,a,w,hch,dF,hT,_,h=>Fi <| wpIn_label ⟨.norm s,h,hT⟩
 | .scope x,ls,β,T,ch,K,s,a,w,hch,dF,hT,hl,h=>by
  refine wW (dG (dy hE hch dF hT hl h) ?_)
  rintro e a' w' ⟨o,ho,lR⟩
  cases e <;> first | exact ⟨o,ho,lR⟩ | (cases o <;> exact ho.elim)
 | .rangeFunc g ps as b,ls,β,T,ch,K,s,a,w,hch,dF,hT,hl,h=>by
  cases ls with
  | nil=>exact absurd hT dF.1
  | cons l ls =>
   cases l with
   | known f =>
    have hT:T ((f s).run ch K):=hT
    have hall:=Tree.rD hch hT
    exact dG (hl s a w h (fun o ho=>by
     cases o with
     | bad=>exact absurd (hall _ ho) dF.1
     | cw d s'=>cases d <;> first | exact dF.2 _ (hall _ ho) | trivial
     | _=>trivial)) (fun e a' w' ⟨o,q1,q2⟩=>⟨o,q2,hall o q1⟩)
   | gW n inner=>exact absurd hT dF.1
 | .loop b,ls,β,T,ch,K,s,a,w,hch,dF,hT,hl,h=>by
  cases ls with
  | nil=>exact absurd hT dF.1
  | cons l ls =>
   cases l with
   | known f =>
    have hT:T ((f s).run ch K):=hT
    have hall:=Tree.rD hch hT
    exact dG (hl s a w h (fun o ho=>by
     cases o with
     | bad=>exact absurd (hall _ ho) dF.1
     | cw d s'=>cases d <;> first | exact dF.2 _ (hall _ ho) | trivial
     | _=>trivial)) (fun e a' w' ⟨o,q1,q2⟩=>⟨o,q2,hall o q1⟩)
   | gW n inner =>
    refine mB n ?_
    have key:∀ (n:Nat) (s:St) (a:Act) (w:World),T (Sr (fun s' K'=>gF P E Γ G.lo N ch b inner s' K') n s K)->SX P N G s a w ->
      mZ fid Fw r P b (fun e a' w'=>∃ o,qx P N G o e a' w'/\T (K o)) n a w:=by
     intro n
     induction n with
     | zero=>intro s a w hT _; exact absurd hT dF.1
     | succ n ih =>
      intro s a w hT h
      unfold mZ
      refine dG (dy hE (K:=acW (fun s'=>Sr (fun s' K'=>gF P E Γ G.lo N ch b inner s' K') n s' K) K) hch dF hT hl h) ?_
      rintro e a' w' ⟨o,ho,lR⟩
      cases o with
      | norm s' =>
       cases e <;> first | exact ho.elim | skip
       exact ih s' a' w' lR ho
      | exit id s'=>cases e <;> first | exact ho.elim | exact ⟨_,ho,lR⟩
      | ret s'=>cases e <;> first | exact ho.elim | exact ⟨_,ho,lR⟩
      | cw d s'=>cases e <;> first | exact ho.elim | exact ⟨_,ho,lR⟩
      | bad=>cases e <;> exact ho.elim
    exact key n s a w hT h
 | .goto _,ls,β,T,ch,K,s,a,w,hch,dF,hT,_,h=>absurd hT dF.1
 | .refuse _,ls,β,T,ch,K,s,a,w,hch,dF,hT,_,h=>absurd hT dF.1
end Go.Dm
namespace Go.Dm
open Go.RowKit
variable {P:Program} {N:Nat} {G:Gh} {S S':CS} {w w':World} {s:St} {a:Act} {ρ ρ':fV} {F F':Nat->Prop} {heap heap':Nat->aN} {Y:Value} {E:cO} {Γ:Ctx} {Fw:Fence} {r:Nat} {ops:Array Oper} {lo base:Nat} {aS:List gx}
inductive gm where
 | pc (τ:Ty)
 | own (id:Nat) (T:TypeId) (e:Ty)
 | rw (id:Nat) (T:TypeId) (e:Ty)
 | ptr (id:Nat)
 | row (id:Nat)
 | mp (id:Nat)
 | rows (id:Nat)
 | nE (f:FuncId) (ids:List Nat)
 | kB (f:FuncId) (τ:Ty) (ids:List Nat)
 | jc
 | top
 | k (n:Int)
inductive aL where
 | slot (t:Nat) (c:gm)
 | agg (t:Nat) (τ:Ty)
 | box (id:Nat) (cs:List gm)
 | row (id:Nat) (T:TypeId) (e:Ty)
 | mp (id:Nat) (k v:Ty)
 | rows (id:Nat) (T:TypeId) (e:Ty)
 | tr (e:Ty)
@[reducible] def gm.ty:gm->Ty
 | .pc τ=>τ
 | .own _ _ e=>.sl e
 | .rw _ _ e=>.sl e
 | .kB _ τ _=>τ
 | _=>.nil
@[reducible] def cQ:List gm->Ty
 | []=>.nil
 | c :: cs=>.cons c.ty (cQ cs)
@[reducible] def aL.ty:aL->Ty
 | .slot _ c=>c.ty
 | .agg _ τ=>.agg τ
 | .box _ cs=>cQ cs
 | .row _ _ e=>.sl e
 | .mp _ k v=>.map k v
 | .rows _ _ e=>.sl (.sl e)
 | .tr e=>.sl e
@[reducible] def aa:List aL->Ty
 | []=>.nil
 | p :: ps=>.cons p.ty (aa ps)
def Zl:aN->Bool
 | .box _=>true
 | _=>false
def isRow (bB:Nat):aN->Bool
 | .row cur _ _ _=>Nat.beq bB cur
 | _=>false
def aBA:aN->Bool
 | .mp _ _ _=>true
 | _=>false
def uA:List Nat->List Nat->Bool
 | [],[]=>true
 | a :: as,b :: bs=>Nat.beq a b && uA as bs
 | _,_=>false
def sX (lo:Nat) (heap:Nat->aN):(c:gm)->DC->Option c.ty.den
 | .pc τ,d=>match τ.one with
  | true=>xX τ d
  | false=>none
 | .own id T e,.own id' v e' s=>match heap id' with
  | .chain v' T' k _=>match Nat.beq id id' && Nat.beq v v' && Nat.beq T T' && Nat.beq k e.cells with
   | true=>cZ (σ:=.sl e') (.sl e) s
   | false=>none
  | _=>none
 | .own id _ e,.qk=>match heap id,e.flat && Nat.ble lo id with
  | .none,true=>some ⟨0,fun _=>e.dflt⟩
  | _,_=>none
 | .rw id T e,.row id' bB=>match heap id' with
  | .row cur T' e' s=>match Nat.beq id id' && Nat.beq bB cur && Nat.beq T T' with
   | true=>cZ (σ:=.sl e') (.sl e) s
   | false=>none
  | _=>none
 | .rw id _ e,.qk=>match heap id,e.flat && Nat.blt 0 e.cells && Nat.ble lo id with
  | .none,true=>some ⟨0,fun _=>e.dflt⟩
  | _,_=>none
 | .ptr id,.ptr id' off=>match Nat.beq id id' && Nat.beq off 0 && Zl (heap id') with
  | true=>some ()
  | false=>none
 | .row id,.row id' bB=>match Nat.beq id id' && isRow bB (heap id') with
  | true=>some ()
  | false=>none
 | .mp id,.mp id'=>match Nat.beq id id' && aBA (heap id') with
  | true=>some ()
  | false=>none
 | .rows id,.rows id'=>match Nat.beq id id' && wI (heap id') with
  | true=>some ()
  | false=>none
 | .nE f ids,.nE f' ids'=>match Nat.beq f f' && uA ids ids' && ids'.all fun i=>Zl (heap i) with
  | true=>some ()
  | false=>none
 | .kB f τ ids,.kB f' τ' x ids'=>match Nat.beq f f' && uA ids ids' && ids'.all fun i=>Zl (heap i) with
  | true=>cZ (σ:=τ') τ x
  | false=>none
 | .jc,.jc=>some ()
 | .top,.top=>some ()
 | .k n,.pc (.int .i64) m=>match decide ((show Int from m)=n) with
  | true=>some ()
  | false=>none
 | _,_=>none
def Cw (lo:Nat) (heap:Nat->aN):(cs:List gm)->List DC->Option (cQ cs).den
 | [],[]=>some ()
 | c :: cs,d :: ds=>match sX lo heap c d,Cw lo heap cs ds with
  | some x,some y=>some (x,y)
  | _,_=>none
 | _,_=>none
def Gs (lo:Nat) (s:St):(p:aL)->Option p.ty.den
 | .slot t c=>match s.env t with
  | .v d=>sX lo s.heap c d
  | _=>none
 | .agg t τ=>match s.env t,τ.flat with
  | .agg ds,true=>gi τ ds
  | _,_=>none
 | .box id cs=>match s.heap id with
  | .box ds=>Cw lo s.heap cs ds
  | _=>none
 | .row id T e=>match s.heap id with
  | .row _ T' e' x=>match Nat.beq T T' with
   | true=>cZ (σ:=.sl e') (.sl e) x
   | false=>none
  | _=>none
 | .mp id k v=>match s.heap id with
  | .mp k' v' m=>cZ (σ:=.map k' v') (.map k v) m
  | _=>none
 | .rows id T e=>match s.heap id with
  | .rows _ T' e' x=>match Nat.beq T T' with
   | true=>cZ (σ:=.sl (.sl e')) (.sl (.sl e)) x
   | false=>none
  | _=>none
 | .tr e=>match s.tr with
  | ⟨e',true,x⟩=>cZ (σ:=.sl e') (.sl e) x
  | _=>none
def rd (lo:Nat) (s:St):(ps:List aL)->Option (aa ps).den
 | []=>some ()
 | p :: ps=>match Gs lo s p,rd lo s ps with
  | some x,some y=>some (x,y)
  | _,_=>none
def wrC (bB:Nat->Nat):(c:gm)->c.ty.den->DC
 | .pc τ,x=>.pc τ x
 | .own id _ e,x=>.own id (bB id) e x
 | .rw id _ _,_=>.row id (bB id)
 | .ptr id,_=>.ptr id 0
 | .row id,_=>.row id (bB id)
 | .mp id,_=>.mp id
 | .rows id,_=>.rows id
 | .nE f ids,_=>.nE f ids
 | .kB f τ ids,x=>.kB f τ x ids
 | .jc,_=>.jc
 | .top,_=>.top
 | .k n,_=>.pc (.int .i64) n
def ajs (bB:Nat->Nat):(cs:List gm)->(cQ cs).den->List DC
 | [],_=>[]
 | c :: cs,x=>wrC bB c (show c.ty.den×(cQ cs).den from x).1 :: ajs bB cs (show c.ty.den×(cQ cs).den from x).2
def sE (bB:Nat->Nat):(ps:List aL)->(aa ps).den->Nat->Slot
 | [],_=>fun _=>.top
 | .slot t c :: ps,x=>setEnv (sE bB ps (show c.ty.den×(aa ps).den from x).2) t (.v (wrC bB c (show c.ty.den×(aa ps).den from x).1))
 | .agg t τ :: ps,x=>setEnv (sE bB ps (show τ.den×(aa ps).den from x).2) t (.agg (gE τ (show τ.den×(aa ps).den from x).1))
 | .box _ cs :: ps,x=>sE bB ps (show (cQ cs).den×(aa ps).den from x).2
 | .row _ _ e :: ps,x=>sE bB ps (show Sl e.den×(aa ps).den from x).2
 | .mp _ k v :: ps,x=>sE bB ps (show (k.den->Option v.den)×(aa ps).den from x).2
 | .rows _ _ e :: ps,x=>sE bB ps (show Sl (Sl e.den)×(aa ps).den from x).2
 | .tr e :: ps,x=>sE bB ps (show Sl e.den×(aa ps).den from x).2
def kF (bB:Nat->Nat):(c:gm)->c.ty.den->List (Nat×aN)
 | .own id T e,x=>[(id,.chain (bB id) T e.cells (show Sl e.den from x).n)]
 | .rw id T e,x=>[(id,.row (bB id) T e (show Sl e.den from x))]
 | _,_=>[]
def fW (bB:Nat->Nat):(cs:List gm)->(cQ cs).den->List (Nat×aN)
 | [],_=>[]
 | c :: cs,x=>kF bB c (show c.ty.den×(cQ cs).den from x).1 ++ fW bB cs (show c.ty.den×(cQ cs).den from x).2
def aT (bB:Nat->Nat):(ps:List aL)->(aa ps).den->List (Nat×aN)
 | [],_=>[]
 | .slot _ c :: ps,x=>kF bB c (show c.ty.den×(aa ps).den from x).1 ++ aT bB ps (show c.ty.den×(aa ps).den from x).2
 | .agg _ τ :: ps,x=>aT bB ps (show τ.den×(aa ps).den from x).2
 | .box id cs :: ps,x=>(id,.box (ajs bB cs (show (cQ cs).den×(aa ps).den from x).1)) :: fW bB cs (show (cQ cs).den×(aa ps).den from x).1 ++ aT bB ps (show (cQ cs).den×(aa ps).den from x).2
 | .row id T e :: ps,x=>(id,.row (bB id) T e (show Sl e.den×(aa ps).den from x).1) :: aT bB ps (show Sl e.den×(aa ps).den from x).2
 | .mp id k v :: ps,x=>(id,.mp k v (show (k.den->Option v.den)×(aa ps).den from x).1) :: aT bB ps (show (k.den->Option v.den)×(aa ps).den from x).2
 | .rows id T e :: ps,x=>(id,.rows (bB id + 1) T e (show Sl (Sl e.den)×(aa ps).den from x).1) :: aT bB ps (show Sl (Sl e.den)×(aa ps).den from x).2
 | .tr e :: ps,x=>aT bB ps (show Sl e.den×(aa ps).den from x).2
def bG:List (Nat×aN)->Nat->aN
 | [],_=>.none
 | p :: l,i=>bif Nat.beq i p.1 then p.2 else bG l i
def Cx (t:Tr):(ps:List aL)->(aa ps).den->Tr
 | [],_=>t
 | .tr e :: _,x=>⟨e,true,(show Sl e.den×_ from x).1⟩
 | .slot _ c :: ps,x=>Cx t ps (show c.ty.den×(aa ps).den from x).2
 | .agg _ τ :: ps,x=>Cx t ps (show τ.den×(aa ps).den from x).2
 | .box _ cs :: ps,x=>Cx t ps (show (cQ cs).den×(aa ps).den from x).2
 | .row _ _ e :: ps,x=>Cx t ps (show Sl e.den×(aa ps).den from x).2
 | .mp _ k v :: ps,x=>Cx t ps (show (k.den->Option v.den)×(aa ps).den from x).2
 | .rows _ _ e :: ps,x=>Cx t ps (show Sl (Sl e.den)×(aa ps).den from x).2
def VB:List gm->List Nat
 | []=>[]
 | .own id _ _ :: cs=>id :: VB cs
 | .rw id _ _ :: cs=>id :: VB cs
 | _ :: cs=>VB cs
def de:List aL->List Nat
 | []=>[]
 | .slot _ c :: ps=>VB [c] ++ de ps
 | .box id cs :: ps=>id :: VB cs ++ de ps
 | .row id _ _ :: ps=>id :: de ps
 | .mp id _ _ :: ps=>id :: de ps
 | .rows id _ _ :: ps=>id :: de ps
 | _ :: ps=>de ps
def ada:List Nat->Nat
 | []=>0
 | i :: l=>bif Nat.blt i (ada l) then ada l else i
def ajt (lo:Nat) (ps:List aL):Nat:=ada [lo,ada (de ps) + 1]
def wrV (bB:Nat->Nat) (lo:Nat) (t:Tr) (aS:List gx) (ps:List aL) (x:(aa ps).den):St:=⟨sE bB ps x,bG (aT bB ps x),Cx t ps x,ajt lo ps,aS⟩
def wr (lo:Nat) (t:Tr) (aS:List gx) (ps:List aL) (x:(aa ps).den):St:=wrV (fun _=>0) lo t aS ps x
def gp:List aL->List Nat
 | []=>[]
 | .box id _ :: ps=>id :: gp ps
 | _ :: ps=>gp ps
def qy:List gm->List Nat
 | []=>[]
 | .rw id _ _ :: cs=>id :: qy cs
 | _ :: cs=>qy cs
def mC:List aL->List Nat
 | []=>[]
 | .slot _ c :: ps=>qy [c] ++ mC ps
 | .box _ cs :: ps=>qy cs ++ mC ps
 | .row id _ _ :: ps=>id :: mC ps
 | _ :: ps=>mC ps
def sF:List aL->List Nat
 | []=>[]
 | .mp id _ _ :: ps=>id :: sF ps
 | .rows id _ _ :: ps=>id :: sF ps
 | _ :: ps=>sF ps
def nW:List Nat->Bool
 | []=>true
 | i :: l=>!(l.any (Nat.beq i)) && nW l
def wfC (bs rs ms:List Nat):gm->Bool
 | .ptr id=>bs.any (Nat.beq id)
 | .row id=>rs.any (Nat.beq id)
 | .mp id=>ms.any (Nat.beq id)
 | .rows id=>ms.any (Nat.beq id)
 | .nE _ ids=>ids.all fun id=>bs.any (Nat.beq id)
 | .kB _ _ ids=>ids.all fun id=>bs.any (Nat.beq id)
 | _=>true
def jy (ps:List aL):Bool:=nW (de ps) && ps.all fun
 | .slot _ c=>wfC (gp ps) (mC ps) (sF ps) c
 | .box _ cs=>cs.all (wfC (gp ps) (mC ps) (sF ps))
 | _=>true
def fo (fu:Nat->Option Nat) (heap:Nat->aN) (ρ:fV):fV:=fun id=>match fu id with
 | some b=>some b
 | none=>bif isNone (heap id) then none else ρ id
theorem any_beq {i:Nat} {l:List Nat}:l.any (Nat.beq i)=true↔i∈l:=by
 rw [List.any_eq_true]
 constructor
 ·rintro ⟨j,hj,hb⟩; exact Nat.eq_of_beq_eq_true hb ▸ hj
 ·intro h; exact ⟨i,h,Nat.beq_refl i⟩
theorem eS:∀ {l:List Nat},nW l=true->l.Nodup
 | [],_=>.nil
 | i :: l,h=>by
  simp only [nW,Bool.and_eq_true,Bool.not_eq_true'] at h
  refine .cons (fun j hj e=>?_) (eS h.2)
  have:l.any (Nat.beq i)=true:=any_beq.2 (e ▸ hj)
  rw [h.1] at this; cases this
theorem Jp {bB:Nat->Nat}:∀ {cs:List gm} {x:(cQ cs).den},(fW bB cs x).map (·.1)=VB cs
 | [],_=>rfl
 | c :: cs,x=>by
  have ih:=Jp (bB:=bB) (cs:=cs) (x:=x.2)
  simp only [fW,List.map_append,ih]
  cases c <;> rfl
theorem dO {bB:Nat->Nat}:∀ {ps:List aL} {x:(aa ps).den},(aT bB ps x).map (·.1)=de ps
 | [],_=>rfl
 | p :: ps,x=>by
  have ih:=dO (bB:=bB) (ps:=ps) (x:=x.2)
  cases p with
  | slot t c=>simp only [aT,List.map_append,ih,de]; cases c <;> rfl
  | agg t τ=>exact ih
  | box id cs=>simp only [aT,List.map_append,List.map_cons,ih,Jp,de,List.cons_append]
  | row id T e=>simp only [aT,List.map_cons,ih,de]
  | mp id k v=>simp only [aT,List.map_cons,ih,de]
  | rows id T e=>simp only [aT,List.map_cons,ih,de]
  | tr e=>exact ih
theorem ff:∀ {l:List (Nat×aN)},(l.map (·.1)).Nodup->∀ p∈l,bG l p.1=p.2
 | [],_,p,hp=>by simp at hp
 | q :: l,hn,p,hp=>by
  rw [List.map_cons,List.nodup_cons] at hn
  simp only [bG]
  rcases List.mem_cons.1 hp with rfl | hp
  ·simp
  ·have:p.1≠q.1:=fun e=>hn.1 (e ▸ List.mem_map.2 ⟨p,hp,rfl⟩)
   rw [bC this,cond_false]
   exact ff hn.2 p hp
theorem dA:∀ {l:List (Nat×aN)} {i:Nat},bG l i ≠ .none->(i,bG l i)∈l
 | [],_,h=>absurd rfl h
 | q :: l,i,h=>by
  simp only [bG] at h ⊢
  by_cases e:i=q.1
  ·subst e; simp
  ·rw [bC e,cond_false] at h ⊢
   exact List.mem_cons_of_mem _ (dA h)
theorem fZ:∀ {a b:List Nat},uA a b=true->a=b
 | [],[],_=>rfl
 | x :: xs,y :: ys,h=>by
  simp only [uA,Bool.and_eq_true] at h
  rw [Nat.eq_of_beq_eq_true h.1,fZ h.2]
 | [],_ :: _,h=>by cases h
 | _ :: _,[],h=>by cases h
end Go.Dm
namespace Go.Dm
open Go.RowKit
variable {P:Program} {N:Nat} {G:Gh} {S S':CS} {w w':World} {s:St} {a:Act} {ρ ρ':fV} {F F':Nat->Prop} {heap heap' H':Nat->aN} {Y:Value} {E:cO} {Γ:Ctx} {Fw:Fence} {r:Nat} {ops:Array Oper} {lo base:Nat} {aS:List gx} {vr:Nat->Nat}
def QC (lo:Nat) (heap:Nat->aN) (id:Nat):aN->Prop
 | .none=>False
 | .gone=>False
 | .box _=>∃ ds,heap id = .box ds
 | .row _ T e x=>(∃ v,heap id = .row v T e x)\/(heap id = .none/\x.n=0/\lo<=id)
 | .mp k v m=>heap id = .mp k v m
 | .rows _ T e d=>∃ v,heap id = .rows v T e d
 | .chain _ T k n=>(∃ v,heap id = .chain v T k n)\/(heap id = .none/\n=0/\lo<=id)
structure agj (lo:Nat) (heap:Nat->aN) (ρ ρ':fV):Prop where
 r1:∀ id,heap id ≠ .none->ρ' id=ρ id
 r2:∀ id b,ρ' id=some b->ρ id=some b
 r3:∀ id,heap id = .none->lo<=id->ρ' id=none
theorem SR.Ai (hG:G.Ok P) (h:SR P N G s a w ρ S F):agj G.lo s.heap ρ (fo G.fu s.heap ρ):=by
 refine ⟨fun id hn=>?_,fun id b hb=>?_,fun id hn hlo=>?_⟩
 ·unfold fo
  split
  ·rename_i b hb; exact (h.pins id b hb).1.symm
  ·cases ho:s.heap id with
   | none=>exact absurd ho hn
   | _=>rfl
 ·unfold fo at hb
  split at hb
  ·rename_i b' hp; cases hb; exact (h.pins id b hp).1
  ·cases hi:isNone (s.heap id) with
   | true=>rw [hi] at hb; cases hb
   | false=>rw [hi] at hb; exact hb
 ·unfold fo
  split
  ·rename_i b hp; have:=hG.fu id b hp; omega
  ·rw [hn]; rfl
theorem KO {id:Nat} {T:TypeId} {e:Ty} {d:DC} {v:Value} {x:Sl e.den} (hr:RC P Y S w heap ρ d v) (hx:sX lo heap (.own id T e) d=some x) :
  R P (.sl e) S w x [v]/\e.flat=true/\((∃ bB,heap id = .chain bB T e.cells x.n/\YN w ρ id T e.cells e x.n v)\/(heap id = .none/\lo<=id/\x.n=0/\∃ a,v = .slice a 0 0)):=by
 cases d with
 | own id' v' e' s' =>
  simp only [sX] at hx
  split at hx
  case h_2=>cases hx
  rename_i v2 T2 k n ho
  split at hx
  case h_2=>cases hx
  rename_i hb
  simp only [Bool.and_eq_true] at hb
  obtain ⟨⟨⟨b1,b2⟩,b3⟩,b4⟩:=hb
  cases Nat.eq_of_beq_eq_true b1
  cases Nat.eq_of_beq_eq_true b2
  cases Nat.eq_of_beq_eq_true b3
  cases Nat.eq_of_beq_eq_true b4
  obtain ⟨he,hx⟩:=bK hx
  cases he
  cases hx
  obtain ⟨h1,hf,cur,T',k',n',h2,h3,h4⟩:=hr
  rw [ho] at h2
  cases h2
  obtain ⟨hn,hs⟩:=h4 rfl
  subst hn
  exact ⟨h1,hf,.inl ⟨v',ho,hs⟩⟩
 | qk =>
  simp only [sX] at hx
  split at hx
  case h_2=>cases hx
  rename_i ho hb
  simp only [Bool.and_eq_true] at hb
  cases hx
  obtain ⟨a,rfl⟩:=hr
  exact ⟨.inl ⟨rfl,a,0,rfl⟩,hb.1,.inr ⟨ho,Nat.le_of_ble_eq_true hb.2,rfl,a,rfl⟩⟩
 | _=>simp only [sX] at hx; cases hx
theorem QD {id:Nat} {T:TypeId} {e:Ty} {d:DC} {v:Value} {x:Sl e.den} (hr:RC P Y S w heap ρ d v) (hx:sX lo heap (.rw id T e) d=some x) :
  (∃ a n c,v = .slice a n c)/\((∃ bB,heap id = .row bB T e x/\Jf w ρ id e x.n v)\/(heap id = .none/\lo<=id/\x.n=0/\(∃ a,v = .slice a 0 0)/\e.flat=true/\0 < e.cells)):=by
 cases d with
 | row id' bB =>
  simp only [sX] at hx
  split at hx
  case h_2=>cases hx
  rename_i cur T2 e2 s2 ho
  split at hx
  case h_2=>cases hx
  rename_i hb
  simp only [Bool.and_eq_true] at hb
  obtain ⟨⟨b1,b2⟩,b3⟩:=hb
  cases Nat.eq_of_beq_eq_true b1
  cases Nat.eq_of_beq_eq_true b2
  cases Nat.eq_of_beq_eq_true b3
  obtain ⟨he,hx⟩:=bK hx
  cases he
  cases hx
  obtain ⟨_,h2,h3⟩:=hr
  exact ⟨h2,.inl ⟨bB,ho,(h3 _ _ _ _ ho).2 rfl⟩⟩
 | qk =>
  simp only [sX] at hx
  split at hx
  case h_2=>cases hx
  rename_i ho hb
  simp only [Bool.and_eq_true,Nat.blt_eq] at hb
  cases hx
  obtain ⟨a,rfl⟩:=hr
  exact ⟨⟨_,_,_,rfl⟩,.inr ⟨ho,Nat.le_of_ble_eq_true hb.2,rfl,⟨a,rfl⟩,hb.1.1,hb.1.2⟩⟩
 | _=>simp only [sX] at hx; cases hx
theorem Jq {c:gm} {d:DC} {v:Value} {x:c.ty.den} (hr:RC P Y S w heap ρ d v) (hx:sX lo heap c d=some x):∀ p∈kF vr c x,QC lo heap p.1 p.2:=by
 cases c with
 | own id T e =>
  intro p hp
  simp only [kF,List.mem_singleton] at hp
  subst hp
  obtain ⟨_,_,⟨bB,h,_⟩ | ⟨h1,h2,h3,_⟩⟩:=KO hr hx
  ·exact .inl ⟨bB,h⟩
  ·exact .inr ⟨h1,h3,h2⟩
 | rw id T e =>
  intro p hp
  simp only [kF,List.mem_singleton] at hp
  subst hp
  obtain ⟨_,⟨bB,h,_⟩ | ⟨h1,h2,h3,_⟩⟩:=QD hr hx
  ·exact .inl ⟨bB,h⟩
  ·exact .inr ⟨h1,h3,h2⟩
 | _=>intro p hp; simp [kF] at hp
theorem vm {c:gm} {cs:List gm} {ds:List DC} {x:(cQ (c :: cs)).den} (hx:Cw lo heap (c :: cs) ds=some x):∃ d ds',ds=d :: ds'/\sX lo heap c d=some x.1/\Cw lo heap cs ds'=some x.2:=by
 cases ds with
 | nil=>cases hx
 | cons d ds =>
  simp only [Cw] at hx
  split at hx
  ·rename_i y z h1 h2
   cases hx
   exact ⟨d,ds,rfl,h1,h2⟩
  ·cases hx
theorem Fk:∀ {cs:List gm} {ds:List DC} {us:List Value} {x:(cQ cs).den},RL (RC P Y S w heap ρ) ds us->Cw lo heap cs ds=some x->∀ p∈fW vr cs x,QC lo heap p.1 p.2
 | [],_,_,_,_,_=>fun p hp=>by simp [fW] at hp
 | c :: cs,ds,us,x,hr,hx=>by
  obtain ⟨d,ds',rfl,h1,h2⟩:=vm hx
  cases us with
  | nil=>have:=hr.1; cases this
  | cons u us =>
   obtain ⟨r1,r2⟩:=hr.of_cons
   intro p hp
   rcases List.mem_append.1 hp with hp | hp
   ·exact Jq r1 h1 p hp
   ·exact Fk r2 h2 p hp
theorem yC {p:aL} {ps:List aL} {x:(aa (p :: ps)).den} (hx:rd lo s (p :: ps)=some x):Gs lo s p=some x.1/\rd lo s ps=some x.2:=by
 simp only [rd] at hx
 split at hx
 ·rename_i y z h1 h2
  cases hx
  exact ⟨h1,h2⟩
 ·cases hx
theorem KP (h:SR P N G s a w ρ S F) {t:Nat} {c:gm} {x:c.ty.den} (hx:Gs lo s (.slot t c)=some x):∃ d,s.env t = .v d/\sX lo s.heap c d=some x/\RC P G.Y S w s.heap ρ d (a.tmps.getD t undef):=by
 simp only [Gs] at hx
 split at hx
 ·rename_i d hd
  have:=h.env t
  rw [hd] at this
  exact ⟨d,hd,hx,this⟩
 ·cases hx
theorem Zm (h:SR P N G s a w ρ S F) {id:Nat} {cs:List gm} {x:(cQ cs).den} (hx:Gs lo s (.box id cs)=some x):∃ ds,s.heap id = .box ds/\Cw lo s.heap cs ds=some x /\
  ∃ b arr T,ρ id=some b/\ve G F b/\w.heap[b]? = some (.cells arr T (0,0))/\RL (RC P G.Y S w s.heap ρ) ds arr.toList/\∀ o,¬ S b o:=by
 simp only [Gs] at hx
 split at hx
 ·rename_i ds hd
  have:=h.obj id
  rw [hd] at this
  exact ⟨ds,hd,hx,this⟩
 ·cases hx
theorem Zn {id:Nat} {T:TypeId} {e:Ty} {x:Sl e.den} (hx:Gs lo s (.row id T e)=some x):∃ v,s.heap id = .row v T e x:=by
 simp only [Gs] at hx
 split at hx
 ·rename_i v T' e' y ho
  split at hx
  ·rename_i hb
   cases Nat.eq_of_beq_eq_true hb
   obtain ⟨he,hx⟩:=bK hx
   cases he; cases hx
   exact ⟨v,ho⟩
  ·cases hx
 ·cases hx
theorem agk {id:Nat} {k v:Ty} {x:k.den->Option v.den} (hx:Gs lo s (.mp id k v)=some x):s.heap id = .mp k v x:=by
 simp only [Gs] at hx
 split at hx
 ·rename_i k' v' y ho
  obtain ⟨he,hx⟩:=bK hx
  cases he; cases hx
  exact ho
 ·cases hx
theorem SC {id:Nat} {T:TypeId} {e:Ty} {x:Sl (Sl e.den)} (hx:Gs lo s (.rows id T e)=some x):∃ v,s.heap id = .rows v T e x:=by
 simp only [Gs] at hx
 split at hx
 ·rename_i v T' e' y ho
  split at hx
  ·rename_i hb
   cases Nat.eq_of_beq_eq_true hb
   obtain ⟨he,hx⟩:=bK hx
   cases he; cases hx
   exact ⟨v,ho⟩
  ·cases hx
 ·cases hx
theorem aqE {e:Ty} {x:Sl e.den} (hx:Gs lo s (.tr e)=some x):s.tr=⟨e,true,x⟩:=by
 simp only [Gs] at hx
 split at hx
 ·rename_i e' y ho
  obtain ⟨he,hx⟩:=bK hx
  cases he; cases hx
  exact ho
 ·cases hx
theorem kZ (h:SR P N G s a w ρ S F):∀ {ps:List aL} {x:(aa ps).den},rd lo s ps=some x->∀ p∈aT vr ps x,QC lo s.heap p.1 p.2
 | [],_,_=>fun p hp=>by simp [aT] at hp
 | q :: ps,x,hx=>by
  obtain ⟨h1,h2⟩:=yC hx
  have ih:=kZ h h2
  intro p hp
  cases q with
  | slot t c =>
   obtain ⟨d,_,hc,hr⟩:=KP h h1
   rcases List.mem_append.1 hp with hp | hp
   ·exact Jq hr hc p hp
   ·exact ih p hp
  | agg t τ=>exact ih p hp
  | box id cs =>
   obtain ⟨ds,ho,hc,b,arr,T,_,_,_,hr,_⟩:=Zm h h1
   simp only [aT,List.cons_append,List.mem_cons,List.mem_append] at hp
   rcases hp with rfl | hp | hp
   ·exact ⟨ds,ho⟩
   ·exact Fk hr hc p hp
   ·exact ih p hp
  | row id T e =>
   rcases List.mem_cons.1 hp with rfl | hp
   ·exact .inl (Zn h1)
   ·exact ih p hp
  | mp id k v =>
   rcases List.mem_cons.1 hp with rfl | hp
   ·exact agk h1
   ·exact ih p hp
  | rows id T e =>
   rcases List.mem_cons.1 hp with rfl | hp
   ·exact SC h1
   ·exact ih p hp
  | tr e=>exact ih p hp
structure Cmp (vr:Nat->Nat) (lo:Nat) (heap H':Nat->aN) (ρ ρ':fV):Prop where
 like:∀ id,H' id ≠ .none->QC lo heap id (H' id)
 Ai:agj lo heap ρ ρ'
 bB:∀ id v T e s,H' id = .row v T e s->v=vr id
theorem eR.cmp (hc:Cmp vr lo heap H' ρ ρ') {id off:Nat} {v:Value} (h:eR heap ρ id off v) (hn:H' id ≠ .none):eR H' ρ' id off v:=by
 obtain ⟨h1,h2,h3⟩:=h
 refine ⟨hn,h2,fun ds hd=>?_⟩
 have:=hc.like id hn
 rw [hd] at this
 obtain ⟨Zk,h4⟩:=this
 obtain ⟨b,h5,h6⟩:=h3 Zk h4
 exact ⟨b,(hc.Ai.r1 id h1).trans h5,h6⟩
theorem dZ.cmp (hc:Cmp vr lo heap H' ρ ρ'):∀ {ids:List Nat} {us:List Value},dZ heap ρ ids us->(∀ id∈ids,H' id ≠ .none)->dZ H' ρ' ids us
 | [],[],_,_=>trivial
 | _ :: _,_ :: _,h,hn=>⟨h.1.cmp hc (hn _ (.head _)),dZ.cmp hc h.2 fun id hid=>hn id (.tail _ hid)⟩
 | [],_ :: _,h,_=>h.elim
 | _ :: _,[],h,_=>h.elim
def Fl (H':Nat->aN):gm->Prop
 | .ptr id=>H' id ≠ .none
 | .row id=>H' id ≠ .none
 | .mp id=>H' id ≠ .none
 | .rows id=>H' id ≠ .none
 | .nE _ ids=>∀ id∈ids,H' id ≠ .none
 | .kB _ _ ids=>∀ id∈ids,H' id ≠ .none
 | _=>True
theorem Zo (hc:Cmp vr lo heap H' ρ ρ') {c:gm} {d:DC} {v:Value} {x:c.ty.den} (hr:RC P Y S w heap ρ d v) (hx:sX lo heap c d=some x) (hn:Fl H' c) (ho:∀ p∈kF vr c x,H' p.1=p.2) :
  RC P Y S w H' ρ' (wrC vr c x) v:=by
 cases c with
 | pc τ =>
  have hx:(match τ.one with | true=>xX τ d | false=>none)=some x:=by cases d <;> exact hx
  cases h1:τ.one with
  | false=>rw [h1] at hx; cases hx
  | true=>rw [h1] at hx; exact ⟨h1,Kx hr hx⟩
 | own id T e =>
  have h:=KO hr hx
  have hh:H' id = .chain (vr id) T e.cells (show Sl e.den from x).n:=ho (id,.chain (vr id) T e.cells (show Sl e.den from x).n) (List.mem_singleton.2 rfl)
  obtain ⟨h1,h2,h3⟩:=h
  refine ⟨h1,h2,vr id,T,e.cells,_,hh,Nat.le_refl _,fun _=>⟨rfl,rfl,?_⟩⟩
  rcases h3 with ⟨bB,h4,h5⟩ | ⟨h4,h5,h6,h7⟩
  ·have hρ:=hc.Ai.r1 id (by rw [h4]; simp)
   rw [hρ]
   exact h5.2
  ·exact .inl ⟨hc.Ai.r3 id h4 h5,h6,h7⟩
 | ptr id =>
  cases d with
  | ptr id' off =>
   simp only [sX] at hx
   split at hx
   case h_2=>cases hx
   rename_i hb
   simp only [Bool.and_eq_true] at hb
   cases Nat.eq_of_beq_eq_true hb.1.1
   cases Nat.eq_of_beq_eq_true hb.1.2
   exact eR.cmp hc hr hn
  | _=>simp only [sX] at hx; cases hx
 | rw id T e =>
  obtain ⟨h2,h3⟩:=QD hr hx
  have hh:H' id = .row (vr id) T e (show Sl e.den from x):=ho (id,.row (vr id) T e (show Sl e.den from x)) (List.mem_singleton.2 rfl)
  refine ⟨by rw [hh]; simp,h2,fun cu T' e' s' hd=>?_⟩
  rw [hh] at hd; cases hd
  refine ⟨Nat.le_refl _,fun _=>?_⟩
  rcases h3 with ⟨bB,h4,h5⟩ | ⟨h4,h5,h6,h7,_⟩
  ·have hρ:=hc.Ai.r1 id (by rw [h4]; simp)
   unfold Jf at h5 ⊢
   rw [hρ]; exact h5
  ·exact .inl ⟨h6,h7⟩
 | row id =>
  cases d with
  | row id' bB =>
   simp only [sX] at hx
   split at hx
   case h_2=>cases hx
   rename_i hb
   simp only [Bool.and_eq_true] at hb
   cases Nat.eq_of_beq_eq_true hb.1
   obtain ⟨h1,h2,h3⟩:=hr
   have Qw:∃ T e s0,heap id = .row bB T e s0:=by
    have:=hb.2
    unfold isRow at this
    split at this
    ·rename_i cur T e s0 hh; cases Nat.eq_of_beq_eq_true this; exact ⟨T,e,s0,hh⟩
    ·cases this
   obtain ⟨T0,e0,s0,Qw⟩:=Qw
   refine ⟨hn,h2,fun cu T e s' hd=>?_⟩
   have hl:=hc.like id hn
   rw [hd] at hl
   obtain ⟨v0,hl⟩ | ⟨hl,_⟩:=hl
   ·rw [Qw] at hl
    cases hl
    have h5:=(h3 _ _ _ _ Qw).2 rfl
    refine ⟨Nat.le_of_eq (hc.bB _ _ _ _ _ hd).symm,fun _=>?_⟩
    unfold Jf at h5 ⊢
    rw [hc.Ai.r1 id h1]; exact h5
   ·rw [Qw] at hl; cases hl
  | _=>simp only [sX] at hx; cases hx
 | mp id =>
  cases d with
  | mp id' =>
   simp only [sX] at hx
   split at hx
   case h_2=>cases hx
   rename_i hb
   simp only [Bool.and_eq_true] at hb
   cases Nat.eq_of_beq_eq_true hb.1
   obtain ⟨h1,h2,h3⟩:=hr
   refine ⟨hn,h2,fun k e m hd=>?_⟩
   have:=hc.like id hn
   rw [hd] at this
   obtain ⟨b,h4,h5⟩:=h3 k e m this
   exact ⟨b,(hc.Ai.r1 id h1).trans h4,h5⟩
  | _=>simp only [sX] at hx; cases hx
 | rows id =>
  cases d with
  | rows id' =>
   simp only [sX] at hx
   split at hx
   case h_2=>cases hx
   rename_i hb
   simp only [Bool.and_eq_true] at hb
   cases Nat.eq_of_beq_eq_true hb.1
   obtain ⟨h1,h2,h3⟩:=hr
   refine ⟨hn,h2,fun cur T e d hd=>?_⟩
   have:=hc.like id hn
   rw [hd] at this
   obtain ⟨v0,this⟩:=this
   obtain ⟨b,cap,q1,q2⟩:=h3 _ _ _ _ this
   exact ⟨b,cap,(hc.Ai.r1 id h1).trans q1,q2⟩
  | _=>simp only [sX] at hx; cases hx
 | nE f ids =>
  cases d with
  | nE f' ids' =>
   simp only [sX] at hx
   split at hx
   case h_2=>cases hx
   rename_i hb
   simp only [Bool.and_eq_true] at hb
   cases Nat.eq_of_beq_eq_true hb.1.1
   cases fZ hb.1.2
   obtain ⟨h1,us,h2,h3⟩:=hr
   exact ⟨h1,us,h2,h3.cmp hc hn⟩
  | _=>simp only [sX] at hx; cases hx
 | kB f τ ids =>
  cases d with
  | kB f' τ' x' ids' =>
   simp only [sX] at hx
   split at hx
   case h_2=>cases hx
   rename_i hb
   simp only [Bool.and_eq_true] at hb
   cases Nat.eq_of_beq_eq_true hb.1.1
   cases fZ hb.1.2
   obtain ⟨e1,e2⟩:=bK hx
   cases e1
   have e2:x=x':=e2
   subst e2
   obtain ⟨h1,u,us,h2,h3,h4⟩:=hr
   exact ⟨h1,u,us,h2,h3,h4.cmp hc hn⟩
  | _=>simp only [sX] at hx; cases hx
 | jc =>
  cases d with
  | jc=>exact hr
  | _=>simp only [sX] at hx; cases hx
 | top =>
  cases d with
  | top=>exact hr
  | _=>simp only [sX] at hx; cases hx
 | k n =>
  cases d with
  | pc τ m =>
   cases τ with
   | int kk =>
    cases kk with
    | i64 =>
     simp only [sX] at hx
     split at hx
     ·rename_i hd
      have hd:=of_decide_eq_true hd
      subst hd
      exact hr
     ·cases hx
    | _=>simp only [sX] at hx; cases hx
   | _=>simp only [sX] at hx; cases hx
  | _=>simp only [sX] at hx; cases hx
theorem SD (hc:Cmp vr lo heap H' ρ ρ'):∀ {cs:List gm} {ds:List DC} {us:List Value} {x:(cQ cs).den},RL (RC P Y S w heap ρ) ds us->Cw lo heap cs ds=some x->(∀ c∈cs,Fl H' c)->(∀ p∈fW vr cs x,H' p.1=p.2) ->
  RL (RC P Y S w H' ρ') (ajs vr cs x) us
 | [],ds,us,x,hr,hx,_,_=>by
  cases ds with
  | cons d ds=>cases hx
  | nil =>
   have:=hr.1
   cases us with
   | nil=>exact .nil
   | cons u us=>cases this
 | c :: cs,ds,us,x,hr,hx,hn,ho=>by
  obtain ⟨d,ds',rfl,h1,h2⟩:=vm hx
  cases us with
  | nil=>have:=hr.1; cases this
  | cons u us =>
   obtain ⟨r1,r2⟩:=hr.of_cons
   exact .cons (Zo hc r1 h1 (hn c (.head _)) fun p hp=>ho p (List.mem_append_left _ hp)) (SD hc r2 h2 (fun c hc=>hn c (.tail _ hc)) fun p hp=>ho p (List.mem_append_right _ hp))
theorem SE (hc:Cmp vr G.lo heap H' ρ ρ') (dn:∀ id,OI P G S w heap ρ F id (heap id)) {c:gm} {d:DC} {v:Value} {x:c.ty.den} (hr:RC P Y S w heap ρ d v) (hx:sX G.lo heap c d=some x) :
  ∀ p∈kF vr c x,OI P G S w H' ρ' F p.1 p.2:=by
 cases c with
 | own id T e =>
  intro p hp
  simp only [kF,List.mem_singleton] at hp
  subst hp
  obtain ⟨_,_,⟨bB,h,_⟩ | ⟨h1,h2,h3,_⟩⟩:=KO hr hx
  ·have:=dn id
   rw [h] at this
   have hρ:=hc.Ai.r1 id (by rw [h]; simp)
   rcases this with ⟨q1,q2⟩ | ⟨b,q1,q2⟩
   ·exact .inl ⟨hρ.trans q1,q2⟩
   ·exact .inr ⟨b,hρ.trans q1,q2⟩
  ·exact .inl ⟨hc.Ai.r3 id h1 h2,h3⟩
 | rw id T e =>
  intro p hp
  simp only [kF,List.mem_singleton] at hp
  subst hp
  obtain ⟨_,⟨bB,h,_⟩ | ⟨h1,h2,h3,_,h5⟩⟩:=QD hr hx
  ·have:=dn id
   rw [h] at this
   have hρ:=hc.Ai.r1 id (by rw [h]; simp)
   obtain ⟨q0,⟨q1,q2⟩ | ⟨b,arr,q1,q2⟩⟩:=this
   ·exact ⟨q0,.inl ⟨hρ.trans q1,q2⟩⟩
   ·exact ⟨q0,.inr ⟨b,arr,hρ.trans q1,q2⟩⟩
  ·exact ⟨h5,.inl ⟨hc.Ai.r3 id h1 h2,h3⟩⟩
 | _=>intro p hp; simp [kF] at hp
theorem Nq (hc:Cmp vr G.lo heap H' ρ ρ') (dn:∀ id,OI P G S w heap ρ F id (heap id)):∀ {cs:List gm} {ds:List DC} {us:List Value} {x:(cQ cs).den},RL (RC P Y S w heap ρ) ds us->Cw G.lo heap cs ds=some x ->
  ∀ p∈fW vr cs x,OI P G S w H' ρ' F p.1 p.2
 | [],_,_,_,_,_=>fun p hp=>by simp [fW] at hp
 | c :: cs,ds,us,x,hr,hx=>by
  obtain ⟨d,ds',rfl,h1,h2⟩:=vm hx
  cases us with
  | nil=>have:=hr.1; cases this
  | cons u us =>
   obtain ⟨r1,r2⟩:=hr.of_cons
   intro p hp
   rcases List.mem_append.1 hp with hp | hp
   ·exact SE hc dn r1 h1 p hp
   ·exact Nq hc dn r2 h2 p hp
def QE (H':Nat->aN):aL->Prop
 | .slot _ c=>Fl H' c
 | .box _ cs=>∀ c∈cs,Fl H' c
 | _=>True
theorem SF (h:SR P N G s a w ρ S F) (hc:Cmp vr G.lo s.heap H' ρ ρ'):∀ {ps:List aL} {x:(aa ps).den},rd G.lo s ps=some x->(∀ p∈ps,QE H' p)->(∀ p∈aT vr ps x,H' p.1=p.2)->∀ p∈aT vr ps x,OI P G S w H' ρ' F p.1 p.2
 | [],_,_,_,_=>fun p hp=>by simp [aT] at hp
 | q :: ps,x,hx,hn,hall=>by
  obtain ⟨h1,h2⟩:=yC hx
  have ih:(∀ p∈aT vr ps x.2,H' p.1=p.2)->∀ p∈aT vr ps x.2,OI P G S w H' ρ' F p.1 p.2:=SF h hc h2 fun p hp=>hn p (.tail _ hp)
  intro p hp
  cases q with
  | slot t c =>
   obtain ⟨d,_,Cr,hr⟩:=KP h h1
   rcases List.mem_append.1 hp with hp | hp
   ·exact SE hc h.obj hr Cr p hp
   ·exact ih (fun p hp=>hall p (List.mem_append_right _ hp)) p hp
  | agg t τ=>exact ih hall p hp
  | box id cs =>
   obtain ⟨ds,ho,Cr,b,arr,T,q1,q2,q3,hr,q5⟩:=Zm h h1
   have aqF:∀ p∈fW vr cs (show (cQ cs).den from x.1),H' p.1=p.2:=fun p hp=>hall p (by simp [aT]; exact .inr (.inl hp))
   simp only [aT,List.cons_append,List.mem_cons,List.mem_append] at hp
   rcases hp with rfl | hp | hp
   ·exact ⟨b,arr,T,(hc.Ai.r1 id (by rw [ho]; simp)).trans q1,q2,q3,SD hc hr Cr (hn _ (.head _)) aqF,q5⟩
   ·exact Nq hc h.obj hr Cr p hp
   ·exact ih (fun p hp=>hall p (by simp [aT]; exact .inr (.inr hp))) p hp
  | row id T e =>
   rcases List.mem_cons.1 hp with rfl | hp
   ·have:=h.obj id
    obtain ⟨v0,ho⟩:=Zn h1
    rw [ho] at this
    have hρ:=hc.Ai.r1 id (by rw [ho]; simp)
    obtain ⟨q0,⟨q1,q2⟩ | ⟨b,arr,q1,q2⟩⟩:=this
    ·exact ⟨q0,.inl ⟨hρ.trans q1,q2⟩⟩
    ·exact ⟨q0,.inr ⟨b,arr,hρ.trans q1,q2⟩⟩
   ·exact ih (fun p hp=>hall p (.tail _ hp)) p hp
  | mp id k v =>
   rcases List.mem_cons.1 hp with rfl | hp
   ·have:=h.obj id
    have ho:=agk h1
    rw [ho] at this
    obtain ⟨b,es,c,q1,q2⟩:=this
    exact ⟨b,es,c,(hc.Ai.r1 id (by rw [ho]; simp)).trans q1,q2⟩
   ·exact ih (fun p hp=>hall p (.tail _ hp)) p hp
  | rows id T e =>
   rcases List.mem_cons.1 hp with rfl | hp
   ·have:=h.obj id
    obtain ⟨v0,ho⟩:=SC h1
    rw [ho] at this
    obtain ⟨q0,b,arr,T',q1,q2⟩:=this
    exact ⟨q0,b,arr,T',(hc.Ai.r1 id (by rw [ho]; simp)).trans q1,q2⟩
   ·exact ih (fun p hp=>hall p (.tail _ hp)) p hp
  | tr e=>exact ih hall p hp
theorem Zp (h:SR P N G s a w ρ S F) (hc:Cmp vr G.lo s.heap H' ρ ρ'):∀ {ps:List aL} {x:(aa ps).den},rd G.lo s ps=some x->(∀ p∈ps,QE H' p)->(∀ p∈aT vr ps x,H' p.1=p.2) ->
  ∀ t,RS P G.Y S w H' ρ' (sE vr ps x t) (a.tmps.getD t undef)
 | [],_,_,_,_=>fun t=>trivial
 | q :: ps,x,hx,hn,hall=>by
  obtain ⟨h1,h2⟩:=yC hx
  have ih:(∀ p∈aT vr ps x.2,H' p.1=p.2)->∀ t,RS P G.Y S w H' ρ' (sE vr ps x.2 t) (a.tmps.getD t undef):=Zp h hc h2 fun p hp=>hn p (.tail _ hp)
  intro t
  cases q with
  | slot u c =>
   obtain ⟨d,_,Cr,hr⟩:=KP h h1
   simp only [sE,setEnv]
   by_cases hu:t=u
   ·subst hu
    simp only [Nat.beq_refl,cond_true]
    exact Zo hc hr Cr (hn _ (.head _)) fun p hp=>hall p (List.mem_append_left _ hp)
   ·simp only [bC hu,cond_false]
    exact ih (fun p hp=>hall p (List.mem_append_right _ hp)) t
  | agg u τ =>
   simp only [sE,setEnv]
   by_cases hu:t=u
   ·subst hu
    simp only [Nat.beq_refl,cond_true]
    simp only [Gs] at h1
    split at h1
    ·rename_i ds hd hf
     have:=h.env t
     rw [hd] at this
     obtain ⟨us,h3,h4⟩:=this
     exact ⟨us,h3,ij hf (iS h4 h1)⟩
    ·cases h1
   ·simp only [bC hu,cond_false]
    exact ih hall t
  | box id cs=>exact ih (fun p hp=>hall p (by simp [aT]; exact .inr (.inr hp))) t
  | row id T e=>exact ih (fun p hp=>hall p (.tail _ hp)) t
  | mp id k v=>exact ih (fun p hp=>hall p (.tail _ hp)) t
  | rows id T e=>exact ih (fun p hp=>hall p (.tail _ hp)) t
  | tr e=>exact ih hall t
def lS:List aL->Bool
 | []=>false
 | .tr _ :: _=>true
 | _ :: ps=>lS ps
theorem nc:∀ {ps:List aL} {x:(aa ps).den} {t:Tr},rd lo s ps=some x->lS ps=true->Cx t ps x=s.tr
 | [],_,_,_,h=>by cases h
 | q :: ps,x,t,hx,hh=>by
  obtain ⟨h1,h2⟩:=yC hx
  cases q with
  | tr e=>exact (aqE h1).symm
  | slot _ _=>exact nc (ps:=ps) h2 hh
  | agg _ _=>exact nc (ps:=ps) h2 hh
  | box _ _=>exact nc (ps:=ps) h2 hh
  | row _ _ _=>exact nc (ps:=ps) h2 hh
  | mp _ _ _=>exact nc (ps:=ps) h2 hh
  | rows _ _ _=>exact nc (ps:=ps) h2 hh
theorem gG:∀ {ps:List aL} {x:(aa ps).den} {t:Tr},lS ps=false->Cx t ps x=t
 | [],_,_,_=>rfl
 | q :: ps,x,t,hh=>by
  cases q with
  | tr e=>cases hh
  | slot _ _=>exact gG (ps:=ps) hh
  | agg _ _=>exact gG (ps:=ps) hh
  | box _ _=>exact gG (ps:=ps) hh
  | row _ _ _=>exact gG (ps:=ps) hh
  | mp _ _ _=>exact gG (ps:=ps) hh
  | rows _ _ _=>exact gG (ps:=ps) hh
theorem gq:∀ {ps:List aL} {x:(aa ps).den} {id:Nat},id∈gp ps->∃ ds,(id,aN.box ds)∈aT vr ps x
 | [],_,_,h=>by simp [gp] at h
 | q :: ps,x,id,h=>by
  cases q with
  | box i cs =>
   rcases List.mem_cons.1 h with rfl | h
   ·exact ⟨_,by simp only [aT,List.cons_append]; exact .head _⟩
   ·obtain ⟨ds,hd⟩:=gq (x:=x.2) h
    exact ⟨ds,by simp only [aT,List.cons_append]; exact .tail _ (List.mem_append_right _ hd)⟩
  | slot t c=>obtain ⟨ds,hd⟩:=gq (ps:=ps) (x:=x.2) h; exact ⟨ds,List.mem_append_right _ hd⟩
  | agg t τ=>exact gq (ps:=ps) (x:=x.2) h
  | row _ _ _=>obtain ⟨ds,hd⟩:=gq (ps:=ps) (x:=x.2) h; exact ⟨ds,.tail _ hd⟩
  | mp _ _ _=>obtain ⟨ds,hd⟩:=gq (ps:=ps) (x:=x.2) h; exact ⟨ds,.tail _ hd⟩
  | rows _ _ _=>obtain ⟨ds,hd⟩:=gq (ps:=ps) (x:=x.2) h; exact ⟨ds,.tail _ hd⟩
  | tr e=>exact gq (ps:=ps) (x:=x.2) h
theorem Aj:∀ {cs:List gm} {x:(cQ cs).den} {id:Nat},id∈qy cs->∃ v T e y,(id,aN.row v T e y)∈fW vr cs x
 | [],_,_,h=>by simp [qy] at h
 | c :: cs,x,id,h=>by
  cases c with
  | rw i T e =>
   rcases List.mem_cons.1 h with rfl | h
   ·exact ⟨_,_,_,_,List.mem_append_left _ (List.mem_singleton.2 rfl)⟩
   ·obtain ⟨v,T,e,y,hd⟩:=Aj (x:=x.2) h; exact ⟨v,T,e,y,List.mem_append_right _ hd⟩
  | _=>obtain ⟨v,T,e,y,hd⟩:=Aj (cs:=cs) (x:=x.2) h; exact ⟨v,T,e,y,List.mem_append_right _ hd⟩
theorem iz:∀ {ps:List aL} {x:(aa ps).den} {id:Nat},id∈mC ps->∃ v T e y,(id,aN.row v T e y)∈aT vr ps x
 | [],_,_,h=>by simp [mC] at h
 | q :: ps,x,id,h=>by
  cases q with
  | box i cs =>
   rcases List.mem_append.1 h with h | h
   ·obtain ⟨v,T,e,y,hd⟩:=Aj (vr:=vr) (x:=(show (cQ cs).den from x.1)) h
    exact ⟨v,T,e,y,by simp only [aT,List.cons_append]; exact .tail _ (List.mem_append_left _ hd)⟩
   ·obtain ⟨v,T,e,y,hd⟩:=iz (ps:=ps) (x:=x.2) h
    exact ⟨v,T,e,y,by simp only [aT,List.cons_append]; exact .tail _ (List.mem_append_right _ hd)⟩
  | slot t c =>
   rcases List.mem_append.1 h with h | h
   ·cases c with
    | rw i T e =>
     rcases List.mem_cons.1 h with rfl | h
     ·exact ⟨_,_,_,_,List.mem_append_left _ (List.mem_singleton.2 rfl)⟩
     ·simp [qy] at h
    | _=>simp [qy] at h
   ·obtain ⟨v,T,e,y,hd⟩:=iz (ps:=ps) (x:=x.2) h; exact ⟨v,T,e,y,List.mem_append_right _ hd⟩
  | agg t τ=>exact iz (ps:=ps) (x:=x.2) h
  | row i T e =>
   rcases List.mem_cons.1 h with rfl | h
   ·exact ⟨_,_,_,_,.head _⟩
   ·obtain ⟨v,T,e,y,hd⟩:=iz (x:=x.2) h; exact ⟨v,T,e,y,.tail _ hd⟩
  | mp _ _ _=>obtain ⟨v,T,e,y,hd⟩:=iz (ps:=ps) (x:=x.2) h; exact ⟨v,T,e,y,.tail _ hd⟩
  | rows _ _ _=>obtain ⟨v,T,e,y,hd⟩:=iz (ps:=ps) (x:=x.2) h; exact ⟨v,T,e,y,.tail _ hd⟩
  | tr e=>exact iz (ps:=ps) (x:=x.2) h
theorem Nr {c:gm} {x:c.ty.den}:∀ p∈kF vr c x,∀ v T e s,p.2=aN.row v T e s->v=vr p.1:=by
 cases c with
 | own id T e=>intro p hp v T e s h; rw [List.mem_singleton.1 hp] at h; cases h
 | rw id T e=>intro p hp v T e s h; rw [List.mem_singleton.1 hp] at h ⊢; cases h; rfl
 | _=>intro p hp; simp [kF] at hp
theorem Jr:∀ {cs:List gm} {x:(cQ cs).den},∀ p∈fW vr cs x,∀ v T e s,p.2=aN.row v T e s->v=vr p.1
 | [],_,p,hp=>by simp [fW] at hp
 | c :: cs,x,p,hp=>by
  rcases List.mem_append.1 hp with hp | hp
  ·exact Nr p hp
  ·exact Jr p hp
theorem lT:∀ {ps:List aL} {x:(aa ps).den},∀ p∈aT vr ps x,∀ v T e s,p.2=aN.row v T e s->v=vr p.1
 | [],_,p,hp=>by simp [aT] at hp
 | q :: ps,x,p,hp=>by
  cases q with
  | slot t c =>
   rcases List.mem_append.1 hp with hp | hp
   ·exact Nr p hp
   ·exact lT (ps:=ps) p hp
  | agg t τ=>exact lT (ps:=ps) p hp
  | box id cs =>
   simp only [aT,List.cons_append,List.mem_cons,List.mem_append] at hp
   rcases hp with rfl | hp | hp
   ·intro v T e s h; cases h
   ·exact Jr p hp
   ·exact lT (ps:=ps) p hp
  | row id T e =>
   rcases List.mem_cons.1 hp with rfl | hp
   ·intro v T e s h; cases h; rfl
   ·exact lT (ps:=ps) p hp
  | mp id k v =>
   rcases List.mem_cons.1 hp with rfl | hp
   ·intro v T e s h; cases h
   ·exact lT (ps:=ps) p hp
  | rows id T e =>
   rcases List.mem_cons.1 hp with rfl | hp
   ·intro v T e s h; cases h
   ·exact lT (ps:=ps) p hp
  | tr e=>exact lT (ps:=ps) p hp
theorem jE:∀ {ps:List aL} {x:(aa ps).den} {id:Nat},id∈sF ps->∃ o,o≠aN.none/\(id,o)∈aT vr ps x
 | [],_,_,h=>by simp [sF] at h
 | q :: ps,x,id,h=>by
  cases q with
  | box i cs =>
   obtain ⟨o,ho,hd⟩:=jE (ps:=ps) (x:=x.2) h
   exact ⟨o,ho,by simp only [aT,List.cons_append]; exact .tail _ (List.mem_append_right _ hd)⟩
  | slot t c=>obtain ⟨o,ho,hd⟩:=jE (ps:=ps) (x:=x.2) h; exact ⟨o,ho,List.mem_append_right _ hd⟩
  | agg t τ=>exact jE (ps:=ps) (x:=x.2) h
  | mp i T e =>
   rcases List.mem_cons.1 h with rfl | h
   ·exact ⟨_,by simp,.head _⟩
   ·obtain ⟨o,ho,hd⟩:=jE (x:=x.2) h; exact ⟨o,ho,.tail _ hd⟩
  | rows i T e =>
   rcases List.mem_cons.1 h with rfl | h
   ·exact ⟨_,by simp,.head _⟩
   ·obtain ⟨o,ho,hd⟩:=jE (x:=x.2) h; exact ⟨o,ho,.tail _ hd⟩
  | row _ _ _=>obtain ⟨o,ho,hd⟩:=jE (ps:=ps) (x:=x.2) h; exact ⟨o,ho,.tail _ hd⟩
  | tr e=>exact jE (ps:=ps) (x:=x.2) h
theorem Zq {ps:List aL} {x:(aa ps).den} (hwf:jy ps=true):∀ p∈ps,QE (bG (aT vr ps x)) p:=by
 simp only [jy,Bool.and_eq_true] at hwf
 obtain ⟨hn,hall⟩:=hwf
 have hn:(aT vr ps x |>.map (·.1)).Nodup:=by rw [dO]; exact eS hn
 have hb:∀ id∈gp ps,bG (aT vr ps x) id ≠ .none:=fun id hid=>by
  obtain ⟨ds,hd⟩:=gq (vr:=vr) (x:=x) hid; rw [ff hn _ hd]; simp
 have hr:∀ id∈mC ps,bG (aT vr ps x) id ≠ .none:=fun id hid=>by
  obtain ⟨_,_,_,ds,hd⟩:=iz (vr:=vr) (x:=x) hid; rw [ff hn _ hd]; simp
 have hm:∀ id∈sF ps,bG (aT vr ps x) id ≠ .none:=fun id hid=>by
  obtain ⟨o,ho,hd⟩:=jE (vr:=vr) (x:=x) hid; rw [ff hn _ hd]; exact ho
 have hcell:∀ c,wfC (gp ps) (mC ps) (sF ps) c=true->Fl (bG (aT vr ps x)) c:=fun c hc=>by
  cases c with
  | ptr id=>exact hb id (any_beq.1 hc)
  | row id=>exact hr id (any_beq.1 hc)
  | mp id=>exact hm id (any_beq.1 hc)
  | rows id=>exact hm id (any_beq.1 hc)
  | nE f ids=>exact fun id hid=>hb id (any_beq.1 (by simp only [wfC,List.all_eq_true] at hc; exact hc id hid))
  | kB f τ ids=>exact fun id hid=>hb id (any_beq.1 (by simp only [wfC,List.all_eq_true] at hc; exact hc id hid))
  | pc τ=>trivial
  | own _ _ _=>trivial
  | rw _ _ _=>trivial
  | jc=>trivial
  | top=>trivial
  | k n=>trivial
 intro p hp
 rw [List.all_eq_true] at hall
 have:=hall p hp
 cases p with
 | slot t c=>exact hcell c this
 | box id cs =>
  intro c hc
  simp only [List.all_eq_true] at this
  exact hcell c (this c hc)
 | _=>trivial
def sG (bs:List Nat) (l:List gx):Bool:=l.all fun
 | .mark=>true
 | .nE _ ids=>ids.all fun id=>bs.any (Nat.beq id)
theorem eV.cmp (hc:Cmp vr lo heap H' ρ ρ') {n0:Nat}:∀ {ds:List gx} {dd:List Deferred},eV n0 w heap ρ F ds dd->(∀ f ids,.nE f ids∈ds->∀ id∈ids,H' id ≠ .none)->eV n0 w H' ρ' F ds dd
 | [],[],_,_=>trivial
 | .mark :: r,d :: ds,⟨h1,h⟩,hn=>⟨h1,eV.cmp hc h fun f ids hm=>hn f ids (.tail _ hm)⟩
 | .nE f ids :: r,d :: ds,⟨⟨us,h1,h2⟩,h⟩,hn=>⟨⟨us,h1,h2.cmp hc (hn f ids (.head _))⟩,eV.cmp hc h fun f ids hm=>hn f ids (.tail _ hm)⟩
 | [],_ :: _,h,_=>h.elim
 | .mark :: _,[],h,_=>h.elim
 | .nE _ _ :: _,[],h,_=>h.elim
def Gh.lU (G:Gh):Prop:=∀ F S w,MN G .none F S w
theorem qz (hG:G.Ok P) (h:SR P N G s a w ρ S F) {ps:List aL} {x:(aa ps).den} {t:Tr} (hwf:jy ps=true) (hd:sG (gp ps) s.aS=true) (ht:lS ps=true\/MN G t F S w) (hx:rd G.lo s ps=some x) :
  SR P N G (wrV vr G.lo t s.aS ps x) a w (fo G.fu s.heap ρ) S F:=by
 have hnm:=Zq (vr:=vr) (x:=x) hwf
 have hwf':=hwf
 simp only [jy,Bool.and_eq_true] at hwf
 have Jg:(aT vr ps x |>.map (·.1)).Nodup:=by rw [dO]; exact eS hwf.1
 have hc:Cmp vr G.lo s.heap (bG (aT vr ps x)) ρ (fo G.fu s.heap ρ):=⟨fun id hn=>kZ h hx _ (dA hn),h.Ai hG,fun id v T e s hh=>lT _ (dA (i:=id) (by rw [hh]; simp)) v T e s hh⟩
 have hall:∀ p∈aT vr ps x,bG (aT vr ps x) p.1=p.2:=ff Jg
 have YU:∀ i b,live (bG (aT vr ps x) i)->fo G.fu s.heap ρ i=some b->live (s.heap i)/\ρ i=some b:=fun i b hl hb=>by
  refine ⟨?_,hc.Ai.r2 i b hb⟩
  have hn:bG (aT vr ps x) i ≠ .none:=fun e=>by rw [e] at hl; exact hl
  have:=hc.like i hn
  cases ho:bG (aT vr ps x) i with
  | none=>exact absurd ho hn
  | gone=>rw [ho] at hl; exact hl.elim
  | box ds=>rw [ho] at this; obtain ⟨_,e⟩:=this; rw [e]; trivial
  | row v T e y =>
   rw [ho] at this
   obtain ⟨v,e⟩ | ⟨e1,e2,e3⟩:=this
   ·rw [e]; trivial
   ·rw [hc.Ai.r3 i e1 e3] at hb; cases hb
  | mp k v m=>rw [ho] at this; rw [show s.heap i=_ from this]; trivial
  | rows _ T e d=>rw [ho] at this; obtain ⟨_,e⟩:=this; rw [e]; trivial
  | chain bB T k n =>
   rw [ho] at this
   obtain ⟨v,e⟩ | ⟨e1,e2,e3⟩:=this
   ·rw [e]; trivial
   ·rw [hc.Ai.r3 i e1 e3] at hb; cases hb
 have hown:∀ i b,Own w (fo G.fu s.heap ρ) i (bG (aT vr ps x) i) b->Own w ρ i (s.heap i) b:=fun i b hi=>by
  by_cases hr:wI (bG (aT vr ps x) i)=false
  ·obtain ⟨l1,r1⟩:=YU i b hi.lv (hi.flat hr)
   exact .of l1 r1
  ·have hn:bG (aT vr ps x) i ≠ .none:=fun e=>by rw [e] at hi; exact hi
   have hlk:=hc.like i hn
   cases ho:bG (aT vr ps x) i with
   | rows v T e d =>
    rw [ho] at hi hlk
    obtain ⟨v0,e0⟩:=hlk
    rw [e0]
    rcases hi with q | ⟨k,n,cap,b0,arr,T0,q1,q2⟩
    ·exact .inl (hc.Ai.r2 i b q)
    ·exact .inr ⟨k,n,cap,b0,arr,T0,hc.Ai.r2 i b0 q1,q2⟩
   | _=>rw [ho] at hr; exact absurd rfl hr
 refine ⟨h.size,h.aS.cmp hc fun f ids hm id hid=>?_,Zp h hc hx hnm hall,fun id=>?_,fun i j b hi hj=>h.inj i j b (hown i b hi) (hown j b hj),h.ext,h.new,h.same,?_,h.fb,h.f0,h.sub,h.fs,fun id b hb=>?_⟩
 ·simp only [sG,List.all_eq_true] at hd
  have:=hd _ hm
  simp only [List.all_eq_true] at this
  obtain ⟨ds,hds⟩:=gq (vr:=vr) (x:=x) (any_beq.1 (this id hid))
  show bG (aT vr ps x) id ≠ .none
  rw [hall _ hds]; simp
 ·show OI P G S w (bG (aT vr ps x)) _ F id (bG (aT vr ps x) id)
  by_cases hn:bG (aT vr ps x) id = .none
  ·rw [hn]; trivial
  ·exact SF h hc hx hnm hall _ (dA hn)
 ·show MN G (Cx t ps x) F S w
  cases hh:lS ps with
  | true=>rw [nc hx hh]; exact h.tr
  | false=>rw [gG hh]; exact ht.resolve_left (by rw [hh]; simp)
 ·obtain ⟨p1,p2⟩:=h.pins id b hb
  refine ⟨by unfold fo; rw [hb],?_⟩
  show dS (bG (aT vr ps x) id)=false
  by_cases hn:bG (aT vr ps x) id = .none
  ·rw [hn]; rfl
  ·have:=hc.like id hn
   cases ho:bG (aT vr ps x) id with
   | chain bB T k n =>
    rw [ho] at this
    obtain ⟨v,e⟩ | ⟨e1,e2,e3⟩:=this
    ·rw [e] at p2; cases p2
    ·have:=hG.fu id b hb; omega
   | _=>rfl
theorem aqG (hG:G.Ok P) (h:SX P N G s a w) {ps:List aL} {x:(aa ps).den} (hwf:jy ps=true) (hd:sG (gp ps) s.aS=true) (ht:lS ps=true\/G.lU) (hx:rd G.lo s ps=some x) :
  SX P N G (wr G.lo .none s.aS ps x) a w:=by
 obtain ⟨ρ,S,F,h⟩:=h
 exact ⟨_,S,F,qz hG h hwf hd (ht.imp id fun q=>q F S w) hx⟩
end Go.Dm
namespace Go.Dm
open Go.RowKit
variable {P:Program} {N:Nat} {G:Gh} {S S':CS} {w w':World} {s:St} {a:Act} {ρ ρ':fV} {F F':Nat->Prop} {heap heap' H':Nat->aN} {Y:Value} {E:cO} {Γ:Ctx} {Fw:Fence} {r:Nat} {ops:Array Oper} {lo base:Nat} {aS:List gx} {fid:FuncId}
inductive LO where
 | exit (id:Nat) (qs:List aL) (y:(aa qs).den)
 | ret (qs:List aL) (y:(aa qs).den)
 | stop (e:Ty) (x:Sl e.den)
 | jF (e:Ty) (x:Sl e.den) (qs:List aL) (y:(aa qs).den)
 | cw (T:TypeId) (τ:Ty) (x:τ.den) (qs:List aL) (y:(aa qs).den)
 | bt (e:Ty) (x:Sl e.den)
 | bad
def LO.out (lo:Nat) (aS:List gx):LO->Out
 | .exit id qs y=>.exit id (wr lo .none aS qs y)
 | .ret qs y=>.ret (wr lo .none aS qs y)
 | .stop e x=>.ret (wr lo ⟨e,false,x⟩ aS [] ())
 | .jF e x qs y=>.ret (wr lo ⟨e,false,x⟩ aS qs y)
 | .cw T τ x qs y=>.cw (.Cm T τ x) (wr lo .none aS qs y)
 | .bt e x=>.cw .jc (wr lo ⟨e,false,x⟩ aS [] ())
 | .bad=>.bad
inductive LO.le:LO->LO->Prop
 | refl {o:LO} (h:o ≠ .bad):LO.le o o
 | stop {e:Ty} {x y:Sl e.den} (h:x.list <+: y.list):LO.le (.stop e x) (.stop e y)
 | jF {e:Ty} {x y:Sl e.den} {qs:List aL} {z:(aa qs).den} (hn:lS qs=false) (h:x.list <+: y.list):LO.le (.jF e x qs z) (.jF e y qs z)
 | bt {e:Ty} {x y:Sl e.den} (h:x.list <+: y.list):LO.le (.bt e x) (.bt e y)
theorem LO.le_trans {a b c:LO} (h:LO.le a b) (h':LO.le b c):LO.le a c:=by
 cases h with
 | refl _=>exact h'
 | stop h1=>cases h' with
  | refl _=>exact .stop h1
  | stop h2=>exact .stop (h1.trans h2)
 | jF hn h1=>cases h' with
  | refl _=>exact .jF hn h1
  | jF _ h2=>exact .jF hn (h1.trans h2)
 | bt h1=>cases h' with
  | refl _=>exact .bt h1
  | bt h2=>exact .bt (h1.trans h2)
theorem LO.aqH {o o':LO} {e:Exit} (h:LO.le o o') (ho:qx P N G (o.out lo aS) e a w):qx P N G (o'.out lo aS) e a w:=by
 cases h with
 | refl _=>exact ho
 | stop h =>
  rename_i e0 x y
  cases e <;> try exact ho.elim
  obtain ⟨ρ,S,F,q⟩:=ho
  refine ⟨ρ,S,F,q.size,q.aS,q.env,q.obj,q.inj,q.ext,q.new,q.same,?_,q.fb,q.f0,q.sub,q.fs,q.pins⟩
  obtain ⟨lv,z,hz,hJ⟩:=q.tr
  have hz:(⟨e0,false,x⟩:Tr)=⟨G.e,lv,z⟩:=hz
  cases hz
  obtain ⟨l',h1,h2⟩:=hJ
  exact ⟨false,y,rfl,l',h1.trans h,h2⟩
 | jF hn h =>
  rename_i e0 x y qs zz
  cases e <;> try exact ho.elim
  obtain ⟨ρ,S,F,q⟩:=ho
  refine ⟨ρ,S,F,q.size,q.aS,q.env,q.obj,q.inj,q.ext,q.new,q.same,?_,q.fb,q.f0,q.sub,q.fs,q.pins⟩
  obtain ⟨lv,z,hz,hJ⟩:=q.tr
  have hz:Cx (⟨e0,false,x⟩:Tr) qs zz=⟨G.e,lv,z⟩:=hz
  rw [gG hn] at hz
  cases hz
  obtain ⟨l',h1,h2⟩:=hJ
  exact ⟨false,y,gG hn,l',h1.trans h,h2⟩
 | bt h =>
  rename_i e0 x y
  cases e <;> try exact ho.elim
  obtain ⟨F,S,z,l',hz,h1,h2,h3⟩:=ho
  have hz:(⟨e0,false,x⟩:Tr)=⟨G.e,false,z⟩:=hz
  cases hz
  exact ⟨F,S,y,l',rfl,h1.trans h,h2,h3⟩
def KQ (t:Tree LO) (o:LO):Prop:=∃ o',t.Has o'/\LO.le o o'
def aju (t:Tree LO):Prop:=∀ o,t.Has o->o ≠ .bad
theorem KQ.ne {t:Tree LO} {o:LO} (h:KQ t o):o ≠ .bad:=by
 obtain ⟨o',_,h⟩:=h
 cases h with
 | refl h=>exact h
 | stop _=>simp
 | jF _ _=>simp
 | bt _=>simp
theorem KQ.trans {t t':Tree LO} {o:LO} (h:KQ t o) (h':∀ o,t.Has o->KQ t' o):KQ t' o:=by
 obtain ⟨o',h1,h2⟩:=h
 obtain ⟨o'',h3,h4⟩:=h' o' h1
 exact ⟨o'',h3,LO.le_trans h2 h4⟩
inductive SG (ps:List aL) where
 | next (x:(aa ps).den)
 | out (o:LO)
 | bad
def gx.beq:gx->gx->Bool
 | .mark,.mark=>true
 | .nE f ids,.nE f' ids'=>Nat.beq f f' && uA ids ids'
 | _,_=>false
def nZ:List gx->List gx->Bool
 | [],[]=>true
 | a :: as,b :: bs=>a.beq b && nZ as bs
 | _,_=>false
theorem dU:∀ {a b:List gx},nZ a b=true->a=b
 | [],[],_=>rfl
 | x :: xs,y :: ys,h=>by
  simp only [nZ,Bool.and_eq_true] at h
  rw [dU h.2]
  congr 1
  cases x with
  | mark=>cases y with
   | mark=>rfl
   | nE _ _=>cases h.1
  | nE f ids=>cases y with
   | mark=>cases h.1
   | nE f' ids' =>
    have:=h.1
    simp only [gx.beq,Bool.and_eq_true] at this
    rw [Nat.eq_of_beq_eq_true this.1,fZ this.2]
 | [],_ :: _,h=>by cases h
 | _ :: _,[],h=>by cases h
structure aO where
 bw:List (Nat×List aL)
 ret:List aL
 cw:List aL
def rO:List (Nat×List aL)->Nat->Option (List aL)
 | [],_=>none
 | (i,p) :: l,j=>bif Nat.beq j i then some p else rO l j
def ajv:List aL->List aL
 | []=>[]
 | .tr _ :: ps=>ajv ps
 | p :: ps=>p :: ajv ps
def vW (tr:Bool) (lo:Nat) (aS:List gx) (wy:aO):Out->LO
 | .exit id s=>match nZ s.aS aS,rO wy.bw id with
  | true,some qs=>match rd lo s qs with
   | some y=>.exit id qs y
   | none=>.bad
  | _,_=>.bad
 | .ret s=>match nZ s.aS aS with
  | true=>match !tr || s.tr.live with
   | true=>match rd lo s wy.ret with
    | some y=>.ret wy.ret y
    | none=>.bad
   | false=>match ajv wy.ret with
    | []=>match sG [] aS with
     | true=>.stop s.tr.e s.tr.s
     | false=>.bad
    | q :: qs=>match jy (q :: qs) && sG (gp (q :: qs)) aS && !lS (q :: qs),rd lo s (q :: qs) with
     | true,some y=>.jF s.tr.e s.tr.s (q :: qs) y
     | _,_=>.bad
  | false=>.bad
 | .cw (.Cm T τ x) s=>match nZ s.aS aS with
  | true=>match rd lo s wy.cw with
   | some y=>.cw T τ x wy.cw y
   | none=>.bad
  | false=>.bad
 | .cw .jc s=>match nZ s.aS aS with
  | true=>.bt s.tr.e s.tr.s
  | false=>.bad
 | _=>.bad
def Fm (tr:Bool) (lo:Nat) (aS:List gx) (ps:List aL) (wy:aO):Out->SG ps
 | .norm s=>match nZ s.aS aS with
  | true=>match rd lo s ps with
   | some x=>.next x
   | none=>.bad
  | false=>.bad
 | o=>.out (vW tr lo aS wy o)
def WU (aS:List gx) (tr:Bool) (qs:List aL):Bool:=jy qs && sG (gp qs) aS && (!tr || lS qs)
def aO.wf (aS:List gx) (tr:Bool) (wy:aO):Bool:=(wy.bw.all fun p=>WU aS tr p.2) && WU aS tr wy.ret && WU aS tr wy.cw
theorem uB:∀ {l:List (Nat×List aL)} {i:Nat} {p:List aL},rO l i=some p->(i,p)∈l
 | (j,q) :: l,i,p,h=>by
  simp only [rO] at h
  by_cases e:i=j
  ·subst e; simp at h; subst h; exact .head _
  ·rw [bC e,cond_false] at h; exact .tail _ (uB h)
theorem uC (hG:G.Ok P) (h:SX P N G s a w) {tr:Bool} (ht:tr=true\/G.lU) {qs:List aL} {y:(aa qs).den} (hw:WU aS tr qs=true) (hd:s.aS=aS) (hy:rd G.lo s qs=some y):SX P N G (wr G.lo .none aS qs y) a w:=by
 simp only [WU,Bool.and_eq_true,Bool.or_eq_true,Bool.not_eq_true'] at hw
 obtain ⟨⟨h1,h2⟩,h3⟩:=hw
 subst hd
 refine aqG hG h h1 h2 ?_ hy
 rcases ht with rfl | ht
 ·exact .inl (h3.resolve_left (by simp))
 ·exact .inr ht
theorem Zr (hG:G.Ok P) {tr:Bool} (ht:tr=true\/G.lU) {wy:aO} (hwf:wy.wf aS tr=true) {o:Out} {e:Exit} (h:qx P N G o e a w) (hb:vW tr G.lo aS wy o ≠ .bad) :
  qx P N G ((vW tr G.lo aS wy o).out G.lo aS) e a w:=by
 simp only [aO.wf,Bool.and_eq_true] at hwf
 obtain ⟨⟨w1,w2⟩,w3⟩:=hwf
 cases o with
 | norm s=>exact absurd rfl hb
 | bad=>exact absurd rfl hb
 | exit id s =>
  cases e <;> try exact h.elim
  obtain ⟨rfl,h⟩:=h
  simp only [vW] at hb ⊢
  split at hb
  case h_2=>exact absurd rfl hb
  rename_i qs hd hq
  split at hb
  case h_2=>exact absurd rfl hb
  rename_i y hy
  try simp only [hd,hq,hy]
  have:=List.all_eq_true.1 w1 _ (uB hq)
  exact ⟨rfl,uC hG h ht this (dU hd) hy⟩
 | ret s =>
  cases e <;> try exact h.elim
  simp only [vW] at hb ⊢
  split at hb
  case h_2=>exact absurd rfl hb
  rename_i hd
  try simp only [hd]
  split at hb
  ·rename_i hl
   try simp only [hl]
   split at hb
   case h_2=>exact absurd rfl hb
   rename_i y hy
   try simp only [hy]
   exact uC hG h ht w2 (dU hd) hy
  ·rename_i hl
   try simp only [hl]
   obtain ⟨ρ,S,F,h⟩:=h
   have hd:=dU hd
   subst hd
   have htr:=h.tr
   have hst:(⟨s.tr.e,false,s.tr.s⟩:Tr)=s.tr:=by
    cases ht:s.tr with
    | mk e lv x=>rw [ht] at hl; simp only [Bool.or_eq_false_iff] at hl; obtain ⟨_,rfl⟩:=hl; rfl
   split at hb
   ·rename_i hnt
    try simp only [hnt]
    split at hb
    case h_2=>exact absurd rfl hb
    rename_i Pw
    try simp only [Pw]
    refine ⟨_,S,F,qz hG h (ps:=[]) (x:=()) (t:=⟨s.tr.e,false,s.tr.s⟩) rfl Pw (.inr ?_) rfl⟩
    rw [hst]; exact htr
   ·rename_i q0 qs0 hnt
    try simp only [hnt]
    split at hb
    case h_2=>exact absurd rfl hb
    rename_i y Pw hy
    try simp only [Pw,hy]
    simp only [Bool.and_eq_true] at Pw
    exact ⟨_,S,F,qz hG h (ps:=q0 :: qs0) (x:=y) (t:=⟨s.tr.e,false,s.tr.s⟩) Pw.1.1 Pw.1.2 (.inr (by rw [hst]; exact htr)) hy⟩
 | cw d s =>
  cases e <;> try exact h.elim
  cases d with
  | Cm T τ x =>
   simp only [vW] at hb ⊢
   split at hb
   case h_2=>exact absurd rfl hb
   rename_i hd
   try simp only [hd]
   split at hb
   case h_2=>exact absurd rfl hb
   rename_i y hy
   try simp only [hy]
   obtain ⟨u,ρ,S,F,h1,h2,h3⟩:=h
   simp only [WU,Bool.and_eq_true,Bool.or_eq_true,Bool.not_eq_true'] at w3
   obtain ⟨⟨q1,q2⟩,q3⟩:=w3
   have hd:=dU hd
   subst hd
   refine ⟨u,_,S,F,h1,qz hG h2 q1 q2 ?_ hy,h3⟩
   rcases ht with rfl | ht
   ·exact .inl (q3.resolve_left (by simp))
   ·exact .inr (ht F S w)
  | jc =>
   simp only [vW] at hb ⊢
   split at hb
   case h_2=>exact absurd rfl hb
   rename_i hd
   have hd:=dU hd
   obtain ⟨F,S,x,l',h1,h2,h3,h4,h5⟩:=h
   refine ⟨F,S,x,l',?_,h2,h3,h4,fun q=>h5 (hd.trans q)⟩
   show (⟨s.tr.e,false,s.tr.s⟩:Tr)=_
   rw [h1]
  | _=>exact absurd rfl hb
def Ns {ps:List aL} (μ:(aa ps).den->Nat) (f:(aa ps).den->Tree LO) (x:(aa ps).den):SG ps->Prop
 | .next x'=>μ x' < μ x/\∀ o,(f x').Has o->KQ (f x) o
 | .out o=>KQ (f x) o
 | .bad=>False
def Dd (lo:Nat) (aS:List gx) (ps:List aL) (f:(aa ps).den->Tree LO) (s:St):Tree Out:=
 match nZ s.aS aS with
 | true=>match rd lo s ps with
  | some x=>(f x).map (LO.out lo aS)
  | none=>.leaf .bad
 | false=>.leaf .bad
def Px (tr:Bool) (P:Program) (E:cO) (Γ:Ctx) (lo N:Nat) (aS:List gx) (ps:List aL) (wy:aO) (body:Code) (ls:List Loop) (x:(aa ps).den):Tree (SG ps):=
 gF P E Γ lo N .any body ls (wr lo .none aS ps x) fun o=>.leaf (Fm tr lo aS ps wy o)
theorem Tree.dz {α β:Type} {f:α->β} {a:α}:∀ {t:Tree α},t.Has a->(t.map f).Has (f a)
 | .leaf b,h=>by rw [show a=b from h]; rfl
 | .br b l r0,h=>by
  cases b with
  | true=>have:=Tree.dz (f:=f) (t:=l) (a:=a) (by simpa [Tree.Has] using h); simpa [Tree.map,Tree.Has] using this
  | false=>have:=Tree.dz (f:=f) (t:=r0) (a:=a) (by simpa [Tree.Has] using h); simpa [Tree.map,Tree.Has] using this
 | .any l r0,h=>h.elim (fun h=>.inl (Tree.dz h)) (fun h=>.inr (Tree.dz h))
theorem LO.QF {e:Ty} {x:Sl e.den} {o:LO} (h:LO.le (.bt e x) o):∃ y,o = .bt e y/\x.list <+: y.list:=by
 cases h with
 | refl _=>exact ⟨x,rfl,List.prefix_refl _⟩
 | bt h=>exact ⟨_,rfl,h⟩
theorem QG {e1:Ty} {x1 y:Sl e1.den} {e2:Ty} {z:Sl e2.den} {items:List e2.den} (hp:x1.list <+: y.list) (h3:(⟨e1,false,x1⟩:Tr)=⟨e2,false,z⟩) (hy:∀ z':Sl e2.den,(⟨e1,false,y⟩:Tr)=⟨e2,false,z'⟩->z'.list <+: items):z.list <+: items:=by
 cases h3
 exact hp.trans (hy y rfl)
theorem adb (hE:Env P E Γ G Fw) {tr:Bool} (ht:tr=true\/G.lU) {ps:List aL} {wy:aO} {body:Code} {ls:List Loop} (hls:iW P N G fid Fw r body ls)
  (hps:WU aS tr ps=true) (hwy:wy.wf aS tr=true) (f:(aa ps).den->Tree LO) (μ:(aa ps).den->Nat)
  (QH:∀ x,aju (f x)->(Px tr P E Γ G.lo N aS ps wy body ls x).kE (Ns μ f x)):gX P N G fid Fw r (.loop body) (Dd G.lo aS ps f):=by
 intro s a w h cC
 unfold Dd at cC ⊢
 split at cC
 case h_2=>exact (cC .bad rfl).elim
 rename_i hd
 try simp only [hd]
 split at cC
 case h_2=>exact (cC .bad rfl).elim
 rename_i x hx
 try simp only [hx]
 have hfx:aju (f x):=fun o ho e=>by subst e; exact (cC _ (Tree.dz (f:=LO.out G.lo aS) ho)).elim
 have h0:=uC hE.gh h ht hps (dU hd) hx
 have hyl:∀ e z,(f x).Has (.bt e z)->∀ z':Sl G.e.den,(⟨e,false,z⟩:Tr)=⟨G.e,false,z'⟩->z'.list <+: G.items:=fun e z ho=>cC _ (Tree.dz (f:=LO.out G.lo aS) ho)
 -- in terms of f alone
 suffices key:∀ (n:Nat) (x:(aa ps).den) (a:Act) (w:World),μ x=n->aju (f x)->(∀ e z,(f x).Has (.bt e z)->∀ z':Sl G.e.den,(⟨e,false,z⟩:Tr)=⟨G.e,false,z'⟩->z'.list <+: G.items)->SX P N G (wr G.lo .none aS ps x) a w ->
   Bp fid Fw r P (.loop body) (fun e a' w'=>∃ o,(f x).Has o/\qx P N G (o.out G.lo aS) e a' w') a w from
  dG (key _ x a w rfl hfx hyl h0) fun e a' w' ⟨o,h1,h2⟩=>⟨_,Tree.dz h1,h2⟩
 intro n x0 a w hn ID hyl hs0
 have hyg:∀ (x:(aa ps).den),(∀ o,(f x).Has o->KQ (f x0) o)->∀ s',Tree.kE (Ns μ f x) (.leaf (Fm tr G.lo aS ps wy (.cw .jc s')))->YG G s':=fun x hc s' q z hz=>by
  have q:KQ (f x) (vW tr G.lo aS wy (.cw .jc s')):=q
  simp only [vW] at q
  split at q
  case h_2=>exact (q.ne rfl).elim
  obtain ⟨o',h1,h2⟩:=q.trans hc
  have h3:(⟨s'.tr.e,false,s'.tr.s⟩:Tr)=⟨G.e,false,z⟩:=by rw [hz]
  obtain ⟨y,rfl,hp⟩:=LO.QF h2
  exact QG hp h3 (hyl _ _ h1)
 have key:∀ (m:Nat) (x:(aa ps).den) (a:Act) (w:World),μ x < m->(∀ o,(f x).Has o->KQ (f x0) o)->SX P N G (wr G.lo .none aS ps x) a w ->
   mZ fid Fw r P body (fun e a' w'=>∃ o,KQ (f x0) o/\qx P N G (o.out G.lo aS) e a' w') m a w:=by
  intro m
  induction m with
  | zero=>intro x a w hm; omega
  | succ m ih =>
   intro x a w hm hc hs
   unfold mZ
   have hT:=QH x fun o ho=>(hc o ho).ne
   refine dG (dy (T:=fun t:Tree (SG ps)=>t.kE (Ns μ f x)) (ch:=Tree.any) (K:=fun o=>.leaf (Fm tr G.lo aS ps wy o)) hE (fun a b q=>q) ⟨fun q=>KQ.ne (o:=.bad) q rfl,hyg x hc⟩ hT hls hs) ?_
   rintro e a' w' ⟨o,ho,lR⟩
   have out:∀ l,Fm tr G.lo aS ps wy o = .out l->e ≠ .normal->l=vW tr G.lo aS wy o->∃ o,KQ (f x0) o/\qx P N G (o.out G.lo aS) e a' w':=fun l hl _ e=>by
    have lR:Ns μ f x (Fm tr G.lo aS ps wy o):=lR
    rw [hl] at lR
    have aqI:KQ (f x) l:=lR
    subst e
    exact ⟨_,aqI.trans hc,Zr hE.gh ht hwy ho aqI.ne⟩
   cases o with
   | norm s' =>
    cases e <;> try exact ho.elim
    have lR:Ns μ f x (Fm tr G.lo aS ps wy (.norm s')):=lR
    simp only [Fm] at lR
    split at lR
    case h_2=>exact lR.elim
    rename_i hd
    split at lR
    case h_2=>exact lR.elim
    rename_i x' hx'
    obtain ⟨h1,h2⟩:=lR
    exact ih x' a' w' (by omega) (fun o ho=>(h2 o ho).trans hc) (uC hE.gh ho ht hps (dU hd) hx')
   | exit id s'=>cases e <;> first | exact ho.elim | exact out _ rfl (by simp) rfl
   | ret s'=>cases e <;> first | exact ho.elim | exact out _ rfl (by simp) rfl
   | cw d s'=>cases e <;> first | exact ho.elim | exact out _ rfl (by simp) rfl
   | bad=>cases e <;> exact ho.elim
 refine dG (mB _ (key (μ x0 + 1) x0 a w (by omega) (fun o ho=>⟨o,ho,.refl (ID o ho)⟩) hs0)) ?_
 rintro e a' w' ⟨o,⟨o',h1,h2⟩,h3⟩
 exact ⟨o',h1,LO.aqH h2 h3⟩
end Go.Dm
namespace Go.Dm
open Go.RowKit
variable {P:Program} {N:Nat} {G:Gh} {S S':CS} {w w':World} {s:St} {a:Act} {ρ ρ':fV} {F F':Nat->Prop} {heap heap' H':Nat->aN} {Y:Value} {E:cO} {Γ:Ctx} {Fw:Fence} {r:Nat} {ops:Array Oper} {lo base:Nat} {aS:List gx}
def Gh.start (S:CS) (w:World):Gh:=Gh.inner (fun _=>False) S w 0 0 fun _=>none
theorem dH {M:Nat->Prop} {l lo:Nat} {fu:Nat->Option Nat}:(Gh.inner M S w l lo fu).lU:=fun _ _ _=>⟨false,⟨0,fun _=>()⟩,rfl,[],List.nil_prefix,trivial⟩
theorem yD {M:Nat->Prop} {l lo:Nat} {fu:Nat->Option Nat} (hp:∀ id b,fu id=some b->id < lo):(Gh.inner M S w l lo fu).Ok P:=⟨Cons.Sz _,Fa,hp⟩
theorem jS:(Gh.start S w).Ok P:=yD fun _ _ h=>by cases h
def dP:(τ:Ty)->τ.den->List Slot
 | .cons h t,x=>Ex h (show h.den×t.den from x).1 :: dP t (show h.den×t.den from x).2
 | _,_=>[]
def Fo (τ:Ty) (x:τ.den):St:=⟨fun t=>(dP τ x).getD t .top,fun _=>.none,.none,0,[]⟩
def rP:List ResultVar->List Nat
 | []=>[]
 | .tmp t :: rs=>t :: rP rs
 | .cell _ _ :: rs=>rP rs
def jT (P:Program):List ResultVar->(τ:Ty)->St->Option τ.den
 | [],.nil,_=>some ()
 | .tmp t :: rs,.cons h tl,s=>match fK h (s.env t),jT P rs tl s with
  | some x,some y=>some (x,y)
  | _,_=>none
 | .cell t T :: rs,.cons h tl,s=>match s.env t with
  | .v (.ptr id 0)=>match s.heap id,dg P T with
   | .box ds,some n=>match decide (ds.length=n) with
    | true=>match fK h (match cU P T,ds with | some true,ds=>.agg ds | some false,[d]=>.v d | _,_=>.top),jT P rs tl s with
     | some x,some y=>some (x,y)
     | _,_=>none
    | false=>none
   | _,_=>none
  | _=>none
 | _,_,_=>none
def mK (fn:Func) (s:St):St:=er s (rP fn.results.toList)
theorem jG:∀ {τ:Ty} {x:τ.den} {vs:List Value},R P τ S w x vs->∀ t,RS P Y S w heap ρ ((dP τ x).getD t .top) (vs.getD t undef)
 | .cons h t,x,vs,hr,k=>by
  obtain ⟨u,ws,rfl,h2,h3⟩:=hr
  cases k with
  | zero=>exact Aa h2
  | succ k=>simpa [dP] using jG (τ:=t) h3 k
 | .int _,_,_,_,_=>trivial
 | .bool,_,_,_,_=>trivial
 | .sl _,_,_,_,_=>trivial
 | .ptr _,_,_,_,_=>trivial
 | .agg _,_,_,_,_=>trivial
 | .nil,_,_,_,_=>trivial
 | .fn _ _,_,_,_,_=>trivial
 | .seq _,_,_,_,_=>trivial
 | .map _ _,_,_,_,_=>trivial
 | .xV,_,_,_,_=>trivial
def lV (N:Nat) (vs:List Value):Act:={ tmps:=vs.toArray ++ Array.replicate (N - vs.toArray.size) undef,defers:=[] }
theorem nH (vs:List Value) (t:Nat):(lV N vs).tmps.getD t undef=vs.getD t undef:=by
 unfold lV
 rw [Array.getD_eq_getD_getElem?,List.getD_eq_getElem?_getD,Array.getElem?_append]
 split
 ·simp
 ·rename_i ht
  rw [List.getElem?_eq_none (by simpa using ht),Array.getElem?_replicate]
  split <;> rfl
theorem ld {vs:List Value} (hn:vs.length<=N):(lV N vs).tmps.size=N:=by
 unfold lV; simp; omega
theorem SH {τ:Ty} {x:τ.den} {vs:List Value} (hb:Bd S w) (hr:R P τ S w x vs) (hn:vs.length<=N) :
  SR P N (Gh.start S w) (Fo τ x) (lV N vs) w (fun _=>none) S (fun _=>False):=by
 refine ⟨ld hn,trivial,fun t=>?_,fun id=>trivial,fun i j b hi=>hi.elim,.refl hb,fun _ _ q=>.inl q,.refl _ _,dH _ _ _,fun _ q=>q.elim,fun _ _ q=>q,fun _ q=>q,fun _ _ _ _=>trivial,fun _ _ q=>by cases q⟩
 rw [nH]
 exact jG hr t
def VC (tmps:Array Value):ResultVar->Sem Value
 | .tmp t=>pure (tmps.getD t undef)
 | .cell c t=>do loadVar t (<- asAddr (tmps.getD c undef))
theorem KS (h:SR P N G s a w ρ S F):∀ {rs:List ResultVar} {τ:Ty} {y:τ.den},jT P rs τ s=some y ->
    ∃ us,(rs.mapM (m:=Sem) (VC a.tmps)).run P w = .ok us w/\R P τ S w y us
  | [],τ,y,hy=>by
    cases τ with
    | nil=>exact ⟨[],rfl,rfl⟩
    | _=>cases hy
  | .tmp t :: rs,τ,y,hy=>by
    cases τ with
    | cons h1 tl =>
      simp only [jT] at hy
      cases h2:fK h1 (s.env t) with
      | none=>rw [h2] at hy; simp at hy
      | some x =>
        cases h3:jT P rs tl s with
        | none=>rw [h2,h3] at hy; simp at hy
        | some z =>
          rw [h2,h3] at hy
          simp only [Option.some.injEq] at hy
          subst hy
          obtain ⟨us,q1,q2⟩:=KS h h3
          exact ⟨_ :: us,by simp only [List.mapM_cons,Sem.run_bind,VC,Sem.run_pure,Result.andThen_ok] at q1 ⊢; rw [q1]; rfl,_,us,rfl,qp (h.env t) h2,q2⟩
    | _=>cases hy
  | .cell c t :: rs,τ,y,hy=>by
    cases τ with
    | cons h1 tl =>
      simp only [jT] at hy
      cases hs:s.env c with
      | v d =>
        cases d with
        | ptr id off =>
          rw [hs] at hy
          cases off with
          | succ off=>simp at hy
          | zero =>
          simp only at hy
          cases ho:s.heap id with
          | box ds =>
            cases hn:dg P t with
            | none=>rw [ho,hn] at hy; simp at hy
            | some n =>
              rw [ho,hn] at hy
              simp only at hy
              cases hc:decide (ds.length=n) with
              | false=>rw [hc] at hy; simp at hy
              | true =>
                rw [hc] at hy
                simp only [decide_eq_true_eq] at hc
                simp only at hy
                have hp:=h.env c
                rw [hs] at hp
                obtain ⟨b,arr,T,hb,hv,hh,hr⟩:=Dr h ho hp
                have hal:arr.toList.length=n:=by rw [<- hr.1]; exact hc
                have main:∀ (sl:Slot) (v:Value),RS P G.Y S w s.heap ρ sl v->(Instr.loadAt t (.pointer (some ⟨b,0,none⟩))).run P w = .ok v w ->
                    (match fK h1 sl,jT P rs tl s with
                      | some x,some y=>some (x,y)
                      | _,_=>none)=some y->∃ us,((ResultVar.cell c t :: rs).mapM (m:=Sem) (VC a.tmps)).run P w = .ok us w/\R P (.cons h1 tl) S w y us:=by
                  intro sl v WR aqJ hy
                  cases h2:fK h1 sl with
                  | none=>rw [h2] at hy; simp at hy
                  | some x =>
                    cases h3:jT P rs tl s with
                    | none=>rw [h2,h3] at hy; simp at hy
                    | some z =>
                      rw [h2,h3] at hy
                      simp only [Option.some.injEq] at hy
                      subst hy
                      obtain ⟨us,q1,q2⟩:=KS h h3
                      refine ⟨v :: us,?_,v,us,rfl,qp WR h2,q2⟩
                      have hl:(loadVar t ⟨b,0,none⟩).run P w = .ok v w:=by
                        simpa [Instr.loadAt,Instr.sureAddr] using aqJ
                      have hg:(VC a.tmps (.cell c t)).run P w = .ok v w:=by
                        simp only [VC,Sem.run_bind,hv,asAddr,Sem.run_pure,Result.andThen_ok,hl]
                      simp only [List.mapM_cons,Sem.run_bind,hg,Result.andThen_ok,q1,Sem.run_pure]
                cases ha:cU P t with
                | none=>rw [ha] at hy; simp only at hy; cases h1 <;> simp [fK] at hy
                | some ag =>
                  rw [ha] at hy
                  cases ag with
                  | true =>
                    exact main (.agg ds) (.agg arr.toList.toArray) ⟨arr.toList,rfl,hr⟩ (MR ha hn (fun j v hj=>by rw [Nat.zero_add]; exact yl hh j v hj) hal) hy
                  | false =>
                    cases ds with
                    | nil=>simp only at hy; cases h1 <;> simp [fK] at hy
                    | cons d ds =>
                      cases ds with
                      | nil =>
                        obtain ⟨u,hu⟩:∃ u,arr.toList=[u]:=by
                          have:=hr.1
                          cases hq:arr.toList with
                          | nil=>rw [hq] at this; simp at this
                          | cons u us =>
                            cases us with
                            | nil=>exact ⟨u,rfl⟩
                            | cons _ _=>rw [hq] at this; simp at this
                        rw [hu] at hr
                        exact main (.v d) u (hr.of_cons.1) (MS ha (yl hh 0 u (by rw [hu]; rfl))) hy
                      | cons d2 ds=>simp only at hy; cases h1 <;> simp [fK] at hy
          | none=>rw [ho] at hy; simp at hy
          | gone=>rw [ho] at hy; simp at hy
          | chain _ _ _ _=>rw [ho] at hy; simp at hy
          | row _ _ _ _=>rw [ho] at hy; simp at hy
          | mp _ _ _=>rw [ho] at hy; simp at hy
          | rows _ _ _ _=>rw [ho] at hy; simp at hy
        | _=>rw [hs] at hy; simp at hy
      | _=>rw [hs] at hy; simp at hy
    | _=>cases hy
theorem jH {fn:Func} (h:SR P N G s a w ρ S F) {τ:Ty} {y:τ.den} (hy:jT P fn.results.toList τ s=some y) :
  ∃ us,(results fn a.tmps).run P w = .ok (pack us) w/\R P τ S w y us:=by
 obtain ⟨us,h1,h2⟩:=KS h hy
 refine ⟨us,?_,h2⟩
 have aBD:results fn a.tmps=(do let vs <- fn.results.mapM (VC a.tmps); pure (if h:vs.size=1 then vs[0] else .tuple vs)):=by
  unfold results
  congr 2
 rw [aBD,Array.mapM_eq_mapM_toList,Sem.run_bind,Sem.run_map,h1]
 simp only [Result.andThen_ok,Sem.run_pure]
 cases us with
 | nil=>rfl
 | cons u us=>cases us <;> rfl
theorem eV.put {n0 D:Nat}:∀ {ds:List gx} {dd:List Deferred},eV n0 w heap ρ F ds dd->D ∉ marksOf dd->eV n0 (w.putObj D (.deferred none)) heap ρ F ds dd
 | [],[],_,_=>trivial
 | .mark :: r,d :: ds,⟨⟨D',h1,h2,h3,h4,h5⟩,h⟩,hn=>by
  subst h1
  simp only [marksOf,List.filterMap_cons,List.mem_cons,not_or] at hn
  exact ⟨⟨D',rfl,h2,h3,(World.putObj_heap_other (fun e=>hn.1 e.symm)).trans h4,h5⟩,eV.put h hn.2⟩
 | .nE f ids :: r,d :: ds,⟨⟨us,h1,h2⟩,h⟩,hn=>by
  subst h1
  exact ⟨⟨us,rfl,h2⟩,eV.put h (by simpa [marksOf] using hn)⟩
 | [],_ :: _,h,_=>h.elim
 | .mark :: _,[],h,_=>h.elim
 | .nE _ _ :: _,[],h,_=>h.elim
theorem SR.take (hG:G.Ok P) (h:SR P N G s a w ρ S F) {D:Nat} (h0:G.w0.heap.size<=D) (hF:¬ F D) (hD:w.heap[D]? = some (.deferred (some []))) {r:List gx} {ds:List Deferred} (hd:eV G.w0.heap.size (w.putObj D (.deferred none)) s.heap ρ F r ds) :
  SR P N G { s with aS:=r } { a with defers:=ds } (w.putObj D (.deferred none)) ρ S F:=by
 have hlt:=(Array.getElem?_eq_some_iff.1 hD).1
 have hne:∀ b,w.heap[b]? ≠ some (Obj.deferred (some []))->(w.putObj D (.deferred none)).heap[b]? = w.heap[b]? := fun b hb=>World.putObj_heap_other fun e=>hb (e ▸ hD)
 have hsz:(w.putObj D (.deferred none)).heap.size=w.heap.size:=by simp [World.putObj]
 have hcell:∀ b o,(w.putObj D (.deferred none)).cell? ⟨b,o,none⟩=w.cell? ⟨b,o,none⟩:=fun b o=>by
  by_cases hb:b=D
  ·subst hb
   have h2:(w.putObj b (.deferred none)).heap[b]? = some (.deferred none):=World.putObj_heap_same hlt
   simp [World.cell?,h2,hD]
  ·exact World.cell?_of_block (a:=⟨b,o,none⟩) (World.putObj_heap_other hb)
 have hsame:∀ Dm:Nat->Prop,¬ Dm D->eT Dm w (w.putObj D (.deferred none)):=fun Dm hn=>⟨rfl,rfl,rfl,by omega,fun k hk=>World.putObj_heap_other fun e=>hn (e ▸ hk)⟩
 have ex:Ext0 S w S (w.putObj D (.deferred none)):=⟨by omega,fun _ _ q=>q,fun b o _=>hcell b o,fun b o es c _ q=>(hne b (by rw [q]; simp)).trans q,fun b o q=>by rw [hsz]; exact h.bd b o q,.putObj hlt (fun _ _ _=>by simp)⟩
 have hk:∀ id,Kept w (w.putObj D (.deferred none)) ρ ρ id (s.heap id) (s.heap id):=fun id=>.refl rfl fun b hb hl=>hne b (h.eE hl hb).2.2
 refine ⟨h.size,hd,fun t=>(h.env t).tr ex hk,fun id=>(h.obj id).tr ex hk rfl fun b hb=>⟨hne b (h.gD hb).2.2,fun i q=>q,fun x=>x⟩,fun i j b hi hj=>h.inj i j b (hi.back rfl fun b q1 q2=>hne b (h.eE q2 q1).2.2) (hj.back rfl fun b q1 q2=>hne b (h.eE q2 q1).2.2),h.ext.trans ex,h.new,
  h.same.trans (hsame _ fun q=>by omega),h.tr.tr hG.c h.fb (hsame _ hF) ex,fun b x=>by rw [hsz]; exact h.fb b x,h.f0,h.sub,h.fs,h.pins⟩
def gH:List gx->Bool
 | []=>true
 | .mark :: r=>gH r
 | _ :: _=>false
theorem gr (hG:G.Ok P) {fn:Func} {n:Nat} {K:Ending->World->Prop} {u:FrameMode} (hu:u ≠ .run):∀ (r:List gx) {s:St} {a:Act} {w:World},s.aS=r->gH r=true->SR P N G s a w ρ S F ->
  (∀ w',SR P N G { s with aS:=[] } { a with defers:=[] } w' ρ S F->(∀ τ x v,R P τ S w x v->R P τ S w' x v)->LeavesInM Fence.wide n P fn a.tmps K [] u w')->LeavesInM Fence.wide n P fn a.tmps K a.defers u w
 | [],s,a,w,hr,_,h,hK=>by
  have hd:=h.aS
  rw [hr] at hd
  cases qV:a.defers with
  | cons d ds=>rw [qV] at hd; exact hd.elim
  | nil =>
   refine hK w ?_ fun _ _ _ q=>q
   have:({ a with defers:=[] }:Act)=a:=by cases a; simp only at qV; subst qV; rfl
   rw [this]
   exact h.of_eq rfl rfl rfl hr.symm
 | .nE f ids :: r,s,a,w,hr,hm,h,hK=>by cases hm
 | .mark :: r,s,a,w,hr,hm,h,hK=>by
  have hd:=h.aS
  rw [hr] at hd
  cases qV:a.defers with
  | nil=>rw [qV] at hd; exact hd.elim
  | cons d ds =>
   rw [qV] at hd
   obtain ⟨⟨D,rfl,h2,h3,h4,h5⟩,lW⟩:=hd
   have ht:=h.take hG h2 h3 h4 (lW.put h5)
   refine ⟨hu,.inl ⟨D,_,rfl,run_takeDeferred h4,?_⟩⟩
   refine gr hG hu r (s:={ s with aS:=r }) (a:={ a with defers:=ds }) rfl hm ht fun w' q1 q2=>hK w' q1 fun τ x v q=>q2 τ x v (q.mono ?_)
   have hlt:=(Array.getElem?_eq_some_iff.1 h4).1
   have hsz:(w.putObj D (.deferred none)).heap.size=w.heap.size:=by simp [World.putObj]
   refine ⟨by omega,fun _ _ q=>q,fun b o _=>?_,fun b o es c _ q=>(World.putObj_heap_other fun e=>by rw [e,h4] at q; cases q).trans q,fun b o q=>by rw [hsz]; exact h.bd b o q,.putObj hlt (fun _ _ _=>by simp)⟩
   by_cases hb:b=D
   ·subst hb
    have h2:(w.putObj b (.deferred none)).heap[b]? = some (.deferred none):=World.putObj_heap_same hlt
    simp [World.cell?,h2,h4]
   ·exact World.cell?_of_block (a:=⟨b,o,none⟩) (World.putObj_heap_other hb)
def Zs (P:Program) (fn:Func) (τ:Ty):Out->Tree (Option τ.den)
 | .ret s | .norm s=>match gH s.aS with
  | true=>.leaf (jT P fn.results.toList τ (mK fn s))
  | false=>.leaf none
 | _=>.leaf none
def aI (P:Program) (E:cO) (Γ:Ctx) (fn:Func) (ls:List Loop) (τa τr:Ty) (x:τa.den):Tree (Option τr.den):=
 match fn.body with
 | some c=>gF P E Γ 0 fn.ntmps .any c ls (Fo τa x) (Zs P fn τr)
 | none=>.leaf none
theorem QI (s:St) (t:Nat):(rB s t).aS=s.aS:=by
 unfold rB; split
 ·split
  ·split <;> rfl
  ·rfl
 ·split <;> rfl
 ·rfl
theorem iB:∀ (ts:List Nat) (s:St),(er s ts).aS=s.aS
 | [],_=>rfl
 | t :: ts,s=>(iB ts _).trans (QI s t)
theorem SR.Nt {M:Nat->Prop} (h:SR P N (Gh.start S w) s a w' ρ S' F):Ext S w S' w'/\Below w.heap.size w w':=
 ⟨⟨h.ext,fun b o q=>(h.new b o q).elim .inl fun q=>q.elim .inr fun q=>q.elim⟩,((show eT _ w w' from h.same).mono fun k hk=>⟨hk,fun q=>q,fun q=>q⟩).below⟩
theorem qA:∀ (rs:List ResultVar) (τ:Ty) (s:St) (d:List gx),jT P rs τ { s with aS:=d }=jT P rs τ s
 | [],.nil,_,_=>rfl
 | .tmp t :: rs,.cons h tl,s,d=>by simp only [jT,qA rs tl s d]
 | .cell t T :: rs,.cons h tl,s,d=>by simp only [jT,qA rs tl s d]
 | [],.cons _ _,_,_=>rfl
 | [],.int _,_,_=>rfl
 | [],.bool,_,_=>rfl
 | [],.sl _,_,_=>rfl
 | [],.ptr _,_,_=>rfl
 | [],.agg _,_,_=>rfl
 | [],.fn _ _,_,_=>rfl
 | [],.seq _,_,_=>rfl
 | [],.map _ _,_,_=>rfl
 | [],.xV,_,_=>rfl
 | r :: _,.nil,_,_=>by cases r <;> rfl
 | r :: _,.int _,_,_=>by cases r <;> rfl
 | r :: _,.bool,_,_=>by cases r <;> rfl
 | r :: _,.sl _,_,_=>by cases r <;> rfl
 | r :: _,.ptr _,_,_=>by cases r <;> rfl
 | r :: _,.agg _,_,_=>by cases r <;> rfl
 | r :: _,.fn _ _,_,_=>by cases r <;> rfl
 | r :: _,.seq _,_,_=>by cases r <;> rfl
 | r :: _,.map _ _,_,_=>by cases r <;> rfl
 | r :: _,.xV,_,_=>by cases r <;> rfl
theorem vX {S:CS} {w:World} (hm:P.follows .mixedOrders=true) (hΓ:Sound P Γ) (hE:fI P E.eq) (hK:ez P E.key) {f:FuncId} {fn:Func} {c:Code} (hf:P.funcs[f]? = some fn) (hb:fn.body=some c) {ls:List Loop}
    (hl:iW P fn.ntmps (Gh.start S w) f Fence.wide 0 c ls)
    (oW:ee) (hn:oW.args.cells<=fn.ntmps) (h:∀ x,oW.pre x=true->(aI P E Γ fn ls oW.args oW.res x).kE (· = some (oW.fn x))) (hbd:Bd S w):∀ (x:oW.args.den) (vs:List Value),oW.pre x=true->R P oW.args S w x vs ->
    Calls P f vs.toArray w (fun e w'=>∃ S' rs,e = .returned (pack rs)/\R P oW.res S' w' (oW.fn x) rs/\Ext S w S' w'/\Below w.heap.size w w'):=by
  intro x vs hp hr
  have hx:=h x hp
  unfold aI at hx
  rw [hb] at hx
  refine (callsIn_wide (n:=0)).1 (fN hf hb trivial ?_)
  have hi:=SH (N:=fn.ntmps) hbd hr (by rw [hr.len]; exact hn)
  have sY:Env P E Γ (Gh.start S w) Fence.wide:=⟨hm,hΓ,hE,hK,jS,.wide,fun _=>rfl⟩
  refine dG (dy (G:=Gh.start S w) (K:=Zs P fn oW.res) (ch:=Tree.any) (T:=fun t:Tree (Option oW.res.den)=>t.kE (· = some (oW.fn x))) sY (fun a b q=>q) ⟨(fun q=>by cases (show none=some _ from q)),(fun s' q=>by cases (show none=some _ from q))⟩ hx hl ⟨_,_,_,hi⟩) ?_
  rintro e a' w' ⟨o,ho,hT⟩
  have fin:∀ s,SX P fn.ntmps (Gh.start S w) s a' w'->(match gH s.aS with
        | true=>Tree.leaf (jT P fn.results.toList oW.res (mK fn s))
        | false=>.leaf none).kE (· = some (oW.fn x)) ->
      LeavesInM Fence.wide 0 P fn a'.tmps (fun e w'=>∃ S' rs,e = .returned (pack rs)/\R P oW.res S' w' (oW.fn x) rs/\Ext S w S' w'/\Below w.heap.size w w') a'.defers .returning w':=by
    intro s hs hT
    cases hall:gH s.aS with
    | false=>rw [hall] at hT; cases (show none=some _ from hT)
    | true =>
      rw [hall] at hT
      have hT:jT P fn.results.toList oW.res (mK fn s)=some (oW.fn x):=hT
      obtain ⟨ρ,S',F,hs⟩:=hs.er jS (rP fn.results.toList)
      refine gr jS (by simp) _ rfl (by rw [iB]; exact hall) hs fun w'' q1 _=>?_
      obtain ⟨us,r1,r2⟩:=jH (s:={ mK fn s with aS:=[] }) (fn:=fn) (τ:=oW.res) (y:=oW.fn x) q1 ((qA ..).trans hT)
      obtain ⟨e1,e2⟩:=q1.Nt (M:=fun _=>False)
      exact ⟨_,r1,S',us,rfl,r2,e1,e2⟩
  cases o with
  | norm s=>cases e <;> first | exact ho.elim | exact fin s ho hT
  | ret s=>cases e <;> first | exact ho.elim | exact fin s ho hT
  | exit id s=>cases (show none=some _ from hT)
  | cw d s=>cases (show none=some _ from hT)
  | bad=>cases (show none=some _ from hT)
theorem KT (hm:P.follows .mixedOrders=true) (hΓ:Sound P Γ) (hE:fI P E.eq) (hK:ez P E.key) {f:FuncId} {fn:Func} {c:Code} (hf:P.funcs[f]? = some fn) (hb:fn.body=some c) {ls:List Loop}
  (hl:∀ S w,iW P fn.ntmps (Gh.start S w) f Fence.wide 0 c ls)
  (oW:ee) (hn:oW.args.cells<=fn.ntmps) (h:∀ x,oW.pre x=true->(aI P E Γ fn ls oW.args oW.res x).kE (· = some (oW.fn x))):Holds P f oW:=
 fun _ _ hbd=>vX hm hΓ hE hK hf hb (hl _ _) oW hn h hbd
end Go.Dm

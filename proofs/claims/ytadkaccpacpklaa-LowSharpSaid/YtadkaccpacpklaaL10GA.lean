/-
 Each function of the program as a Lean function,and that its calls come to what that says.
-/
import Derived.Test.YtadkaccpacpklaaFwF
import Derived.Test.YtadkaccpacpklaaProg
set_option linter.unusedVariables false
set_option linter.unusedSimpArgs false
namespace Go.Dm
open Go.RowKit Go.Proofs
noncomputable def E0:cO:={ eq:=eqTy Try.prog,key:=Zb Try.prog,aS:=true }
abbrev tI:Ty:=.int .i64
theorem aA:Try.prog.follows .mixedOrders=true:=by kernel_rfl
set_option maxRecDepth 100000
abbrev ZD (p:List aL):Type:=(aa p).den
abbrev ZJ (c v p:List aL):Type:=ZD c->ZD v->ZD p
abbrev ZS (c v p:List aL):Type:=ZD p->ZD c×ZD v
abbrev ZE (c:List aL) (v y:aO):Type:=(id:Nat)->ZD c->ZD (dB v id)->ZD (dB y id)
def ZI {α β:Type}:α->β->β:=fun _ y=>y
def jm {α β:Type} {τ:Ty}:α->β->τ.den:=fun _ _=>τ.dflt
def ZA:(c v:List aL)->ZD c->ZD v->ZD (c ++ v)
 | [],_,_,v=>v
 | _ :: cs,vs,c,v=>(c.1,ZA cs vs c.2 v)
def ZF:(c v:List aL)->ZD (c ++ v)->ZD c
 | [],_,_=>()
 | _ :: cs,vs,x=>(x.1,ZF cs vs x.2)
def ZV:(c v:List aL)->ZD (c ++ v)->ZD v
 | [],_,x=>x
 | _ :: cs,vs,x=>ZV cs vs x.2
def ZP (c v:List aL) (x:ZD (c ++ v)):ZD c×ZD v:=(ZF c v x,ZV c v x)
structure zq (i:FuncId) (f:Func) (c:Code):Prop where
 a:Try.prog.funcs[i]? = some f
 b:f.body=some c
 c:aE Try.prog i
noncomputable def zo (f:Func):Code:=f.body.getD .skip
theorem zu {i:FuncId} {f:Func} {c:Code} (h:Try.prog.funcs[i]? = some f:=by kernel_rfl) (b:f.body=some c:=by kernel_rfl) (h1:(f.name == "runtime.NumGoroutine")=false:=by kernel_rfl) (h2:f.body.isNone=false:=by kernel_rfl):zq i f c:=
 ⟨h,b,az h h1 h2⟩
abbrev SP (G:Ctx):Prop:=Sound Try.prog G
theorem fa {α:Type} {p:α->Prop} {a:α} {l:List α} (h:p a/\∀ x∈l,p x):∀ x∈a :: l,p x:=List.forall_mem_cons.2 h
theorem f0 {α:Type} {p:α->Prop}:∀ x∈([]:List α),p x:=fun _ h=>by cases h
abbrev QO (G:Ctx) (f:Func) (ls:List Loop) (a r:Ty) (Q:(Option r.den->Tree (Option r.den))->(Tree (Option r.den)->Tree (Option r.den)->Tree (Option r.den))->a.den->Tree (Option r.den)):Prop:=∀ x,aI Try.prog E0 G f ls a r x=Q .leaf .any x
abbrev MO (G:Ctx) (f:Func) (ls:List Loop) {a r:Ty} (M:a.den->Option r.den):Prop:=∀ x,(aI Try.prog E0 G f ls a r x).sure=M x
def pO {α β:Type} (M:α->Option β) (x:α):Bool:=(M x).isSome
def vO {α:Type} {τ:Ty} (M:α->Option τ.den) (x:α):τ.den:=(M x).getD τ.dflt
theorem hO {i:FuncId} {f:Func} {c:Code} {ls:List Loop} {G:Ctx} {a r:Ty} {M:a.den->Option r.den} (o:zq i f c) (g:SP G) (hM:MO G f ls M)
  (hl:∀ G':Gh,G'.lo=0->G'.lU->Env Try.prog E0 G G' Fence.wide->iW Try.prog f.ntmps G' i Fence.wide 0 c ls) (hn:Nat.ble a.cells f.ntmps=true:=by kernel_rfl):Holds Try.prog i (gU M):=
 aC (E:=E0) aA g aB au o.a o.b hn hM hl
theorem l0 {P:Program} {E:cO} {Γ:Ctx} {N i:Nat} {c:Code} (h:af c=[]:=by kernel_rfl):∀ G':Gh,G'.lo=0->G'.lU->Env P E Γ G' Fence.wide->iW P N G' i Fence.wide 0 c []:=fun _ _ _ _=>ai (by rw [h]; exact .nil)
theorem ln {P:Program} {N r:Nat} {i:FuncId} {G:Gh} {F:Fence} {c:Code} (h:af c=[]):iW P N G i F r c []:=ai (by rw [h]; exact .nil)
abbrev ZO (G:Ctx) (lo N:Nat) {cs vs ps:List aL} {wv wy:aO} (b:Code) (ls:List Loop) (j:ZJ cs vs ps) (je:ZE cs wv wy) (jr:ZD cs->ZD wv.ret->ZD wy.ret) (jp:ZD cs->ZD wv.cw->ZD wy.cw) (Z:(RQ vs wv->Tree (RQ ps wy))->(Tree (RQ ps wy)->Tree (RQ ps wy)->Tree (RQ ps wy))->ZD cs->ZD vs->Tree (RQ ps wy)):Prop:=
 ∀ c v,aU Try.prog E0 G lo N [] ps wy b ls (j c v)=Z (fun r=>.leaf (r.lift j je jr jp c)) .any c v
abbrev SO (G:Ctx) (lo N:Nat) {cs vs ps:List aL} {wv wy:aO} (b:Code) (ls:List Loop) (j:ZJ cs vs ps) (je:ZE cs wv wy) (jr:ZD cs->ZD wv.ret->ZD wy.ret) (jp:ZD cs->ZD wv.cw->ZD wy.cw) (S:ZD cs->ZD vs->RQ vs wv):Prop:=
 ∀ c v,bu (aU Try.prog E0 G lo N [] ps wy b ls (j c v))=(S c v).lift j je jr jp c
theorem lv {Γ:Ctx} {N:Nat} {G:Gh} {i:FuncId} {Fw:Fence} {r lo:Nat} {cs vs ps:List aL} {wv wy:aO} {b:Code} {ls:List Loop} {j:ZJ cs vs ps} {je:ZE cs wv wy} {jr:ZD cs->ZD wv.ret->ZD wy.ret} {jp:ZD cs->ZD wv.cw->ZD wy.cw} {hr:Bool} {S:ZD cs->ZD vs->RQ vs wv}
  (hE:Env Try.prog E0 Γ G Fw) (ht:G.lU) (hlo:G.lo=lo) (hls:iW Try.prog N G i Fw r b ls) (sp:ZS cs vs ps) (s:SO Γ lo N b ls j je jr jp S) (hps:WU [] false ps=true:=by kernel_rfl) (hwy:wy.wf [] false=true:=by kernel_rfl)
  (h1:∀ x,j (sp x).1 (sp x).2=x:=by exact fun _=>rfl) (h2:∀ c v,sp (j c v)=(c,v):=by exact fun _ _=>rfl) :
  gX Try.prog N G i Fw r (.loop b) (bF lo [] ps fun x=>aJ wy je jr jp [] hr (sp x).1 (aH (S (sp x).1) cz (sp x).2) wy.bw):=
 bE hE ht hlo hls hps hwy sp h1 h2 s cz
def lk (lo:Nat) {cs vs ps:List aL} {wv wy:aO} (je:ZE cs wv wy) (jr:ZD cs->ZD wv.ret->ZD wy.ret) (jp:ZD cs->ZD wv.cw->ZD wy.cw) (hr:Bool) (sp:ZS cs vs ps) (L:ZD cs->ZD vs->LQ wv):Loop:=.known (bF lo [] ps fun x=>aJ wy je jr jp [] hr (sp x).1 (L (sp x).1 (sp x).2) wy.bw)
theorem pM:(type_of% @cM)/\(type_of% @cN)/\(type_of% @dK)/\(type_of% @bH)/\(type_of% @bT)/\(type_of% @dL)/\(type_of% @bI)/\(type_of% @bU):=
 ⟨@cM,@cN,@dK,@bH,@bT,@dL,@bI,@bU⟩
theorem iO:(type_of% @bM)/\(type_of% @dh)/\(type_of% @aX)/\(type_of% @bz)/\(type_of% @aY)/\(type_of% @aZ)/\(type_of% @bA)/\(type_of% @bf)/\(type_of% @bN)/\(type_of% @bg):=
 ⟨@bM,@dh,@aX,@bz,@aY,@aZ,@bA,@bf,@bN,@bg⟩
abbrev sR:Ty:=.cons tI .nil
abbrev Py:Ty:=.cons tI (.cons tI (.cons tI (.cons tI (.cons tI (.cons tI .nil)))))
abbrev Tc:Ty:=.cons tI (.cons (.sl Py) .nil)
abbrev tS:Ty:=.cons (.sl Tc) (.cons tI (.cons tI (.cons tI (.cons tI .nil))))
abbrev tK:Ty:=.cons (.sl Tc) (.cons tI (.cons tI (.cons tI (.cons tI (.cons (.sl (.cons (.sl sR) .nil)) .nil)))))
abbrev tKo:Ty:=.cons (.sl Tc) (.cons tI (.cons tI (.cons tI (.cons tI (.cons .xV .nil)))))
abbrev fD:Ty:=.cons (.agg tK) .nil
noncomputable def c64:=zo Try.f64
theorem VM:zq 64 Try.f64 c64:=zu
abbrev T0:Ty:=(.cons tI .nil)
abbrev T1:Ty:=(.cons tI T0)
abbrev T2:Ty:=(.cons tI T1)
abbrev T3:Ty:=(.cons .bool .nil)
abbrev a64:Ty:=T2
abbrev r64:Ty:=T3
noncomputable def G64:Ctx:=Ctx.of []
theorem g64:SP G64:=aD f0
def Q64 {α:Type} (l:Option (r64).den->α) (an:α->α->α) (x:(a64).den):α:=bif (decide (x.2.1<=x.1)) then l (some ((decide (x.1<=x.2.2.1)),())) else l (some (false,()))
theorem q64:QO G64 Try.f64 [] a64 r64 Q64:=fun _=>by kernel_rfl
def Kk (x:(a64).den):Option (r64).den:=Q64 (fun r=>r) (fun _ _=>none) x
theorem m64:MO G64 Try.f64 [] Kk:=fun x=>by rw [q64]; unfold Kk Q64; simp only [Tree.sure,iO]
def p64:=pO Kk
def v64:=vO (τ:=r64) Kk
def k64:ee:=⟨a64,r64,p64,v64⟩
theorem h64:Holds Try.prog 64 k64:=hO VM g64 m64 l0
noncomputable def adr:=zo Try.f120
theorem aiF:zq 120 Try.f120 adr:=zu
abbrev T4:Ty:=(.cons tI T2)
abbrev T5:Ty:=(.cons tI T4)
abbrev T6:Ty:=(.cons tI T5)
abbrev T7:Ty:=(.agg T6)
abbrev T8:Ty:=(.cons T7 .nil)
abbrev T9:Ty:=(.fn T8 T3)
abbrev T10:Ty:=(.cons T9 .nil)
abbrev T11:Ty:=(.cons (.sl T6) T10)
abbrev Hg:Ty:=T11
abbrev IT:Ty:=T0
noncomputable def Td:Ctx:=Ctx.of []
theorem avg:SP Td:=aD f0
noncomputable def Du:Code:=aG ((af (adr))[0]?)
theorem Xs:af (Du)=[]:=by kernel_rfl
abbrev jU:List aL:=[.slot 0 (.pc (.sl T6)),.slot 1 (.pc T9),.slot 7 (.pc tI)]
abbrev fJ:List aL:=[.slot 8 (.pc tI)]
abbrev vG:List aL:=jU ++ fJ
def Gt:ZJ jU fJ vG:=ZA _ _
def zx:ZS jU fJ vG:=ZP _ _
abbrev wu:aO:=⟨[(0,[])],[.slot 4 (.pc tI)],[]⟩
abbrev jJ:aO:=⟨[(0,[])],[.slot 4 (.pc tI)],[]⟩
def Dv:ZE jU jJ wu:=fun id=>match id with | 0=>fun c y=>y | _=>jm
def yN {α:Type} (l:RQ fJ jJ->α) (an:α->α->α) (c:ZD jU) (v:ZD fJ):α:=bif (decide (v.1 < c.2.2.1)) then bif (decide (((0:Int)<=v.1)/\(v.1 < ((c.1.n:Nat):Int)))) then bif (c.2.1 ((c.1.g (Int.toNat v.1)),())).1 then bif (c.2.1 ((c.1.g (Int.toNat v.1)),())).2.1 then l (.out (.ret v)) else l (.next ((W (v.1 + (1:Int))),())) else l .bad else l .bad else l (.out (.exit 0 ()))
theorem ads:ZO Td 0 19 Du [] Gt Dv ZI ZI yN:=fun _ _=>by kernel_rfl
def yO (c:ZD jU) (v:ZD fJ):RQ fJ jJ:=yN (fun r=>r) (fun _ _=>.bad) c v
theorem adt:SO Td 0 19 Du [] Gt Dv ZI ZI yO:=fun c v=>by rw [ads]; unfold yO yN; simp only [bu,aM,pM]
def yP (c:ZD jU) (v:ZD fJ):LQ jJ:=aH (yO c) cz v
theorem ald:af (adr)=[.loop Du]:=by kernel_rfl
noncomputable def ale:List Loop:=[lk 0 Dv ZI ZI true zx yP]
def Xt {α:Type} (l:Option (IT).den->α) (an:α->α->α) (x:(Hg).den):α:=aF (yP (x.1,(x.2.1,(((x.1.n:Nat):Int),()))) ((0:Int),())) 0 (fun u0=>l (some ((-1:Int),()))) (bS (yP (x.1,(x.2.1,(((x.1.n:Nat):Int),()))) ((0:Int),())) (fun u1=>l (some u1)) (l none))
theorem avh:QO Td Try.f120 ale Hg IT Xt:=fun _=>by kernel_rfl
def Lg (x:(Hg).den):Option (IT).den:=Xt (fun r=>r) (fun _ _=>none) x
theorem avi:MO Td Try.f120 ale Lg:=fun x=>by rw [avh]; unfold Lg Xt; simp only [Tree.sure,iO]
def avj:=pO Lg
def avk:=vO (τ:=IT) Lg
def alf:ee:=⟨Hg,IT,avj,avk⟩
theorem avl:Holds Try.prog 120 alf:=hO aiF avg avi fun G' hlo hF hE=>ai (by rw [ald]; exact .cons (lv hE hF hlo (ln Xs) zx adt) (.nil))
noncomputable def aot:=zo Try.f102
theorem aiG:zq 102 Try.f102 aot:=zu
abbrev Hh:Ty:=T11
abbrev IU:Ty:=T3
noncomputable def adu:Ctx:=Ctx.of [(120,.pure alf)]
theorem avm:SP adu:=aD (fa ⟨⟨aiF.c,avl⟩,f0⟩)
def Xu {α:Type} (l:Option (IU).den->α) (an:α->α->α) (x:(Hh).den):α:=cl (IT).dflt (Lg x) (fun u0=>l (some ((decide ((0:Int)<=u0.1)),()))) (l none)
theorem avn:QO adu Try.f102 [] Hh IU Xu:=fun _=>by kernel_rfl
def Hi (x:(Hh).den):Option (IU).den:=Xu (fun r=>r) (fun _ _=>none) x
theorem avo:MO adu Try.f102 [] Hi:=fun x=>by rw [avn]; unfold Hi Xu; simp only [Tree.sure,iO]
def avp:=pO Hi
def adv:=vO (τ:=IU) Hi
def alg:ee:=⟨Hh,IU,avp,adv⟩
theorem avq:Holds Try.prog 102 alg:=hO aiG avm avo l0
noncomputable def aou:=zo Try.f104
theorem aiH:zq 104 Try.f104 aou:=zu
abbrev T12:Ty:=(.agg T1)
abbrev T13:Ty:=(.cons T12 T0)
abbrev Hj:Ty:=T13
abbrev BX:Ty:=T3
noncomputable def adw:Ctx:=Ctx.of []
theorem avs:SP adw:=aD f0
def adx {α:Type} (l:Option (BX).den->α) (an:α->α->α) (x:(Hj).den):α:=bif (decide ((0:Int)<=x.1.1)) then bif (decide (x.1.1<=x.1.2.1)) then l (some ((decide (x.1.2.1<=x.2.1)),())) else l (some (false,())) else l (some (false,()))
theorem avt:QO adw Try.f104 [] Hj BX adx:=fun _=>by kernel_rfl
def Hl (x:(Hj).den):Option (BX).den:=adx (fun r=>r) (fun _ _=>none) x
theorem avu:MO adw Try.f104 [] Hl:=fun x=>by rw [avt]; unfold Hl adx; simp only [Tree.sure,iO]
def avv:=pO Hl
def avw:=vO (τ:=BX) Hl
def alh:ee:=⟨Hj,BX,avv,avw⟩
theorem avx:Holds Try.prog 104 alh:=hO aiH avs avu l0
noncomputable def aov:=zo Try.f103
theorem aiI:zq 103 Try.f103 aov:=zu
abbrev Ho:Ty:=T8
abbrev Me:Ty:=T3
noncomputable def ady:Ctx:=Ctx.of [(104,.pure alh)]
theorem avy:SP ady:=aD (fa ⟨⟨aiH.c,avx⟩,f0⟩)
def Xv {α:Type} (l:Option (Me).den->α) (an:α->α->α) (x:(Ho).den):α:=cl (BX).dflt (Hl ((x.1.1,(x.1.2.1,())),((100:Int),()))) (fun u0=>bif (!u0.1) then l (some (true,())) else cl (BX).dflt (Hl ((x.1.2.2.1,(x.1.2.2.2.1,())),((100:Int),()))) (fun u1=>bif (!u1.1) then l (some (true,())) else cl (BX).dflt (Hl (x.1.2.2.2.2,((99999:Int),()))) (fun u2=>l (some ((!u2.1),()))) (l none)) (l none)) (l none)
theorem avz:QO ady Try.f103 [] Ho Me Xv:=fun _=>by kernel_rfl
def Hp (x:(Ho).den):Option (Me).den:=Xv (fun r=>r) (fun _ _=>none) x
theorem avA:MO ady Try.f103 [] Hp:=fun x=>by rw [avz]; unfold Hp Xv; simp only [Tree.sure,iO]
def Dw:=pO Hp
def AM:=vO (τ:=Me) Hp
def ali:ee:=⟨Ho,Me,Dw,AM⟩
theorem avB:Holds Try.prog 103 ali:=hO aiI avy avA l0
noncomputable def c74:=zo Try.f74
theorem aa7:zq 74 Try.f74 c74:=zu
abbrev T14:Ty:=(.cons (.sl T6) .nil)
abbrev T15:Ty:=(.cons tI T14)
abbrev eX:Ty:=(.sl T15)
abbrev Xw:Ty:=(.cons eX T4)
abbrev PV:Ty:=(.agg Xw)
abbrev Jd:Ty:=(.cons PV .nil)
abbrev a74:Ty:=Jd
abbrev Wa:Ty:=T3
noncomputable def G74:Ctx:=Ctx.of [(64,.pure k64),(102,.pure alg),(103,.pure ali)]
theorem g74:SP G74:=aD (fa ⟨⟨VM.c,h64⟩,fa ⟨⟨aiG.c,avq⟩,fa ⟨⟨aiI.c,avB⟩,f0⟩⟩⟩)
noncomputable def Mm:Code:=aG ((af (c74))[0]?)
theorem adz:af (Mm)=[]:=by kernel_rfl
abbrev oh:List aL:=[.slot 1 (.ptr 1),.slot 7 (.pc eX),.slot 8 (.pc tI),.box 1 [.pc eX,.pc tI,.pc tI,.pc tI,.pc tI]]
abbrev ji:List aL:=[.slot 3 (.pc tI),.slot 9 (.pc tI)]
abbrev Bx:List aL:=oh ++ ji
def OY:ZJ oh ji Bx:=ZA _ _
def Gu:ZS oh ji Bx:=ZP _ _
abbrev CB:aO:=⟨[(0,[.slot 1 (.ptr 1),.box 1 [.pc eX,.pc tI,.pc tI,.pc tI,.pc tI]])],[.slot 2 (.pc .bool)],[]⟩
abbrev rY:aO:=⟨[(0,[])],[.slot 2 (.pc .bool)],[]⟩
def Lh:ZE oh rY CB:=fun id=>match id with | 0=>fun c y=>(c.1,(c.2.2.2.1,y)) | _=>jm
def Hq {α:Type} (l:RQ ji rY->α) (an:α->α->α) (c:ZD oh) (v:ZD ji):α:=bif (decide (v.2.1 < c.2.2.1)) then bif (decide (((0:Int)<=v.2.1)/\(v.2.1 < ((c.2.1.n:Nat):Int)))) then bif (decide ((c.2.1.g (Int.toNat v.2.1)).1<=v.1)) then l (.out (.ret (false,()))) else bif (decide ((200:Int) < (c.2.1.g (Int.toNat v.2.1)).1)) then l (.out (.ret (false,()))) else bif (decide ((3:Int) < (((c.2.1.g (Int.toNat v.2.1)).2.1.n:Nat):Int))) then l (.out (.ret (false,()))) else cl (IU).dflt (Hi ((c.2.1.g (Int.toNat v.2.1)).2.1,((fun y2=>((Dw y2),(AM y2))),()))) (fun u0=>bif (adv ((c.2.1.g (Int.toNat v.2.1)).2.1,((fun y3=>((Dw y3),(AM y3))),()))).1 then l (.out (.ret (false,()))) else l (.next ((c.2.1.g (Int.toNat v.2.1)).1,((W (v.2.1 + (1:Int))),())))) (l .bad) else l .bad else l (.out (.exit 0 ()))
theorem alk:ZO G74 0 60 Mm [] OY Lh ZI ZI Hq:=fun _ _=>by kernel_rfl
def Hr (c:ZD oh) (v:ZD ji):RQ ji rY:=Hq (fun r=>r) (fun _ _=>.bad) c v
theorem alm:SO G74 0 60 Mm [] OY Lh ZI ZI Hr:=fun c v=>by rw [alk]; unfold Hr Hq; simp only [bu,aM,pM]
def Hs (c:ZD oh) (v:ZD ji):LQ rY:=aH (Hr c) cz v
theorem avE:af (c74)=[.loop Mm]:=by kernel_rfl
noncomputable def l74:List Loop:=[lk 0 Lh ZI ZI true Gu Hs]
def Q74 {α:Type} (l:Option (Wa).den->α) (an:α->α->α) (x:(a74).den):α:=aF (Hs ((),(x.1.1,(((x.1.1.n:Nat):Int),(x.1,())))) ((-1:Int),((0:Int),()))) 0 (fun u1=>cl (r64).dflt (Kk (((x.1.1.n:Nat):Int),((1:Int),((4:Int),())))) (fun u2=>bif u2.1 then cl (r64).dflt (Kk (x.1.2.1,((0:Int),((50:Int),())))) (fun u3=>bif u3.1 then cl (r64).dflt (Kk (x.1.2.2.1,((0:Int),((1000:Int),())))) (fun u4=>bif u4.1 then cl (r64).dflt (Kk (x.1.2.2.2.1,((0:Int),((12:Int),())))) (fun u5=>bif u5.1 then cl (r64).dflt (Kk (x.1.2.2.2.2.1,((0:Int),((12:Int),())))) (fun u6=>l (some u6)) (l none) else l (some (false,()))) (l none) else l (some (false,()))) (l none) else l (some (false,()))) (l none) else l (some (false,()))) (l none)) (bS (Hs ((),(x.1.1,(((x.1.1.n:Nat):Int),(x.1,())))) ((-1:Int),((0:Int),()))) (fun u7=>l (some u7)) (l none))
theorem q74:QO G74 Try.f74 l74 a74 Wa Q74:=fun _=>by kernel_rfl
def WW (x:(a74).den):Option (Wa).den:=Q74 (fun r=>r) (fun _ _=>none) x
theorem m74:MO G74 Try.f74 l74 WW:=fun x=>by rw [q74]; unfold WW Q74; simp only [Tree.sure,iO]
def p74:=pO WW
def v74:=vO (τ:=Wa) WW
def k74:ee:=⟨a74,Wa,p74,v74⟩
theorem h74:Holds Try.prog 74 k74:=hO aa7 g74 m74 fun G' hlo hF hE=>ai (by rw [avE]; exact .cons (lv hE hF hlo (ln adz) Gu alm) (.nil))
noncomputable def aow:=zo Try.f133
theorem aiJ:zq 133 Try.f133 aow:=zu
abbrev T20:Ty:=(.cons T12 .nil)
abbrev Ht:Ty:=T8
abbrev IV:Ty:=T20
noncomputable def adB:Ctx:=Ctx.of []
theorem avF:SP adB:=aD f0
def adC {α:Type} (l:Option (IV).den->α) (an:α->α->α) (x:(Ht).den):α:=l (some ((x.1.1,(x.1.2.1,())),()))
theorem avG:QO adB Try.f133 [] Ht IV adC:=fun _=>by kernel_rfl
def Te (x:(Ht).den):Option (IV).den:=adC (fun r=>r) (fun _ _=>none) x
theorem avH:MO adB Try.f133 [] Te:=fun x=>by rw [avG]; unfold Te adC; simp only [Tree.sure,iO]
def avI:=pO Te
def avJ:=vO (τ:=IV) Te
def aln:ee:=⟨Ht,IV,avI,avJ⟩
theorem avK:Holds Try.prog 133 aln:=hO aiJ avF avH l0
noncomputable def aox:=zo Try.f134
theorem aiK:zq 134 Try.f134 aox:=zu
abbrev Hu:Ty:=T8
abbrev IW:Ty:=T20
noncomputable def adD:Ctx:=Ctx.of []
theorem avL:SP adD:=aD f0
def adE {α:Type} (l:Option (IW).den->α) (an:α->α->α) (x:(Hu).den):α:=l (some ((x.1.2.2.1,(x.1.2.2.2.1,())),()))
theorem avM:QO adD Try.f134 [] Hu IW adE:=fun _=>by kernel_rfl
def Tf (x:(Hu).den):Option (IW).den:=adE (fun r=>r) (fun _ _=>none) x
theorem avN:MO adD Try.f134 [] Tf:=fun x=>by rw [avM]; unfold Tf adE; simp only [Tree.sure,iO]
def avO:=pO Tf
def avP:=vO (τ:=IW) Tf
def alo:ee:=⟨Hu,IW,avO,avP⟩
theorem avQ:Holds Try.prog 134 alo:=hO aiK avL avN l0
noncomputable def aoy:=zo Try.f135
theorem aiL:zq 135 Try.f135 aoy:=zu
abbrev Hv:Ty:=T8
abbrev IX:Ty:=T20
noncomputable def adF:Ctx:=Ctx.of []
theorem avR:SP adF:=aD f0
def adG {α:Type} (l:Option (IX).den->α) (an:α->α->α) (x:(Hv).den):α:=l (some (x.1.2.2.2.2,()))
theorem avS:QO adF Try.f135 [] Hv IX adG:=fun _=>by kernel_rfl
def Tg (x:(Hv).den):Option (IX).den:=adG (fun r=>r) (fun _ _=>none) x
theorem avT:MO adF Try.f135 [] Tg:=fun x=>by rw [avS]; unfold Tg adG; simp only [Tree.sure,iO]
def avU:=pO Tg
def avV:=vO (τ:=IX) Tg
def alp:ee:=⟨Hv,IX,avU,avV⟩
theorem avW:Holds Try.prog 135 alp:=hO aiL avR avT l0
noncomputable def adH:=zo Try.f117
theorem aiM:zq 117 Try.f117 adH:=zu
abbrev a117:Ty:=T8
abbrev IY:Ty:=T8
noncomputable def adI:Ctx:=Ctx.of [(133,.pure aln),(134,.pure alo),(135,.pure alp)]
theorem avX:SP adI:=aD (fa ⟨⟨aiJ.c,avK⟩,fa ⟨⟨aiK.c,avQ⟩,fa ⟨⟨aiL.c,avW⟩,f0⟩⟩⟩)
noncomputable def Th:Code:=aG ((af (adH))[0]?)
theorem Xx:af (Th)=[]:=by kernel_rfl
theorem alq:af (adH)=[.loop Th]:=by kernel_rfl
noncomputable def alr:List Loop:=[.gW 4 []]
def adJ {α:Type} (l:Option (IY).den->α) (an:α->α->α) (x:(a117).den):α:=cl (IV).dflt (Te (x.1,())) (fun u0=>cl (IW).dflt (Tf (x.1,())) (fun u1=>cl (IX).dflt (Tg (x.1,())) (fun u2=>l (some ((u0.1.1,(u0.1.2.1,(u1.1.1,(u1.1.2.1,(u2.1.1,(u2.1.2.1,())))))),()))) (l none)) (l none)) (l none)
theorem avY:QO adI Try.f117 alr a117 IY adJ:=fun _=>by kernel_rfl
def Se (x:(a117).den):Option (IY).den:=adJ (fun r=>r) (fun _ _=>none) x
theorem avZ:MO adI Try.f117 alr Se:=fun x=>by rw [avY]; unfold Se adJ; simp only [Tree.sure,iO]
def av0:=pO Se
def v117:=vO (τ:=IY) Se
def als:ee:=⟨a117,IY,av0,v117⟩
theorem av1:Holds Try.prog 117 als:=hO aiM avX avZ fun G' hlo hF hE=>ai (by rw [alq]; exact .unr (ai (by rw [Xx]; exact .nil)) (.nil))
noncomputable def c94:=zo Try.f94
theorem PF:zq 94 Try.f94 c94:=zu
abbrev T21:Ty:=(.cons .xV .nil)
abbrev T22:Ty:=(.cons tI T21)
abbrev T23:Ty:=(.cons tI T22)
abbrev T24:Ty:=(.cons tI T23)
abbrev T25:Ty:=(.cons tI T24)
abbrev T26:Ty:=(.cons eX T25)
abbrev T27:Ty:=(.agg T26)
abbrev T28:Ty:=(.cons T27 T1)
abbrev a94:Ty:=T28
abbrev PW:Ty:=T8
noncomputable def G94:Ctx:=Ctx.of [(117,.pure als)]
theorem g94:SP G94:=aD (fa ⟨⟨aiM.c,av1⟩,f0⟩)
def Q94 {α:Type} (l:Option (PW).den->α) (an:α->α->α) (x:(a94).den):α:=bif (decide (((0:Int)<=x.2.1)/\(x.2.1 < ((x.1.1.n:Nat):Int)))) then bif (decide (((0:Int)<=x.2.2.1)/\(x.2.2.1 < (((x.1.1.g (Int.toNat x.2.1)).2.1.n:Nat):Int)))) then cl (IY).dflt (Se (((x.1.1.g (Int.toNat x.2.1)).2.1.g (Int.toNat x.2.2.1)),())) (fun u0=>l (some (u0.1,()))) (l none) else l none else l none
theorem q94:QO G94 Try.f94 [] a94 PW Q94:=fun _=>by kernel_rfl
def Sf (x:(a94).den):Option (PW).den:=Q94 (fun r=>r) (fun _ _=>none) x
theorem m94:MO G94 Try.f94 [] Sf:=fun x=>by rw [q94]; unfold Sf Q94; simp only [Tree.sure,iO]
def p94:=pO Sf
def v94:=vO (τ:=PW) Sf
def k94:ee:=⟨a94,PW,p94,v94⟩
theorem h94:Holds Try.prog 94 k94:=hO PF g94 m94 l0
noncomputable def adK:=zo Try.f118
theorem aaa:zq 118 Try.f118 adK:=zu
abbrev T29:Ty:=(.cons (.sl T0) T0)
abbrev Hw:Ty:=T29
abbrev Dx:Ty:=T0
noncomputable def Ti:Ctx:=Ctx.of []
theorem av3:SP Ti:=aD f0
noncomputable def Dy:Code:=aG ((af (adK))[0]?)
theorem Xy:af (Dy)=[]:=by kernel_rfl
abbrev jV:List aL:=[.slot 0 (.pc (.sl T0)),.slot 1 (.pc tI),.slot 7 (.pc tI)]
abbrev gY:List aL:=[.slot 8 (.pc tI)]
abbrev vH:List aL:=jV ++ gY
def Gv:ZJ jV gY vH:=ZA _ _
def zy:ZS jV gY vH:=ZP _ _
abbrev wz:aO:=⟨[(0,[])],[.slot 4 (.pc tI)],[]⟩
abbrev pV:aO:=⟨[(0,[])],[.slot 4 (.pc tI)],[]⟩
def Dz:ZE jV pV wz:=fun id=>match id with | 0=>fun c y=>y | _=>jm
def yQ {α:Type} (l:RQ gY pV->α) (an:α->α->α) (c:ZD jV) (v:ZD gY):α:=bif (decide (v.1 < c.2.2.1)) then bif (decide (((0:Int)<=v.1)/\(v.1 < ((c.1.n:Nat):Int)))) then bif (decide (c.2.1=(c.1.g (Int.toNat v.1)).1)) then l (.out (.ret v)) else l (.next ((W (v.1 + (1:Int))),())) else l .bad else l (.out (.exit 0 ()))
theorem adL:ZO Ti 0 19 Dy [] Gv Dz ZI ZI yQ:=fun _ _=>by kernel_rfl
def yR (c:ZD jV) (v:ZD gY):RQ gY pV:=yQ (fun r=>r) (fun _ _=>.bad) c v
theorem adM:SO Ti 0 19 Dy [] Gv Dz ZI ZI yR:=fun c v=>by rw [adL]; unfold yR yQ; simp only [bu,aM,pM]
def yS (c:ZD jV) (v:ZD gY):LQ pV:=aH (yR c) cz v
theorem alu:af (adK)=[.loop Dy]:=by kernel_rfl
noncomputable def alv:List Loop:=[lk 0 Dz ZI ZI true zy yS]
def Xz {α:Type} (l:Option (Dx).den->α) (an:α->α->α) (x:(Hw).den):α:=aF (yS (x.1,(x.2.1,(((x.1.n:Nat):Int),()))) ((0:Int),())) 0 (fun u0=>l (some ((-1:Int),()))) (bS (yS (x.1,(x.2.1,(((x.1.n:Nat):Int),()))) ((0:Int),())) (fun u1=>l (some u1)) (l none))
theorem av4:QO Ti Try.f118 alv Hw Dx Xz:=fun _=>by kernel_rfl
def Gq (x:(Hw).den):Option (Dx).den:=Xz (fun r=>r) (fun _ _=>none) x
theorem av5:MO Ti Try.f118 alv Gq:=fun x=>by rw [av4]; unfold Gq Xz; simp only [Tree.sure,iO]
def av6:=pO Gq
def av7:=vO (τ:=Dx) Gq
def adN:ee:=⟨Hw,Dx,av6,av7⟩
theorem adO:Holds Try.prog 118 adN:=hO aaa av3 av5 fun G' hlo hF hE=>ai (by rw [alu]; exact .cons (lv hE hF hlo (ln Xy) zy adM) (.nil))
noncomputable def c97:=zo Try.f97
theorem api:zq 97 Try.f97 c97:=zu
abbrev a97:Ty:=T29
abbrev WX:Ty:=T3
noncomputable def G97:Ctx:=Ctx.of [(118,.pure adN)]
theorem g97:SP G97:=aD (fa ⟨⟨aaa.c,adO⟩,f0⟩)
def Q97 {α:Type} (l:Option (WX).den->α) (an:α->α->α) (x:(a97).den):α:=cl (Dx).dflt (Gq x) (fun u0=>l (some ((decide ((0:Int)<=u0.1)),()))) (l none)
theorem q97:QO G97 Try.f97 [] a97 WX Q97:=fun _=>by kernel_rfl
def XA (x:(a97).den):Option (WX).den:=Q97 (fun r=>r) (fun _ _=>none) x
theorem m97:MO G97 Try.f97 [] XA:=fun x=>by rw [q97]; unfold XA Q97; simp only [Tree.sure,iO]
def p97:=pO XA
def v97:=vO (τ:=WX) XA
def k97:ee:=⟨a97,WX,p97,v97⟩
theorem h97:Holds Try.prog 97 k97:=hO api g97 m97 l0
noncomputable def alx:=zo Try.f110
theorem afA:zq 110 Try.f110 alx:=zu
abbrev nK:Ty:=(.cons (.sl T0) .nil)
abbrev qi:Ty:=nK
abbrev Mf:Ty:=nK
noncomputable def Tj:Ctx:=Ctx.of []
theorem aly:SP Tj:=aD f0
theorem abl:af (alx)=[]:=by kernel_rfl
noncomputable def XB:List Loop:=[]
def adP {α:Type} (l:Option (Mf).den->α) (an:α->α->α) (x:(qi).den):α:=bif (Nat.blt 0 x.1.n) then bif (decide ((x.1.n * 8)<=140737488355328)) then l (some x) else l none else an (l (some ((⟨0,fun i=>((0:Int),())⟩:Sl _),()))) (bif (decide ((x.1.n * 8)<=140737488355328)) then l (some x) else l none)
theorem av9:QO Tj Try.f110 XB qi Mf adP:=fun _=>by kernel_rfl
def XC (x:(qi).den):Option (Mf).den:=adP (fun r=>r) (fun _ _=>none) x
theorem awa:MO Tj Try.f110 XB XC:=fun x=>by rw [av9]; unfold XC adP; simp only [Tree.sure,iO]
def awb:=pO XC
def awc:=vO (τ:=Mf) XC
def awd:ee:=⟨qi,Mf,awb,awc⟩
theorem aLn:Holds Try.prog 110 awd:=hO afA aly awa fun G' hlo hF hE=>ai (by rw [abl]; exact .nil)
def aac {α:Type} (l:Option FR->α) (an:α->α->α) (x:(qi).den):α:=bif (Nat.blt 0 x.1.n) then bif (decide ((x.1.n * 8)<=140737488355328)) then l (some ⟨3,T0,x.1⟩) else l none else an (l (some ⟨3,T0,(⟨0,fun i=>((0:Int),())⟩:Sl (Ty.den T0))⟩)) (bif (decide ((x.1.n * 8)<=140737488355328)) then l (some ⟨3,T0,x.1⟩) else l none)
theorem awe (x:(qi).den):ab7 Try.prog E0 Tj Try.f110 XB 2 3 T0 qi x=aac .leaf .any x:=by kernel_rfl
def Mg (x:(qi).den):Option (Sl (Ty.den T0)):=aac (aiz 3 T0) anC x
theorem XD (x:(qi).den):(ab7 Try.prog E0 Tj Try.f110 XB 2 3 T0 qi x).qa 3 T0=Mg x:=by rw [awe]; unfold Mg aac; simp only [NC,Tree.qa]
theorem alz:fH Try.prog 110 (qU false Try.f110.ntmps qi 3 T0 Mg):=He (E:=E0) aA aly aB au afA.a afA.b (by kernel_rfl) (by kernel_rfl) (fun h=>by cases h) (fun G' hlo hF hE=>ai (by rw [abl]; exact .nil)) XD
noncomputable def c95:=zo Try.f95
theorem apk:zq 95 Try.f95 c95:=zu
abbrev T31:Ty:=(.cons T27 T0)
abbrev T32:Ty:=(.agg T2)
abbrev T33:Ty:=(.cons T32 .nil)
abbrev a95:Ty:=T31
abbrev r95:Ty:=T33
noncomputable def G95:Ctx:=Ctx.of []
theorem g95:SP G95:=aD f0
def Q95 {α:Type} (l:Option (r95).den->α) (an:α->α->α) (x:(a95).den):α:=l (some (((W (x.1.2.1 * x.2.1)),((W (x.1.2.1 * x.2.1)),((W (x.1.2.2.1 * x.2.1)),()))),()))
theorem q95:QO G95 Try.f95 [] a95 r95 Q95:=fun _=>by kernel_rfl
def M95 (x:(a95).den):Option (r95).den:=Q95 (fun r=>r) (fun _ _=>none) x
theorem m95:MO G95 Try.f95 [] M95:=fun x=>by rw [q95]; unfold M95 Q95; simp only [Tree.sure,iO]
def p95:=pO M95
def v95:=vO (τ:=r95) M95
def k95:ee:=⟨a95,r95,p95,v95⟩
theorem h95:Holds Try.prog 95 k95:=hO apk g95 m95 l0
noncomputable def c88:=zo Try.f88
theorem WY:zq 88 Try.f88 c88:=zu
abbrev T34:Ty:=(.cons T7 T0)
abbrev T35:Ty:=(.cons T27 T34)
abbrev a88:Ty:=T35
abbrev RP:Ty:=T8
noncomputable def G88:Ctx:=Ctx.of [(95,.pure k95)]
theorem g88:SP G88:=aD (fa ⟨⟨apk.c,h95⟩,f0⟩)
noncomputable def abp:Code:=aG ((af (c88))[0]?)
theorem adQ:af (abp)=[]:=by kernel_rfl
theorem awk:af (c88)=[.loop abp]:=by kernel_rfl
noncomputable def l88:List Loop:=[.gW 4 []]
def Q88 {α:Type} (l:Option (RP).den->α) (an:α->α->α) (x:(a88).den):α:=cl (r95).dflt (M95 ((x.1.1,(x.1.2.1,(x.1.2.2.1,(x.1.2.2.2.1,(x.1.2.2.2.2.1,((),())))))),x.2.2)) (fun u0=>l (some (((W (x.2.1.1 - u0.1.1)),((W (x.2.1.2.1 + u0.1.1)),((W (x.2.1.2.2.1 - u0.1.2.1)),((W (x.2.1.2.2.2.1 + u0.1.2.1)),((W (x.2.1.2.2.2.2.1 - u0.1.2.2.1)),((W (x.2.1.2.2.2.2.2.1 + u0.1.2.2.1)),())))))),()))) (l none)
theorem q88:QO G88 Try.f88 l88 a88 RP Q88:=fun _=>by kernel_rfl
def UQ (x:(a88).den):Option (RP).den:=Q88 (fun r=>r) (fun _ _=>none) x
theorem m88:MO G88 Try.f88 l88 UQ:=fun x=>by rw [q88]; unfold UQ Q88; simp only [Tree.sure,iO]
def p88:=pO UQ
def v88:=vO (τ:=RP) UQ
def k88:ee:=⟨a88,RP,p88,v88⟩
theorem h88:Holds Try.prog 88 k88:=hO WY g88 m88 fun G' hlo hF hE=>ai (by rw [awk]; exact .unr (ai (by rw [adQ]; exact .nil)) (.nil))
noncomputable def c96:=zo Try.f96
theorem aa8:zq 96 Try.f96 c96:=zu
abbrev a96:Ty:=T31
abbrev Wb:Ty:=T0
noncomputable def G96:Ctx:=Ctx.of []
theorem g96:SP G96:=aD f0
def Q96 {α:Type} (l:Option (Wb).den->α) (an:α->α->α) (x:(a96).den):α:=bif (decide (((0:Int)<=x.2.1)/\(x.2.1 < ((x.1.1.n:Nat):Int)))) then bif (decide (((0:Int)<=(W (x.2.1 - (1:Int))))/\((W (x.2.1 - (1:Int))) < ((x.1.1.n:Nat):Int)))) then l (some ((W ((x.1.1.g (Int.toNat x.2.1)).1 - (x.1.1.g (Int.toNat (W (x.2.1 - (1:Int))))).1)),())) else l none else l none
theorem q96:QO G96 Try.f96 [] a96 Wb Q96:=fun _=>by kernel_rfl
def WG (x:(a96).den):Option (Wb).den:=Q96 (fun r=>r) (fun _ _=>none) x
theorem m96:MO G96 Try.f96 [] WG:=fun x=>by rw [q96]; unfold WG Q96; simp only [Tree.sure,iO]
def p96:=pO WG
def v96:=vO (τ:=Wb) WG
def k96:ee:=⟨a96,Wb,p96,v96⟩
theorem h96:Holds Try.prog 96 k96:=hO aa8 g96 m96 l0
noncomputable def adR:=zo Try.f105
theorem Kr:zq 105 Try.f105 adR:=zu
abbrev OE:Ty:=T8
abbrev qS:List aL:=[.agg 0 Py,.slot 1 (.pc (.sl Py))]
abbrev DA:List (Nat×Ty):=[(150,.agg (.cons tI .nil))]
noncomputable def Tk:Ctx:=Ctx.of []
theorem awm:SP Tk:=aD f0
noncomputable def yU:Code:=aG ((af (adR))[0]?)
noncomputable def Hx:Code:=aG ((af (yU))[0]?)
theorem OF:af (Hx)=[]:=by kernel_rfl
theorem XE:af (yU)=[.loop Hx]:=by kernel_rfl
abbrev jW:List aL:=[.slot 2 (.ptr 102),.slot 4 (.ptr 104),.slot 8 (.pc (.sl T6)),.slot 9 (.pc tI),.box 104 [.pc tI,.pc tI,.pc tI,.pc tI,.pc tI,.pc tI]]
abbrev fe:List aL:=[.slot 10 (.pc tI),.box 102 [.pc tI,.pc tI,.pc tI,.pc tI,.pc tI,.pc tI]]
abbrev vq:List aL:=jW ++ fe
def Gw:ZJ jW fe vq:=ZA _ _
def xH:ZS jW fe vq:=ZP _ _
abbrev OA:Ty:=(.agg T0)
abbrev vu:aO:=⟨[(0,[.slot 2 (.ptr 102),.slot 4 (.ptr 104),.box 104 [.pc tI,.pc tI,.pc tI,.pc tI,.pc tI,.pc tI],.box 102 [.pc tI,.pc tI,.pc tI,.pc tI,.pc tI,.pc tI]])],[],[]⟩
abbrev xI:aO:=⟨[(0,[.box 102 [.pc tI,.pc tI,.pc tI,.pc tI,.pc tI,.pc tI]])],[],[]⟩
def DB:ZE jW xI vu:=fun id=>match id with | 0=>fun c y=>(c.1,(c.2.1,(c.2.2.2.2.1,y))) | _=>jm
def FK {α:Type} (l:RQ fe xI->α) (an:α->α->α) (c:ZD jW) (v:ZD fe):α:=bif (decide (v.1 < c.2.2.2.1)) then bif (decide (((0:Int)<=v.1)/\(v.1 < ((c.2.2.1.n:Nat):Int)))) then bif (decide ((mn v.2.1.2.1 (c.2.2.1.g (Int.toNat v.1)).2.1) < (mx v.2.1.1 (c.2.2.1.g (Int.toNat v.1)).1))) then l (.out (.cw 150 OA ((0:Int),()) ())) else bif (decide ((mn v.2.1.2.2.2.1 (c.2.2.1.g (Int.toNat v.1)).2.2.2.1) < (mx v.2.1.2.2.1 (c.2.2.1.g (Int.toNat v.1)).2.2.1))) then l (.out (.cw 150 OA ((1:Int),()) ())) else bif (decide ((mn v.2.1.2.2.2.2.2.1 (c.2.2.1.g (Int.toNat v.1)).2.2.2.2.2.1) < (mx v.2.1.2.2.2.2.1 (c.2.2.1.g (Int.toNat v.1)).2.2.2.2.1))) then l (.out (.cw 150 OA ((2:Int),()) ())) else l (.next ((W (v.1 + (1:Int))),(((mx v.2.1.1 (c.2.2.1.g (Int.toNat v.1)).1),((mn v.2.1.2.1 (c.2.2.1.g (Int.toNat v.1)).2.1),((mx v.2.1.2.2.1 (c.2.2.1.g (Int.toNat v.1)).2.2.1),((mn v.2.1.2.2.2.1 (c.2.2.1.g (Int.toNat v.1)).2.2.2.1),((mx v.2.1.2.2.2.2.1 (c.2.2.1.g (Int.toNat v.1)).2.2.2.2.1),((mn v.2.1.2.2.2.2.2.1 (c.2.2.1.g (Int.toNat v.1)).2.2.2.2.2.1),())))))),()))) else l .bad else l (.out (.exit 0 (v.2.1,())))
theorem adS:ZO Tk 100 53 yU [.gW 4 []] Gw DB ZI ZI FK:=fun _ _=>by kernel_rfl
def xk (c:ZD jW) (v:ZD fe):RQ fe xI:=FK (fun r=>r) (fun _ _=>.bad) c v
theorem adT:SO Tk 100 53 yU [.gW 4 []] Gw DB ZI ZI xk:=fun c v=>by rw [adS]; unfold xk FK; simp only [bu,aM,pM]
def As (c:ZD jW) (v:ZD fe):LQ xI:=aH (xk c) cz v
theorem alB:af (adR)=[.loop yU]:=by kernel_rfl
noncomputable def alC:List Loop:=[.known (bF 100 [] vq fun x=>aJ vu DB ZI ZI [(150,OA)] false (xH x).1 (As (xH x).1 (xH x).2) vu.bw)]
def aad {α:Type} (l:GO OE (aj qS)->α) (an:α->α->α) (x:ZD qS):α:=aF (As ((),((),(x.2.1,(((x.2.1.n:Nat):Int),(((0:Int),((0:Int),((0:Int),((0:Int),((0:Int),((0:Int),())))))),()))))) ((0:Int),(x.1,()))) 0 (fun u0=>l (.ok (u0.1,()) ())) (qE (As ((),((),(x.2.1,(((x.2.1.n:Nat):Int),(((0:Int),((0:Int),((0:Int),((0:Int),((0:Int),((0:Int),())))))),()))))) ((0:Int),(x.1,()))) 150 OA (fun u1=>l (.cw 150 OA u1.1 ())) (l .bad))
theorem awn (x:ZD qS):WV Try.prog E0 Tk Try.f105 alC 100 OE qS x=aad .leaf .any x:=by kernel_rfl
def IZ (x:ZD qS):GO OE (aj qS):=aad (fun r=>r) (fun _ _=>.bad) x
theorem awo (x:ZD qS):(WV Try.prog E0 Tk Try.f105 alC 100 OE qS x).iZ .bad=IZ x:=by rw [awn]; unfold IZ aad; simp only [kC,Tree.iZ,qh,gA,gB]
theorem awp:fH Try.prog 105 (Wd Try.f105.ntmps OE qS DA IZ):=Kl (E:=E0) aA awm aB au Kr.a Kr.b (by kernel_rfl) (fun G' hlo hF hE=>ai (by rw [alB]; exact .cons (bE hE hF hlo (ai (by rw [XE]; exact .unr (ai (by rw [OF]; exact .nil)) (.nil))) (by kernel_rfl) (by kernel_rfl) xH (fun _=>rfl) (fun _ _=>rfl) (adT) cz) (.nil))) DA awo
noncomputable def XF:=zo Try.f121
theorem aae:zq 121 Try.f121 XF:=zu
abbrev abr:List aL:=[.slot 0 (.ptr 8),.slot 1 (.ptr 9),.box 8 [.pc tI,.pc tI,.pc tI,.pc tI,.pc tI,.pc tI],.box 9 [.pc .bool]]
noncomputable def alD:Ctx:=Ctx.of []
theorem awq:SP alD:=aD f0
noncomputable def Mn:Code:=match XF with | .seq _ r=>r | _=>.skip
theorem XG:fH Try.prog 121 (fun _ _ _ _=>.leaf .bad):=fun _ _ _ _ _ _ _ _ _ _ _ _ _ _ _ _ hall=>absurd rfl (hall .bad rfl)
noncomputable def d121:UP:=aiy Try.f121.ntmps abr (aph Try.prog E0 alD Try.f121.ntmps Mn [] 100 abr 5)
noncomputable def abt:Oper:=match XF with | .seq (.region _ ops _) _=>ops.toList.headD default | _=>default
noncomputable def adU:Nat:=match XF with | .seq (.region r _ _) _=>r | _=>0
noncomputable def adV:Call:=match abt.op with | .call c=>c | _=>default
theorem alE:Ju Try.prog 121 d121:=Er (E:=E0) (o:=abt) (rid:=adU) (c:=adV) aA awq aB au aae.a (rest:=Mn) (by kernel_rfl) (by kernel_rfl) (by kernel_rfl) (by kernel_rfl) (by kernel_rfl) (by kernel_rfl) (by kernel_rfl) (by kernel_rfl) (by kernel_rfl) fun G' _ _ _=>fC
noncomputable def alF:=zo Try.f111
theorem agL:zq 111 Try.f111 alF:=zu
abbrev T37:Ty:=(.cons tI T8)
abbrev T38:Ty:=(.cons tI T37)
abbrev T39:Ty:=(.cons T27 T38)
abbrev T40:Ty:=(.cons T7 T3)
abbrev FL:Ty:=T39
abbrev IM:Ty:=T40
noncomputable def adW:Ctx:=Ctx.of [(88,.pure k88),(94,.pure k94),(96,.pure k96),(105,.gen (Wd Try.f105.ntmps OE qS DA IZ)),(121,.gen (fun _ _ _ _=>.leaf .bad))]
theorem awr:SP adW:=aD (fa ⟨⟨WY.c,h88⟩,fa ⟨⟨PF.c,h94⟩,fa ⟨⟨aa8.c,h96⟩,fa ⟨⟨Kr.c,awp⟩,fa ⟨⟨aae.c,XG⟩,f0⟩⟩⟩⟩⟩)
theorem alG:af (alF)=[]:=by kernel_rfl
noncomputable def alH:List Loop:=[]
noncomputable def adX:vY:=vY.of [(121,d121)]
theorem alI:Ds Try.prog adX:=GV (fa ⟨⟨aae.c,alE⟩,f0⟩)
def aaf {α:Type} (l:Option (IM).den->α) (an:α->α->α) (x:(FL).den):α:=cl (PW).dflt (Sf ((x.1.1,(x.1.2.1,(x.1.2.2.1,(x.1.2.2.2.1,(x.1.2.2.2.2.1,((),())))))),(x.2.1,(x.2.2.1,())))) (fun u0=>cl (Wb).dflt (WG ((x.1.1,(x.1.2.1,(x.1.2.2.1,(x.1.2.2.2.1,(x.1.2.2.2.2.1,((),())))))),(x.2.1,()))) (fun u1=>cl (RP).dflt (UQ ((x.1.1,(x.1.2.1,(x.1.2.2.1,(x.1.2.2.2.1,(x.1.2.2.2.2.1,((),())))))),(x.2.2.2.1,u1))) (fun u2=>Dt (IZ (u0.1,((⟨1,fun i=>List.getD [u2.1] i u2.1⟩:Sl _),()))) 150 OA (fun u3=>l (some (((0:Int),((0:Int),((0:Int),((0:Int),((0:Int),((0:Int),())))))),(false,())))) (Xr (IZ (u0.1,((⟨1,fun i=>List.getD [u2.1] i u2.1⟩:Sl _),()))) (fun u4=>l (some (u4.1.1,(true,())))) (l none))) (l none)) (l none)) (l none)
theorem aws (x:(FL).den):yJ Try.prog (E0.rw [] [1105]) adW adX Try.f111 alH FL IM x=aaf .leaf .any x:=by kernel_rfl
def Mh (x:(FL).den):Option (IM).den:=aaf (fun r=>r) (fun _ _=>none) x
theorem awt (x:(FL).den):(yJ Try.prog (E0.rw [] [1105]) adW adX Try.f111 alH FL IM x).sure=Mh x:=by rw [aws]; unfold Mh aaf; simp only [Tree.sure,iO]
def awu:=pO Mh
def awv:=vO (τ:=IM) Mh
def alJ:ee:=⟨FL,IM,awu,awv⟩
theorem aww:Holds Try.prog 111 alJ:=Km (E:=(E0.rw [] [1105])) aA awr alI aB au agL.a agL.b (by kernel_rfl) awt fun G' hlo hF hE=>ai (by rw [alG]; exact .nil)
noncomputable def Tl:=zo Try.f109
theorem Xh:zq 109 Try.f109 Tl:=zu
abbrev Hy:Ty:=T3
abbrev bq:List aL:=[.tr fD,.slot 0 (.pc tI),.slot 1 (.pc tI),.slot 2 (.pc tI),.slot 3 (.pc tI),.slot 4 (.pc (.ptr tS)),.slot 5 (.ptr 73),.slot 6 (.ptr 2),.slot 7 (.ptr 167),.slot 8 (.ptr 144),.box 73 [.pc (.sl Tc),.pc tI,.pc tI,.pc tI,.pc tI,.rows 83],.box 2 [.jc],.box 167 [.kB 109 tS [73,2,167,144]],.box 144 [.rows 158],.rows 83 3 sR,.rows 158 105 Py]
noncomputable def Hz:((ZD bq)->Option (Ty.den (.cons (.sl fD) (aa (aj bq)))))->Ctx:=fun bR=>Ctx.of [(94,.pure k94),(97,.pure k97),(109,.gen (th Try.f109.ntmps fD Hy bq fun x=>yT (bR x))),(110,.row false Try.f110.ntmps qi 3 T0 Mg),(111,.pure alJ)]
theorem awx (bR:(ZD bq)->Option (Ty.den (.cons (.sl fD) (aa (aj bq))))) (hR:fH Try.prog 109 (th Try.f109.ntmps fD Hy bq fun x=>yT (bR x))):Sound Try.prog (Hz bR):=aD (fa ⟨⟨PF.c,h94⟩,fa ⟨⟨api.c,h97⟩,fa ⟨⟨Xh.c,hR⟩,fa ⟨⟨afA.c,alz⟩,fa ⟨⟨agL.c,aww⟩,f0⟩⟩⟩⟩⟩)
noncomputable def DD:Code:=aG ((af (Tl))[0]?)
abbrev Tm:Ty:=(.ptr Xw)
theorem XH:af (DD)=[]:=by kernel_rfl
abbrev gI:List aL:=[.tr fD,.slot 4 (.pc Tm),.slot 5 (.ptr 73),.slot 6 (.ptr 2),.slot 7 (.ptr 167),.slot 8 (.ptr 144),.slot 14 (.ptr 1374),.slot 29 (.rows 83),.slot 30 (.pc tI),.box 167 [.kB 109 Xw [73,2,167,144]],.rows 83 3 T0,.rows 158 105 T6]
abbrev jd:List aL:=[.slot 31 (.pc tI),.box 73 [.pc eX,.pc tI,.pc tI,.pc tI,.pc tI,.rows 83],.box 2 [.jc],.box 144 [.rows 158],.box 1374 [.pc eX,.pc tI,.pc tI,.pc tI,.pc tI,.own 2375005 79 nK]]
abbrev tj:List aL:=gI ++ jd
def DE:ZJ gI jd tj:=ZA _ _
def xJ:ZS gI jd tj:=ZP _ _
abbrev ni:aO:=⟨[(0,[.tr fD,.slot 4 (.pc Tm),.slot 5 (.ptr 73),.slot 6 (.ptr 2),.slot 7 (.ptr 167),.slot 8 (.ptr 144),.slot 14 (.ptr 1374),.box 167 [.kB 109 Xw [73,2,167,144]],.rows 83 3 T0,.rows 158 105 T6,.box 73 [.pc eX,.pc tI,.pc tI,.pc tI,.pc tI,.rows 83],.box 2 [.jc],.box 144 [.rows 158],.box 1374 [.pc eX,.pc tI,.pc tI,.pc tI,.pc tI,.own 2375005 79 nK]])],[.tr fD],[.tr fD]⟩
abbrev pW:aO:=⟨[(0,[.box 73 [.pc eX,.pc tI,.pc tI,.pc tI,.pc tI,.rows 83],.box 2 [.jc],.box 144 [.rows 158],.box 1374 [.pc eX,.pc tI,.pc tI,.pc tI,.pc tI,.own 2375005 79 nK]])],[],[]⟩
def DF:ZE gI pW ni:=fun id=>match id with | 0=>fun c y=>(c.1,(c.2.1,(c.2.2.1,(c.2.2.2.1,(c.2.2.2.2.1,(c.2.2.2.2.2.1,(c.2.2.2.2.2.2.1,(c.2.2.2.2.2.2.2.2.2.1,(c.2.2.2.2.2.2.2.2.2.2.1,(c.2.2.2.2.2.2.2.2.2.2.2.1,y)))))))))) | _=>jm
def DG:(ZD gI)->(aa (pW).ret).den->(aa (ni).ret).den:=fun c y=>(c.1,y)
def DH:(ZD gI)->(aa (pW).cw).den->(aa (ni).cw).den:=fun c y=>(c.1,y)
def Au (bR:(ZD bq)->Option (Ty.den (.cons (.sl fD) (aa (aj bq))))) {α:Type} (l:RQ jd pW->α) (an:α->α->α) (c:ZD gI) (v:ZD jd):α:=bif (decide (v.1 < c.2.2.2.2.2.2.2.2.1)) then bif (decide (((0:Int)<=v.1)/\(v.1 < ((c.2.2.2.2.2.2.2.2.2.2.1.n:Nat):Int)))) then cl (⟨0,fun _=>Ty.dflt T0⟩:Sl (Ty.den T0)) (Mg ((⟨(c.2.2.2.2.2.2.2.2.2.2.1.g (Int.toNat v.1)).n,fun i=>((c.2.2.2.2.2.2.2.2.2.2.1.g (Int.toNat v.1)).g i)⟩:Sl _),())) (fun u0=>bif (decide (((v.2.2.2.2.1.2.2.2.2.2.1.n + 1) * 24)<=140737488355328)) then l (.next ((W (v.1 + (1:Int))),((v.2.1.1,(v.2.1.2.1,(v.2.1.2.2.1,(v.2.1.2.2.2.1,(v.2.1.2.2.2.2.1,((),())))))),(((),()),(((),()),((v.2.2.2.2.1.1,(v.2.2.2.2.1.2.1,(v.2.2.2.2.1.2.2.1,(v.2.2.2.2.1.2.2.2.1,(v.2.2.2.2.1.2.2.2.2.1,((cK v.2.2.2.2.1.2.2.2.2.2.1 (⟨1,fun i=>List.getD [(u0,())] i (u0,())⟩:Sl (Ty.den nK))),())))))),())))))) else l .bad) (l .bad) else l .bad else l (.out (.exit 0 ((v.2.1.1,(v.2.1.2.1,(v.2.1.2.2.1,(v.2.1.2.2.2.1,(v.2.1.2.2.2.2.1,((),())))))),(((),()),(((),()),(v.2.2.2.2.1,()))))))
theorem adY (bR:(ZD bq)->Option (Ty.den (.cons (.sl fD) (aa (aj bq))))) (c:ZD gI) (v:ZD jd):aU Try.prog E0 (Hz bR) 1000 180 [] tj ni DD [] (DE c v)=Au bR (fun r=>.leaf (r.lift DE DF DG DH c)) .any c v:=by kernel_rfl
def xl (bR:(ZD bq)->Option (Ty.den (.cons (.sl fD) (aa (aj bq))))) (c:ZD gI) (v:ZD jd):RQ jd pW:=Au bR (fun r=>r) (fun _ _=>.bad) c v
theorem adZ (bR:(ZD bq)->Option (Ty.den (.cons (.sl fD) (aa (aj bq))))) (c:ZD gI) (v:ZD jd):bu (aU Try.prog E0 (Hz bR) 1000 180 [] tj ni DD [] (DE c v))=(xl bR c v).lift DE DF DG DH c:=by rw [adY]; unfold xl Au; simp only [bu,aM,pM]
def Gx (bR:(ZD bq)->Option (Ty.den (.cons (.sl fD) (aa (aj bq))))) (c:ZD gI) (v:ZD jd):LQ pW:=aH (xl bR c) cz v
noncomputable def DI:Code:=aG ((af (Tl))[1]?)
theorem XI:af (DI)=[]:=by kernel_rfl
abbrev gJ:List aL:=[.tr fD,.slot 0 (.pc tI),.slot 2 (.pc tI),.slot 4 (.pc Tm),.slot 5 (.ptr 73),.slot 6 (.ptr 2),.slot 7 (.ptr 167),.slot 8 (.ptr 144),.slot 62 (.pc tI),.box 167 [.kB 109 Xw [73,2,167,144]],.rows 83 3 T0,.rows 158 105 T6]
abbrev gT:List aL:=[.slot 3 (.pc tI),.slot 63 (.pc tI),.box 73 [.pc eX,.pc tI,.pc tI,.pc tI,.pc tI,.rows 83],.box 2 [.jc],.box 144 [.rows 158]]
abbrev tq:List aL:=gJ ++ gT
def DJ:ZJ gJ gT tq:=ZA _ _
def xK:ZS gJ gT tq:=ZP _ _
abbrev nj:aO:=⟨[(2,[.tr fD,.slot 0 (.pc tI),.slot 2 (.pc tI),.slot 4 (.pc Tm),.slot 5 (.ptr 73),.slot 6 (.ptr 2),.slot 7 (.ptr 167),.slot 8 (.ptr 144),.box 167 [.kB 109 Xw [73,2,167,144]],.rows 83 3 T0,.rows 158 105 T6,.slot 3 (.pc tI),.box 73 [.pc eX,.pc tI,.pc tI,.pc tI,.pc tI,.rows 83],.box 2 [.jc],.box 144 [.rows 158]])],[.tr fD],[.tr fD]⟩
abbrev pX:aO:=⟨[(2,[.slot 3 (.pc tI),.box 73 [.pc eX,.pc tI,.pc tI,.pc tI,.pc tI,.rows 83],.box 2 [.jc],.box 144 [.rows 158]])],[],[]⟩
def DK:ZE gJ pX nj:=fun id=>match id with | 2=>fun c y=>(c.1,(c.2.1,(c.2.2.1,(c.2.2.2.1,(c.2.2.2.2.1,(c.2.2.2.2.2.1,(c.2.2.2.2.2.2.1,(c.2.2.2.2.2.2.2.1,(c.2.2.2.2.2.2.2.2.2.1,(c.2.2.2.2.2.2.2.2.2.2.1,(c.2.2.2.2.2.2.2.2.2.2.2.1,y))))))))))) | _=>jm
def DL:(ZD gJ)->(aa (pX).ret).den->(aa (nj).ret).den:=fun c y=>(c.1,y)
def DM:(ZD gJ)->(aa (pX).cw).den->(aa (nj).cw).den:=fun c y=>(c.1,y)
def Av (bR:(ZD bq)->Option (Ty.den (.cons (.sl fD) (aa (aj bq))))) {α:Type} (l:RQ gT pX->α) (an:α->α->α) (c:ZD gJ) (v:ZD gT):α:=bif (decide (v.2.1 < c.2.2.2.2.2.2.2.2.1)) then bif (decide (((0:Int)<=c.2.1)/\(c.2.1 < ((c.2.2.2.2.2.2.2.2.2.2.1.n:Nat):Int)))) then cl (WX).dflt (XA ((⟨(c.2.2.2.2.2.2.2.2.2.2.1.g (Int.toNat c.2.1)).n,fun i=>((c.2.2.2.2.2.2.2.2.2.2.1.g (Int.toNat c.2.1)).g i)⟩:Sl _),(v.2.1,()))) (fun u1=>bif (!u1.1) then l (.next ((W (v.1 + (1:Int))),((W (v.2.1 + (1:Int))),((v.2.2.1.1,(v.2.2.1.2.1,(v.2.2.1.2.2.1,(v.2.2.1.2.2.2.1,(v.2.2.1.2.2.2.2.1,((),())))))),(((),()),(((),()),())))))) else l (.next (v.1,((W (v.2.1 + (1:Int))),((v.2.2.1.1,(v.2.2.1.2.1,(v.2.2.1.2.2.1,(v.2.2.1.2.2.2.1,(v.2.2.1.2.2.2.2.1,((),())))))),(((),()),(((),()),()))))))) (l .bad) else l .bad else l (.out (.exit 2 (v.1,((v.2.2.1.1,(v.2.2.1.2.1,(v.2.2.1.2.2.1,(v.2.2.1.2.2.2.1,(v.2.2.1.2.2.2.2.1,((),())))))),(((),()),(((),()),()))))))
theorem ad0 (bR:(ZD bq)->Option (Ty.den (.cons (.sl fD) (aa (aj bq))))) (c:ZD gJ) (v:ZD gT):aU Try.prog E0 (Hz bR) 1000 180 [] tq nj DI [] (DJ c v)=Av bR (fun r=>.leaf (r.lift DJ DK DL DM c)) .any c v:=by kernel_rfl
def xm (bR:(ZD bq)->Option (Ty.den (.cons (.sl fD) (aa (aj bq))))) (c:ZD gJ) (v:ZD gT):RQ gT pX:=Av bR (fun r=>r) (fun _ _=>.bad) c v
theorem ad1 (bR:(ZD bq)->Option (Ty.den (.cons (.sl fD) (aa (aj bq))))) (c:ZD gJ) (v:ZD gT):bu (aU Try.prog E0 (Hz bR) 1000 180 [] tq nj DI [] (DJ c v))=(xm bR c v).lift DJ DK DL DM c:=by rw [ad0]; unfold xm Av; simp only [bu,aM,pM]
def Gy (bR:(ZD bq)->Option (Ty.den (.cons (.sl fD) (aa (aj bq))))) (c:ZD gJ) (v:ZD gT):LQ pX:=aH (xm bR c) cz v
noncomputable def DN:Code:=aG ((af (Tl))[2]?)
abbrev fE:List aL:=[.tr fD,.slot 0 (.pc tI),.slot 1 (.pc tI),.slot 2 (.pc tI),.slot 3 (.pc tI),.slot 4 (.pc Tm),.slot 5 (.ptr 73),.slot 6 (.ptr 2),.slot 7 (.ptr 167),.slot 8 (.ptr 144),.slot 126 (.pc tI),.slot 127 (.pc tI),.box 73 [.pc eX,.pc tI,.pc tI,.pc tI,.pc tI,.rows 83],.box 2 [.jc],.box 167 [.kB 109 Xw [73,2,167,144]],.box 144 [.rows 158],.rows 83 3 T0,.rows 158 105 T6]
theorem XJ:af (DN)=[]:=by kernel_rfl
abbrev tu:List aL:=[.slot 13 (.pc .bool)]
def DO:(ZD tu):=(false,())
abbrev qj:aO:=⟨[(4,[.tr fD,.slot 4 (.pc Tm),.slot 5 (.ptr 73),.slot 6 (.ptr 2),.slot 7 (.ptr 167),.slot 8 (.ptr 144),.box 73 [.pc eX,.pc tI,.pc tI,.pc tI,.pc tI,.rows 83],.box 2 [.jc],.box 167 [.kB 109 Xw [73,2,167,144]],.box 144 [.rows 158],.rows 83 3 T0,.rows 158 105 T6])],[.tr fD,.slot 13 (.pc .bool)],[.tr fD]⟩
abbrev ec:Ty:=(.sl nK)
abbrev OG:Ty:=(.cons ec .nil)
abbrev T44:Ty:=(.cons tI OG)
abbrev T45:Ty:=(.cons tI T44)
abbrev T46:Ty:=(.cons tI T45)
abbrev T47:Ty:=(.cons tI T46)
abbrev T48:Ty:=(.cons eX T47)
abbrev T49:Ty:=(.agg T48)
abbrev gN:Ty:=(.cons T49 .nil)
abbrev T51:Ty:=(.sl gN)
abbrev T52:Ty:=(.cons .nil .nil)
abbrev T53:Ty:=(.cons tI T52)
abbrev T54:Ty:=(.cons tI T53)
abbrev T55:Ty:=(.cons tI T54)
abbrev T56:Ty:=(.cons tI T55)
abbrev T57:Ty:=(.cons eX T56)
abbrev T58:Ty:=(.cons Xw .nil)
abbrev T59:Ty:=(.sl (.sl T0))
abbrev T60:Ty:=(.sl (.sl T6))
abbrev T61:Ty:=(.cons T60 .nil)
abbrev T62:Ty:=(.cons T59 T61)
abbrev T63:Ty:=(.cons T52 T62)
abbrev T64:Ty:=(.cons T58 T63)
abbrev T65:Ty:=(.cons T52 T64)
abbrev T66:Ty:=(.cons T57 T65)
abbrev T67:Ty:=(.cons T51 T66)
def we (bR:(ZD bq)->Option (Ty.den (.cons (.sl fD) (aa (aj bq))))) {α:Type} (l:YR fE (dB qj 4) tu fD->α) (an:α->α->α) (x:ZD fE):α:=bif (decide (x.2.2.2.2.2.2.2.2.2.2.2.1 < x.2.2.2.2.2.2.2.2.2.2.1)) then bif (decide (((0:Int)<=x.2.1)/\(x.2.1 < ((x.2.2.2.2.2.2.2.2.2.2.2.2.2.2.2.2.1.n:Nat):Int)))) then bif (decide (((0:Int)<=x.2.2.1)/\(x.2.2.1<=(((x.2.2.2.2.2.2.2.2.2.2.2.2.2.2.2.2.1.g (Int.toNat x.2.1)).n:Nat):Int)))) then cl (WX).dflt (XA ((⟨(Int.toNat x.2.2.1),fun i=>((x.2.2.2.2.2.2.2.2.2.2.2.2.2.2.2.2.1.g (Int.toNat x.2.1)).g i)⟩:Sl _),(x.2.2.2.2.2.2.2.2.2.2.2.1,()))) (fun u2=>bif u2.1 then l (.next (x.1,(x.2.1,(x.2.2.1,(x.2.2.2.1,(x.2.2.2.2.1,(x.2.2.2.2.2.1,((),((),((),((),(x.2.2.2.2.2.2.2.2.2.2.1,((W (x.2.2.2.2.2.2.2.2.2.2.2.1 + (1:Int))),((x.2.2.2.2.2.2.2.2.2.2.2.2.1.1,(x.2.2.2.2.2.2.2.2.2.2.2.2.1.2.1,(x.2.2.2.2.2.2.2.2.2.2.2.2.1.2.2.1,(x.2.2.2.2.2.2.2.2.2.2.2.2.1.2.2.2.1,(x.2.2.2.2.2.2.2.2.2.2.2.2.1.2.2.2.2.1,((),())))))),(((),()),(x.2.2.2.2.2.2.2.2.2.2.2.2.2.2.1,(((),()),x.2.2.2.2.2.2.2.2.2.2.2.2.2.2.2.2))))))))))))))))) else bif (decide (((0:Int)<=(W (x.2.1 - (1:Int))))/\((W (x.2.1 - (1:Int))) < ((x.2.2.2.2.2.2.2.2.2.2.2.2.2.2.2.2.2.1.n:Nat):Int)))) then bif (decide (((0:Int)<=x.2.2.2.2.2.2.2.2.2.2.2.1)/\(x.2.2.2.2.2.2.2.2.2.2.2.1 < (((x.2.2.2.2.2.2.2.2.2.2.2.2.2.2.2.2.2.1.g (Int.toNat (W (x.2.1 - (1:Int))))).n:Nat):Int)))) then cl (IM).dflt (Mh ((x.2.2.2.2.2.2.2.2.2.2.2.2.1.1,(x.2.2.2.2.2.2.2.2.2.2.2.2.1.2.1,(x.2.2.2.2.2.2.2.2.2.2.2.2.1.2.2.1,(x.2.2.2.2.2.2.2.2.2.2.2.2.1.2.2.2.1,(x.2.2.2.2.2.2.2.2.2.2.2.2.1.2.2.2.2.1,((),())))))),(x.2.1,(x.2.2.1,(((x.2.2.2.2.2.2.2.2.2.2.2.2.2.2.2.2.2.1.g (Int.toNat (W (x.2.1 - (1:Int))))).g (Int.toNat x.2.2.2.2.2.2.2.2.2.2.2.1)),()))))) (fun u3=>bif (!u3.2.1) then l (.next (x.1,(x.2.1,(x.2.2.1,(x.2.2.2.1,(x.2.2.2.2.1,(x.2.2.2.2.2.1,((),((),((),((),(x.2.2.2.2.2.2.2.2.2.2.1,((W (x.2.2.2.2.2.2.2.2.2.2.2.1 + (1:Int))),((x.2.2.2.2.2.2.2.2.2.2.2.2.1.1,(x.2.2.2.2.2.2.2.2.2.2.2.2.1.2.1,(x.2.2.2.2.2.2.2.2.2.2.2.2.1.2.2.1,(x.2.2.2.2.2.2.2.2.2.2.2.2.1.2.2.2.1,(x.2.2.2.2.2.2.2.2.2.2.2.2.1.2.2.2.2.1,((),())))))),(((),()),(x.2.2.2.2.2.2.2.2.2.2.2.2.2.2.1,(((),()),x.2.2.2.2.2.2.2.2.2.2.2.2.2.2.2.2))))))))))))))))) else bif (decide (((0:Int)<=x.2.1)/\(x.2.1 < ((x.2.2.2.2.2.2.2.2.2.2.2.2.2.2.2.2.1.n:Nat):Int)))) then bif (decide (((0:Int)<=x.2.1)/\(x.2.1 < ((x.2.2.2.2.2.2.2.2.2.2.2.2.2.2.2.2.2.1.n:Nat):Int)))) then bif (decide (((0:Int)<=x.2.2.1)/\(x.2.2.1 < (((x.2.2.2.2.2.2.2.2.2.2.2.2.2.2.2.2.1.g (Int.toNat x.2.1)).n:Nat):Int)))) then bif (decide (((0:Int)<=x.2.2.1)/\(x.2.2.1 < (((x.2.2.2.2.2.2.2.2.2.2.2.2.2.2.2.2.2.1.g (Int.toNat x.2.1)).n:Nat):Int)))) then cl (Ty.dflt T67) (bR (x.1,(x.2.1,((W (x.2.2.1 + (1:Int))),(x.2.2.2.1,(x.2.2.2.2.1,(x.2.2.2.2.2.2.2.2.2.2.2.2.2.2.1.1,((),((),((),((),((x.2.2.2.2.2.2.2.2.2.2.2.2.1.1,(x.2.2.2.2.2.2.2.2.2.2.2.2.1.2.1,(x.2.2.2.2.2.2.2.2.2.2.2.2.1.2.2.1,(x.2.2.2.2.2.2.2.2.2.2.2.2.1.2.2.2.1,(x.2.2.2.2.2.2.2.2.2.2.2.2.1.2.2.2.2.1,((),())))))),(((),()),(x.2.2.2.2.2.2.2.2.2.2.2.2.2.2.1,(((),()),((bO x.2.2.2.2.2.2.2.2.2.2.2.2.2.2.2.2.1 (Int.toNat x.2.1) (bO (x.2.2.2.2.2.2.2.2.2.2.2.2.2.2.2.2.1.g (Int.toNat x.2.1)) (Int.toNat x.2.2.1) (x.2.2.2.2.2.2.2.2.2.2.2.1,()))),((bO x.2.2.2.2.2.2.2.2.2.2.2.2.2.2.2.2.2.1 (Int.toNat x.2.1) (bO (x.2.2.2.2.2.2.2.2.2.2.2.2.2.2.2.2.2.1.g (Int.toNat x.2.1)) (Int.toNat x.2.2.1) u3.1)),()))))))))))))))))) (fun u4=>an (l (.next (u4.1,(x.2.1,(x.2.2.1,(x.2.2.2.1,(x.2.2.2.2.1,(x.2.2.2.2.2.1,((),((),((),((),(x.2.2.2.2.2.2.2.2.2.2.1,((W (x.2.2.2.2.2.2.2.2.2.2.2.1 + (1:Int))),((u4.2.1.1,(u4.2.1.2.1,(u4.2.1.2.2.1,(u4.2.1.2.2.2.1,(u4.2.1.2.2.2.2.1,((),())))))),(((),()),(u4.2.2.2.1,(((),()),u4.2.2.2.2.2)))))))))))))))))) (an (l (.stop u4.1 (false,()))) (l (.bt u4.1)))) (l .bad) else l .bad else l .bad else l .bad else l .bad) (l .bad) else l .bad else l .bad) (l .bad) else l .bad else l .bad else l (.exit (x.1,(x.2.2.2.2.2.1,((),((),((),((),((x.2.2.2.2.2.2.2.2.2.2.2.2.1.1,(x.2.2.2.2.2.2.2.2.2.2.2.2.1.2.1,(x.2.2.2.2.2.2.2.2.2.2.2.2.1.2.2.1,(x.2.2.2.2.2.2.2.2.2.2.2.2.1.2.2.2.1,(x.2.2.2.2.2.2.2.2.2.2.2.2.1.2.2.2.2.1,((),())))))),(((),()),(x.2.2.2.2.2.2.2.2.2.2.2.2.2.2.1,(((),()),x.2.2.2.2.2.2.2.2.2.2.2.2.2.2.2.2)))))))))))
theorem ad3 (bR:(ZD bq)->Option (Ty.den (.cons (.sl fD) (aa (aj bq))))) (x:ZD fE):Px true Try.prog E0 (Hz bR) 1000 180 [] fE qj DN [] x=we bR (fun r=>.leaf (r.res 4)) .any x:=by kernel_rfl
def uL (bR:(ZD bq)->Option (Ty.den (.cons (.sl fD) (aa (aj bq))))) (x:ZD fE):RQ fE qj:=we bR (YR.rq 4) (fun a _=>a) x
def qg (bR:(ZD bq)->Option (Ty.den (.cons (.sl fD) (aa (aj bq))))) (x:ZD fE):LQ qj:=aH (uL bR) cz x
-- y: ls109x2 : .nil
def tw:(ZD (dB qj 4))->Sl (Ty.den fD):=fun y=>y.1
def tA:(ZD fE)->Sl (Ty.den fD):=fun x=>x.1
theorem alK:af (Tl)=[.loop DD,.loop DI,.loop DN]:=by kernel_rfl
noncomputable def alL:((ZD bq)->Option (Ty.den (.cons (.sl fD) (aa (aj bq)))))->List Loop:=fun bR=>[.known (bF 1000 [] tj fun x=>aJ ni DF DG DH [] false (xJ x).1 (Gx bR (xJ x).1 (xJ x).2) ni.bw),.known (bF 1000 [] tq fun x=>aJ nj DK DL DM [] false (xK x).1 (Gy bR (xK x).1 (xK x).2) nj.bw),.known (Dd 1000 [] fE fun x=>yF 4 tw tu DO (qg bR x))]
def HA (bR:(ZD bq)->Option (Ty.den (.cons (.sl fD) (aa (aj bq))))) {α:Type} (l:GY fD Hy (aj bq)->α) (an:α->α->α) (x:ZD bq):α:=bif (decide (x.2.1=((x.2.2.2.2.2.1.1.n:Nat):Int))) then aF (Gx bR (x.1,(x.2.2.2.2.2.1,((),((),((),((),((),((),(((x.2.2.2.2.2.2.2.2.2.2.2.2.2.2.1.n:Nat):Int),(x.2.2.2.2.2.2.2.2.2.2.2.2.1,x.2.2.2.2.2.2.2.2.2.2.2.2.2.2)))))))))) ((0:Int),((x.2.2.2.2.2.2.2.2.2.2.1.1,(x.2.2.2.2.2.2.2.2.2.2.1.2.1,(x.2.2.2.2.2.2.2.2.2.2.1.2.2.1,(x.2.2.2.2.2.2.2.2.2.2.1.2.2.2.1,(x.2.2.2.2.2.2.2.2.2.2.1.2.2.2.2.1,((),())))))),(((),()),(((),()),((x.2.2.2.2.2.2.2.2.2.2.1.1,(x.2.2.2.2.2.2.2.2.2.2.1.2.1,(x.2.2.2.2.2.2.2.2.2.2.1.2.2.1,(x.2.2.2.2.2.2.2.2.2.2.1.2.2.2.1,(x.2.2.2.2.2.2.2.2.2.2.1.2.2.2.2.1,((⟨0,fun i=>((⟨0,fun i=>((0:Int),())⟩:Sl _),())⟩:Sl _),())))))),())))))) 0 (fun u5=>an (l (bif (bif (Nat.beq x.2.2.2.2.2.2.2.2.2.2.2.2.2.2.1.n x.2.2.2.2.2.2.2.2.2.2.2.2.2.2.1.n) then (bif (Nat.beq x.2.2.2.2.2.2.2.2.2.2.2.2.2.2.2.1.n x.2.2.2.2.2.2.2.2.2.2.2.2.2.2.2.1.n) then true else false) else false) then (.ok (true,()) (cK x.1 (⟨1,fun i=>(u5.2.2.2.1,())⟩:Sl (Ty.den gN))) ((u5.1.1,(u5.1.2.1,(u5.1.2.2.1,(u5.1.2.2.2.1,(u5.1.2.2.2.2.1,((),())))))),(((),()),(x.2.2.2.2.2.2.2.2.2.2.2.2.1,(((),()),x.2.2.2.2.2.2.2.2.2.2.2.2.2.2))))) else .bad)) (an (l (.stop (false,()) (cK x.1 (⟨1,fun i=>(u5.2.2.2.1,())⟩:Sl (Ty.den gN))))) (l (.bt (cK x.1 (⟨1,fun i=>(u5.2.2.2.1,())⟩:Sl (Ty.den gN))))))) (l .bad) else bif (decide (((0:Int)<=x.2.1)/\(x.2.1 < ((x.2.2.2.2.2.1.1.n:Nat):Int)))) then bif (decide (x.2.2.1=(((x.2.2.2.2.2.1.1.g (Int.toNat x.2.1)).2.1.n:Nat):Int))) then bif (decide (((0:Int)<=(W (x.2.1 - (1:Int))))/\((W (x.2.1 - (1:Int))) < ((x.2.2.2.2.2.1.1.n:Nat):Int)))) then aF (Gy bR (x.1,(x.2.1,(x.2.2.2.1,(x.2.2.2.2.2.1,((),((),((),((),((((x.2.2.2.2.2.1.1.g (Int.toNat (W (x.2.1 - (1:Int))))).2.1.n:Nat):Int),(x.2.2.2.2.2.2.2.2.2.2.2.2.1,x.2.2.2.2.2.2.2.2.2.2.2.2.2.2)))))))))) (x.2.2.2.2.1,((0:Int),((x.2.2.2.2.2.2.2.2.2.2.1.1,(x.2.2.2.2.2.2.2.2.2.2.1.2.1,(x.2.2.2.2.2.2.2.2.2.2.1.2.2.1,(x.2.2.2.2.2.2.2.2.2.2.1.2.2.2.1,(x.2.2.2.2.2.2.2.2.2.2.1.2.2.2.2.1,((),())))))),(((),()),(((),()),())))))) 2 (fun u6=>bif (decide (x.2.2.2.2.2.1.2.2.2.2.1 < u6.1)) then l (bif (bif (Nat.beq x.2.2.2.2.2.2.2.2.2.2.2.2.2.2.1.n x.2.2.2.2.2.2.2.2.2.2.2.2.2.2.1.n) then (bif (Nat.beq x.2.2.2.2.2.2.2.2.2.2.2.2.2.2.2.1.n x.2.2.2.2.2.2.2.2.2.2.2.2.2.2.2.1.n) then true else false) else false) then (.ok (true,()) x.1 ((u6.2.1.1,(u6.2.1.2.1,(u6.2.1.2.2.1,(u6.2.1.2.2.2.1,(u6.2.1.2.2.2.2.1,((),())))))),(((),()),(x.2.2.2.2.2.2.2.2.2.2.2.2.1,(((),()),x.2.2.2.2.2.2.2.2.2.2.2.2.2.2))))) else .bad) else cl (Ty.dflt T67) (bR (x.1,((W (x.2.1 + (1:Int))),((0:Int),(x.2.2.2.1,(u6.1,(x.2.2.2.2.2.2.2.2.2.2.2.2.1.1,((),((),((),((),((u6.2.1.1,(u6.2.1.2.1,(u6.2.1.2.2.1,(u6.2.1.2.2.2.1,(u6.2.1.2.2.2.2.1,((),())))))),(((),()),(x.2.2.2.2.2.2.2.2.2.2.2.2.1,(((),()),x.2.2.2.2.2.2.2.2.2.2.2.2.2.2))))))))))))))) (fun u7=>an (l (bif (bif (Nat.beq x.2.2.2.2.2.2.2.2.2.2.2.2.2.2.1.n u7.2.2.2.2.2.1.n) then (bif (Nat.beq x.2.2.2.2.2.2.2.2.2.2.2.2.2.2.2.1.n u7.2.2.2.2.2.2.1.n) then true else false) else false) then (.ok (true,()) u7.1 ((u7.2.1.1,(u7.2.1.2.1,(u7.2.1.2.2.1,(u7.2.1.2.2.2.1,(u7.2.1.2.2.2.2.1,((),())))))),(((),()),(u7.2.2.2.1,(((),()),u7.2.2.2.2.2))))) else .bad)) (an (l (.stop (false,()) u7.1)) (l (.bt u7.1)))) (l .bad)) (l .bad) else l .bad else bif (decide (x.2.2.2.1 < x.2.2.2.2.2.1.2.2.2.1)) then bif (decide (((0:Int)<=x.2.1)/\(x.2.1 < ((x.2.2.2.2.2.2.2.2.2.2.2.2.2.2.1.n:Nat):Int)))) then bif (decide (((0:Int)<=x.2.1)/\(x.2.1 < ((x.2.2.2.2.2.2.2.2.2.2.2.2.2.2.2.1.n:Nat):Int)))) then cl (PW).dflt (Sf ((x.2.2.2.2.2.2.2.2.2.2.1.1,(x.2.2.2.2.2.2.2.2.2.2.1.2.1,(x.2.2.2.2.2.2.2.2.2.2.1.2.2.1,(x.2.2.2.2.2.2.2.2.2.2.1.2.2.2.1,(x.2.2.2.2.2.2.2.2.2.2.1.2.2.2.2.1,((),())))))),(x.2.1,(x.2.2.1,())))) (fun u8=>bif (decide (((0:Int)<=x.2.2.1)/\(x.2.2.1 < (((x.2.2.2.2.2.2.2.2.2.2.2.2.2.2.1.g (Int.toNat x.2.1)).n:Nat):Int)))) then bif (decide (((0:Int)<=x.2.2.1)/\(x.2.2.1 < (((x.2.2.2.2.2.2.2.2.2.2.2.2.2.2.2.1.g (Int.toNat x.2.1)).n:Nat):Int)))) then cl (Ty.dflt T67) (bR (x.1,(x.2.1,((W (x.2.2.1 + (1:Int))),((W (x.2.2.2.1 + (1:Int))),(x.2.2.2.2.1,(x.2.2.2.2.2.2.2.2.2.2.2.2.1.1,((),((),((),((),((x.2.2.2.2.2.2.2.2.2.2.1.1,(x.2.2.2.2.2.2.2.2.2.2.1.2.1,(x.2.2.2.2.2.2.2.2.2.2.1.2.2.1,(x.2.2.2.2.2.2.2.2.2.2.1.2.2.2.1,(x.2.2.2.2.2.2.2.2.2.2.1.2.2.2.2.1,((),())))))),(((),()),(x.2.2.2.2.2.2.2.2.2.2.2.2.1,(((),()),((bO x.2.2.2.2.2.2.2.2.2.2.2.2.2.2.1 (Int.toNat x.2.1) (bO (x.2.2.2.2.2.2.2.2.2.2.2.2.2.2.1.g (Int.toNat x.2.1)) (Int.toNat x.2.2.1) ((-1:Int),()))),((bO x.2.2.2.2.2.2.2.2.2.2.2.2.2.2.2.1 (Int.toNat x.2.1) (bO (x.2.2.2.2.2.2.2.2.2.2.2.2.2.2.2.1.g (Int.toNat x.2.1)) (Int.toNat x.2.2.1) u8.1)),()))))))))))))))))) (fun u9=>an (bif (decide (((0:Int)<=(W (x.2.1 - (1:Int))))/\((W (x.2.1 - (1:Int))) < ((x.2.2.2.2.2.1.1.n:Nat):Int)))) then aF (qg bR (u9.1,(x.2.1,(x.2.2.1,(x.2.2.2.1,(x.2.2.2.2.1,(x.2.2.2.2.2.1,((),((),((),((),((((x.2.2.2.2.2.1.1.g (Int.toNat (W (x.2.1 - (1:Int))))).2.1.n:Nat):Int),((0:Int),((u9.2.1.1,(u9.2.1.2.1,(u9.2.1.2.2.1,(u9.2.1.2.2.2.1,(u9.2.1.2.2.2.2.1,((),())))))),(((),()),(u9.2.2.2.1,(((),()),u9.2.2.2.2.2))))))))))))))))) 4 (fun vD=>an (l (bif (bif (Nat.beq x.2.2.2.2.2.2.2.2.2.2.2.2.2.2.1.n vD.2.2.2.2.2.2.2.2.2.2.1.n) then (bif (Nat.beq x.2.2.2.2.2.2.2.2.2.2.2.2.2.2.2.1.n vD.2.2.2.2.2.2.2.2.2.2.2.1.n) then true else false) else false) then (.ok (true,()) vD.1 ((vD.2.2.2.2.2.2.1.1,(vD.2.2.2.2.2.2.1.2.1,(vD.2.2.2.2.2.2.1.2.2.1,(vD.2.2.2.2.2.2.1.2.2.2.1,(vD.2.2.2.2.2.2.1.2.2.2.2.1,((),())))))),(((),()),(vD.2.2.2.2.2.2.2.2.1,(((),()),vD.2.2.2.2.2.2.2.2.2.2))))) else .bad)) (an (l (.stop (false,()) vD.1)) (l (.bt vD.1)))) (l .bad) else l .bad) (an (l (.stop (false,()) u9.1)) (l (.bt u9.1)))) (l .bad) else l .bad else l .bad) (l .bad) else l .bad else l .bad else bif (decide (((0:Int)<=(W (x.2.1 - (1:Int))))/\((W (x.2.1 - (1:Int))) < ((x.2.2.2.2.2.1.1.n:Nat):Int)))) then aF (qg bR (x.1,(x.2.1,(x.2.2.1,(x.2.2.2.1,(x.2.2.2.2.1,(x.2.2.2.2.2.1,((),((),((),((),((((x.2.2.2.2.2.1.1.g (Int.toNat (W (x.2.1 - (1:Int))))).2.1.n:Nat):Int),((0:Int),((x.2.2.2.2.2.2.2.2.2.2.1.1,(x.2.2.2.2.2.2.2.2.2.2.1.2.1,(x.2.2.2.2.2.2.2.2.2.2.1.2.2.1,(x.2.2.2.2.2.2.2.2.2.2.1.2.2.2.1,(x.2.2.2.2.2.2.2.2.2.2.1.2.2.2.2.1,((),())))))),(((),()),(x.2.2.2.2.2.2.2.2.2.2.2.2.1,(((),()),x.2.2.2.2.2.2.2.2.2.2.2.2.2.2))))))))))))))))) 4 (fun lM=>an (l (bif (bif (Nat.beq x.2.2.2.2.2.2.2.2.2.2.2.2.2.2.1.n lM.2.2.2.2.2.2.2.2.2.2.1.n) then (bif (Nat.beq x.2.2.2.2.2.2.2.2.2.2.2.2.2.2.2.1.n lM.2.2.2.2.2.2.2.2.2.2.2.1.n) then true else false) else false) then (.ok (true,()) lM.1 ((lM.2.2.2.2.2.2.1.1,(lM.2.2.2.2.2.2.1.2.1,(lM.2.2.2.2.2.2.1.2.2.1,(lM.2.2.2.2.2.2.1.2.2.2.1,(lM.2.2.2.2.2.2.1.2.2.2.2.1,((),())))))),(((),()),(lM.2.2.2.2.2.2.2.2.1,(((),()),lM.2.2.2.2.2.2.2.2.2.2))))) else .bad)) (an (l (.stop (false,()) lM.1)) (l (.bt lM.1)))) (l .bad) else l .bad else l .bad
theorem awz (bR:(ZD bq)->Option (Ty.den (.cons (.sl fD) (aa (aj bq))))) (x:ZD bq):aiA Try.prog E0 (Hz bR) Try.f109 (alL bR) 1000 fD Hy bq x=HA bR .leaf .any x:=by kernel_rfl
def wA (bR:(ZD bq)->Option (Ty.den (.cons (.sl fD) (aa (aj bq))))) (x:ZD bq):Option (Ty.den (.cons (.sl fD) (aa (aj bq)))):=HA bR GY.opt (fun a _=>a) x
def mD:Nat->(ZD bq)->Option (Ty.den (.cons (.sl fD) (aa (aj bq))))
 | 0=>fun _=>none
 | n + 1=>wA (mD n)
-- kn109 : .cons (loopV_ok' hE (.inl rfl) hlo (LsOK_kn (by rw [lo109x0]; exact .nil)) (by kernel_rfl) (by kernel_rfl) sp109x0 (fun _=>rfl) (fun _ _=>rfl) (s109x0 R109) big) (.cons (loopV_ok' hE (.inl rfl) hlo (LsOK_kn (by rw [lo109x1]; exact .nil)) (by kernel_rfl) (by kernel_rfl) sp109x1 (fun _=>rfl) (fun _ _=>rfl) (s109x1 R109) big) (.cons (hy109x2 R109 hE hlo) (.nil)))
def BZ (bR:(ZD bq)->Option (Ty.den (.cons (.sl fD) (aa (aj bq))))):Prop:=∀ x u,bR x=some u->(show Sl (Ty.den fD) from x.1).list <+: (show Sl (Ty.den fD) from u.1).list
theorem DP (bR:(ZD bq)->Option (Ty.den (.cons (.sl fD) (aa (aj bq))))) (hg:BZ bR) (x:ZD fE) :
  KR (ex:=4) tA tw tu DO (tA x) (uL bR x) (we bR (fun r=>.leaf (r.res 4)) .any x):=by
 unfold uL we
 repeat' first
  | exact KR.bad
  | exact KR.next (uH _)
  | exact KR.exit (uH _)
  | with_reducible apply KR.bif
  | (refine KR.cl (fun u hu=>?_) ?_)
  | exact KR.any rfl (hg _ _ ‹_›) (KR.next (uH _))
theorem XK (bR:(ZD bq)->Option (Ty.den (.cons (.sl fD) (aa (aj bq))))) (hg:BZ bR) {G':Gh} (hE:Env Try.prog E0 (Hz bR) G' Fence.wide) (hlo:G'.lo=1000) :
  gX Try.prog 180 G' 109 Fence.wide 0 (.loop DN) (Dd 1000 [] fE fun x=>yF 4 tw tu DO (qg bR x)):=
 We hE hlo (ai (by rw [XJ]; exact .nil)) (by kernel_rfl) (by kernel_rfl) (sS:=tA) rfl (fun x hne=>by rw [ad3]; exact (DP bR hg x).1 hne) (fun x=>(DP bR hg x).2) cz
theorem XL (bR:(ZD bq)->Option (Ty.den (.cons (.sl fD) (aa (aj bq))))) (hg:BZ bR) (x:ZD fE) (h:(qg bR x).eH 4=true):(tA x).list <+: (tw ((qg bR x).dY 4)).list:=
 vC (ex:=4) (sS:=tA) (oN:=tw) (fun x=>(DP bR hg x).2) cz x h
theorem abu (bR:(ZD bq)->Option (Ty.den (.cons (.sl fD) (aa (aj bq))))) (hg:BZ bR) (x:ZD bq) :
  KG (e:=fD) (qs:=aj bq) x.1 (wA bR x) (HA bR .leaf .any x):=by
 unfold wA HA
 repeat' first
  | exact KG.bad
  | exact KG.ok (uH _)
  | (apply KG.any; · first | exact abh _ _ | (have h1:=hg _ _ hu; exact h1) | (have h1:=XL bR hg _ hu; exact h1))
  | with_reducible apply KG.bif
  | (refine KG.cl (fun u hu=>?_) ?_)
  | (refine KG.aF (fun hu=>?_) ?_)
theorem alM (bR:(ZD bq)->Option (Ty.den (.cons (.sl fD) (aa (aj bq))))) (hg:BZ bR) (hR:fH Try.prog 109 (th Try.f109.ntmps fD Hy bq fun x=>yT (bR x))) :
    fH Try.prog 109 (th Try.f109.ntmps fD Hy bq fun x=>yT (wA bR x)):=
  Kp (E:=E0) aA (awx bR hR) aB au Xh.a Xh.b (lo:=1000) (ls:=alL bR) (by kernel_rfl) (fun G' hlo hE=>ai (by rw [alK]; exact (.cons (nJ hE (.inl rfl) hlo (ai (by rw [XH]; exact .nil)) (by kernel_rfl) (by kernel_rfl) xJ (fun _=>rfl) (fun _ _=>rfl) (adZ bR) cz) (.cons (nJ hE (.inl rfl) hlo (ai (by rw [XI]; exact .nil)) (by kernel_rfl) (by kernel_rfl) xK (fun _=>rfl) (fun _ _=>rfl) (ad1 bR) cz) (.cons (XK bR hg hE hlo) .nil)))))
    (fun x cC=>by
      rw [awz]
      obtain ⟨z,y,h⟩:=abg cC
      exact (abu bR hg x z y h).2)
theorem abv:∀ n,BZ (mD n)
 | 0=>fun _ _ h=>by cases h
 | n + 1=>fun x u h=>(abu (mD n) (abv n) x u.1 u.2 h).1
theorem alN:∀ n,fH Try.prog 109 (th Try.f109.ntmps fD Hy bq fun x=>yT (mD n x))
 | 0=>RK
 | n + 1=>alM (mD n) (abv n) (alN n)
noncomputable def XM:=zo Try.f108
theorem agO:zq 108 Try.f108 XM:=zu
abbrev pF:Ty:=.nil
abbrev T68:Ty:=(.cons Tm .nil)
abbrev pG:Ty:=T68
abbrev AN:Ty:=gN
noncomputable def HB:Ctx:=Ctx.of [(94,.pure k94),(109,.gen (th Try.f109.ntmps fD Hy bq fun x=>yT (mD 20 x)))]
theorem alO:SP HB:=aD (fa ⟨⟨PF.c,h94⟩,fa ⟨⟨Xh.c,(alN 20)⟩,f0⟩⟩)
def alP:LY:=⟨pF,pG,AN,fun _ _=>true,fun _ _=>⟨0,fun _=>Ty.dflt AN⟩⟩
noncomputable def DQ:Code:=aG ((af (XM))[0]?)
theorem XN:af (DQ)=[]:=by kernel_rfl
abbrev gZ:List aL:=[.tr gN,.slot 1 (.pc Tm),.slot 2 (.ptr 2),.slot 3 (.ptr 73),.slot 4 (.ptr 144),.slot 20 (.pc eX),.slot 21 (.pc tI)]
abbrev iP:List aL:=[.slot 22 (.pc tI),.box 2 [.jc],.box 73 [.pc eX,.pc tI,.pc tI,.pc tI,.pc tI,.rows 83],.box 144 [.rows 158],.rows 83 3 T0,.rows 158 105 T6]
abbrev vI:List aL:=gZ ++ iP
def Gz:ZJ gZ iP vI:=ZA _ _
def zA:ZS gZ iP vI:=ZP _ _
abbrev pH:aO:=⟨[(0,[.tr gN,.slot 1 (.pc Tm),.slot 2 (.ptr 2),.slot 3 (.ptr 73),.slot 4 (.ptr 144),.box 2 [.jc],.box 73 [.pc eX,.pc tI,.pc tI,.pc tI,.pc tI,.rows 83],.box 144 [.rows 158],.rows 83 3 T0,.rows 158 105 T6])],[.tr gN],[.tr gN]⟩
abbrev nN:aO:=⟨[(0,[.box 2 [.jc],.box 73 [.pc eX,.pc tI,.pc tI,.pc tI,.pc tI,.rows 83],.box 144 [.rows 158],.rows 83 3 T0,.rows 158 105 T6])],[],[]⟩
def DR:ZE gZ nN pH:=fun id=>match id with | 0=>fun c y=>(c.1,(c.2.1,(c.2.2.1,(c.2.2.2.1,(c.2.2.2.2.1,y))))) | _=>jm
def DS:(ZD gZ)->(aa (nN).ret).den->(aa (pH).ret).den:=fun c y=>(c.1,y)
def DT:(ZD gZ)->(aa (nN).cw).den->(aa (pH).cw).den:=fun c y=>(c.1,y)
def Aw {α:Type} (l:RQ iP nN->α) (an:α->α->α) (c:ZD gZ) (v:ZD iP):α:=bif (decide (v.1 < c.2.2.2.2.2.2.1)) then bif (decide (((0:Int)<=v.1)/\(v.1 < ((c.2.2.2.2.2.1.n:Nat):Int)))) then bif (decide (((0:Int)<=(((c.2.2.2.2.2.1.g (Int.toNat v.1)).2.1.n:Nat):Int))/\(((((c.2.2.2.2.2.1.g (Int.toNat v.1)).2.1.n:Nat):Int)<=(281474976710656:Int))/\(((((c.2.2.2.2.2.1.g (Int.toNat v.1)).2.1.n:Nat):Int) * (8:Int))<=(281474976710656:Int))))) then bif (decide (((0:Int)<=(((c.2.2.2.2.2.1.g (Int.toNat v.1)).2.1.n:Nat):Int))/\(((((c.2.2.2.2.2.1.g (Int.toNat v.1)).2.1.n:Nat):Int)<=(281474976710656:Int))/\(((((c.2.2.2.2.2.1.g (Int.toNat v.1)).2.1.n:Nat):Int) * (48:Int))<=(281474976710656:Int))))) then bif (decide (((0:Int)<=v.1)/\(v.1 < ((v.2.2.2.2.1.n:Nat):Int)))) then bif (decide (((0:Int)<=v.1)/\(v.1 < ((v.2.2.2.2.2.1.n:Nat):Int)))) then l (.next ((W (v.1 + (1:Int))),(((),()),((v.2.2.1.1,(v.2.2.1.2.1,(v.2.2.1.2.2.1,(v.2.2.1.2.2.2.1,(v.2.2.1.2.2.2.2.1,((),())))))),(((),()),((bO v.2.2.2.2.1 (Int.toNat v.1) (⟨(Int.toNat (((c.2.2.2.2.2.1.g (Int.toNat v.1)).2.1.n:Nat):Int)),fun i=>((0:Int),())⟩:Sl (Ty.den T0))),((bO v.2.2.2.2.2.1 (Int.toNat v.1) (⟨(Int.toNat (((c.2.2.2.2.2.1.g (Int.toNat v.1)).2.1.n:Nat):Int)),fun i=>((0:Int),((0:Int),((0:Int),((0:Int),((0:Int),((0:Int),()))))))⟩:Sl (Ty.den T6))),()))))))) else l .bad else l .bad else l .bad else l .bad else l .bad else l (.out (.exit 0 (((),()),((v.2.2.1.1,(v.2.2.1.2.1,(v.2.2.1.2.2.1,(v.2.2.1.2.2.2.1,(v.2.2.1.2.2.2.2.1,((),())))))),(((),()),v.2.2.2.2)))))
theorem ad4:ZO HB 0 70 DQ [] Gz DR DS DT Aw:=fun _ _=>by kernel_rfl
def xo (c:ZD gZ) (v:ZD iP):RQ iP nN:=Aw (fun r=>r) (fun _ _=>.bad) c v
theorem ad5:SO HB 0 70 DQ [] Gz DR DS DT xo:=fun c v=>by rw [ad4]; unfold xo Aw; simp only [bu,aM,pM]
def GA (c:ZD gZ) (v:ZD iP):LQ nN:=aH (xo c) cz v
noncomputable def DU:Code:=aG ((af (XM))[1]?)
theorem XO:af (DU)=[]:=by kernel_rfl
abbrev ic:List aL:=[.tr gN,.slot 1 (.pc Tm),.slot 2 (.ptr 2),.slot 3 (.ptr 73),.slot 4 (.ptr 144),.slot 48 (.pc tI)]
abbrev iQ:List aL:=[.slot 49 (.pc tI),.box 2 [.jc],.box 73 [.pc eX,.pc tI,.pc tI,.pc tI,.pc tI,.rows 83],.box 144 [.rows 158],.rows 83 3 T0,.rows 158 105 T6]
abbrev vJ:List aL:=ic ++ iQ
def GB:ZJ ic iQ vJ:=ZA _ _
def zB:ZS ic iQ vJ:=ZP _ _
abbrev pI:aO:=⟨[(2,[.tr gN,.slot 1 (.pc Tm),.slot 2 (.ptr 2),.slot 3 (.ptr 73),.slot 4 (.ptr 144),.box 2 [.jc],.box 73 [.pc eX,.pc tI,.pc tI,.pc tI,.pc tI,.rows 83],.box 144 [.rows 158],.rows 83 3 T0,.rows 158 105 T6])],[.tr gN],[.tr gN]⟩
abbrev nO:aO:=⟨[(2,[.box 2 [.jc],.box 73 [.pc eX,.pc tI,.pc tI,.pc tI,.pc tI,.rows 83],.box 144 [.rows 158],.rows 83 3 T0,.rows 158 105 T6])],[],[]⟩
def DV:ZE ic nO pI:=fun id=>match id with | 2=>fun c y=>(c.1,(c.2.1,(c.2.2.1,(c.2.2.2.1,(c.2.2.2.2.1,y))))) | _=>jm
def DW:(ZD ic)->(aa (nO).ret).den->(aa (pI).ret).den:=fun c y=>(c.1,y)
def DX:(ZD ic)->(aa (nO).cw).den->(aa (pI).cw).den:=fun c y=>(c.1,y)
def Ax {α:Type} (l:RQ iQ nO->α) (an:α->α->α) (c:ZD ic) (v:ZD iQ):α:=bif (decide (v.1 < c.2.2.2.2.2.1)) then bif (decide (((0:Int)<=(0:Int))/\((0:Int) < ((v.2.2.2.2.1.n:Nat):Int)))) then bif (decide (((0:Int)<=(0:Int))/\((0:Int) < ((v.2.2.2.2.2.1.n:Nat):Int)))) then cl (PW).dflt (Sf ((v.2.2.1.1,(v.2.2.1.2.1,(v.2.2.1.2.2.1,(v.2.2.1.2.2.2.1,(v.2.2.1.2.2.2.2.1,((),())))))),((0:Int),(v.1,())))) (fun u0=>bif (decide (((0:Int)<=v.1)/\(v.1 < (((v.2.2.2.2.1.g 0).n:Nat):Int)))) then bif (decide (((0:Int)<=v.1)/\(v.1 < (((v.2.2.2.2.2.1.g 0).n:Nat):Int)))) then l (.next ((W (v.1 + (1:Int))),(((),()),((v.2.2.1.1,(v.2.2.1.2.1,(v.2.2.1.2.2.1,(v.2.2.1.2.2.2.1,(v.2.2.1.2.2.2.2.1,((),())))))),(((),()),((bO v.2.2.2.2.1 0 (bO (v.2.2.2.2.1.g 0) (Int.toNat v.1) ((-1:Int),()))),((bO v.2.2.2.2.2.1 0 (bO (v.2.2.2.2.2.1.g 0) (Int.toNat v.1) u0.1)),()))))))) else l .bad else l .bad) (l .bad) else l .bad else l .bad else l (.out (.exit 2 (((),()),((v.2.2.1.1,(v.2.2.1.2.1,(v.2.2.1.2.2.1,(v.2.2.1.2.2.2.1,(v.2.2.1.2.2.2.2.1,((),())))))),(((),()),v.2.2.2.2)))))
theorem ad6:ZO HB 0 70 DU [] GB DV DW DX Ax:=fun _ _=>by kernel_rfl
def xq (c:ZD ic) (v:ZD iQ):RQ iQ nO:=Ax (fun r=>r) (fun _ _=>.bad) c v
theorem ad7:SO HB 0 70 DU [] GB DV DW DX xq:=fun c v=>by rw [ad6]; unfold xq Ax; simp only [bu,aM,pM]
def GC (c:ZD ic) (v:ZD iQ):LQ nO:=aH (xq c) cz v
theorem alQ:af (XM)=[.loop DQ,.loop DU]:=by kernel_rfl
noncomputable def ad8:List Loop:=[lk 0 DR DS DT false zA GA,lk 0 DV DW DX false zB GC]
def UR {α:Type} (l:Fs->α) (an:α->α->α) (x:(pF).den) (y:(pG).den):α:=bif (decide (((0:Int) < ((y.1.1.n:Nat):Int))/\((((y.1.1.n:Nat):Int)<=(281474976710656:Int))/\((((y.1.1.n:Nat):Int) * (24:Int))<=(281474976710656:Int))))) then bif (decide (((0:Int) < ((y.1.1.n:Nat):Int))/\((((y.1.1.n:Nat):Int)<=(281474976710656:Int))/\((((y.1.1.n:Nat):Int) * (24:Int))<=(281474976710656:Int))))) then aF (GA ((⟨0,fun i=>(((⟨0,fun i=>((0:Int),((⟨0,fun i=>((0:Int),((0:Int),((0:Int),((0:Int),((0:Int),((0:Int),()))))))⟩:Sl _),()))⟩:Sl _),((0:Int),((0:Int),((0:Int),((0:Int),((⟨0,fun i=>((⟨0,fun i=>((0:Int),())⟩:Sl _),())⟩:Sl _),())))))),())⟩:Sl _),(y.1,((),((),((),(y.1.1,(((y.1.1.n:Nat):Int),()))))))) ((0:Int),(((),()),((y.1.1,(y.1.2.1,(y.1.2.2.1,(y.1.2.2.2.1,(y.1.2.2.2.2.1,((),())))))),(((),()),((⟨(Int.toNat ((y.1.1.n:Nat):Int)),fun i=>(⟨0,fun i=>((0:Int),())⟩:Sl _)⟩:Sl _),((⟨(Int.toNat ((y.1.1.n:Nat):Int)),fun i=>(⟨0,fun i=>((0:Int),((0:Int),((0:Int),((0:Int),((0:Int),((0:Int),()))))))⟩:Sl _)⟩:Sl _),()))))))) 0 (fun u1=>bif (decide (((0:Int)<=(0:Int))/\((0:Int) < ((y.1.1.n:Nat):Int)))) then aF (GC ((⟨0,fun i=>(((⟨0,fun i=>((0:Int),((⟨0,fun i=>((0:Int),((0:Int),((0:Int),((0:Int),((0:Int),((0:Int),()))))))⟩:Sl _),()))⟩:Sl _),((0:Int),((0:Int),((0:Int),((0:Int),((⟨0,fun i=>((⟨0,fun i=>((0:Int),())⟩:Sl _),())⟩:Sl _),())))))),())⟩:Sl _),(y.1,((),((),((),((((y.1.1.g 0).2.1.n:Nat):Int),())))))) ((0:Int),(((),()),((u1.2.1.1,(u1.2.1.2.1,(u1.2.1.2.2.1,(u1.2.1.2.2.2.1,(u1.2.1.2.2.2.2.1,((),())))))),(((),()),u1.2.2.2))))) 2 (fun u2=>cl (Ty.dflt T67) (mD 20 ((⟨0,fun i=>(((⟨0,fun i=>((0:Int),((⟨0,fun i=>((0:Int),((0:Int),((0:Int),((0:Int),((0:Int),((0:Int),()))))))⟩:Sl _),()))⟩:Sl _),((0:Int),((0:Int),((0:Int),((0:Int),((⟨0,fun i=>((⟨0,fun i=>((0:Int),())⟩:Sl _),())⟩:Sl _),())))))),())⟩:Sl _),((1:Int),((0:Int),((0:Int),((0:Int),(y.1,((),((),((),((),((u2.2.1.1,(u2.2.1.2.1,(u2.2.1.2.2.1,(u2.2.1.2.2.2.1,(u2.2.1.2.2.2.2.1,((),())))))),(((),()),(y,(((),()),u2.2.2.2))))))))))))))) (fun u3=>an (l (.full ⟨gN,true,u3.1⟩)) (an (l (.stop ⟨gN,false,u3.1⟩)) (l (.bt ⟨gN,false,u3.1⟩)))) (l .bad)) (l .bad) else l .bad) (l .bad) else l .bad else l .bad
theorem awA (x:(pF).den) (y:(pG).den):ab5 Try.prog E0 HB Try.f108 ad8 alP x y=UR .leaf .any x y:=by kernel_rfl
-- kn108 : .cons (loopV_ok' hE (.inl rfl) hlo (LsOK_kn (by rw [lo108x0]; exact .nil)) (by kernel_rfl) (by kernel_rfl) sp108x0 (fun _=>rfl) (fun _ _=>rfl) (s108x0) big) (.cons (loopV_ok' hE (.inl rfl) hlo (LsOK_kn (by rw [lo108x1]; exact .nil)) (by kernel_rfl) (by kernel_rfl) sp108x1 (fun _=>rfl) (fun _ _=>rfl) (s108x1) big) (.nil))
def De (x:(pF).den) (y:(pG).den):Option (Sl (AN).den):=UR (Fs.opt AN) (fun a _=>a) x y
theorem alR (x:(pF).den) (y:(pG).den):KI (De x y) (UR .leaf .any x y):=by
 unfold De UR
 repeat' first
  | exact KI.bad
  | exact KI.any
  | with_reducible apply KI.bif
  | (refine KI.cl (fun u hu=>?_) ?_)
  | (refine KI.aF ?_ ?_)
def UX (x:(pF).den) (y:(pG).den):Bool:=(De x y).isSome
def abw (x:(pF).den) (y:(pG).den):Sl (AN).den:=(De x y).getD ⟨0,fun _=>Ty.dflt AN⟩
def aF8:LY:=⟨pF,pG,AN,UX,abw⟩
theorem awB:Pr Try.prog 108 aF8:=by
 refine Ep aA alO aB au (E:=E0) agO.a agO.b (ls:=ad8) aF8 rfl rfl (Nat.le_of_ble_eq_true (by kernel_rfl)) (by kernel_rfl) (fun G' hlo hok _=>?_) fun x y hp=>?_
 ·have hE:Env Try.prog E0 HB G' Fence.wide:=⟨aA,alO,aB,au,hok,.wide,fun _=>rfl⟩
  exact ai (by rw [alQ]; exact (.cons (nJ hE (.inl rfl) hlo (ai (by rw [XN]; exact .nil)) (by kernel_rfl) (by kernel_rfl) zA (fun _=>rfl) (fun _ _=>rfl) (ad5) cz) (.cons (nJ hE (.inl rfl) hlo (ai (by rw [XO]; exact .nil)) (by kernel_rfl) (by kernel_rfl) zB (fun _=>rfl) (fun _ _=>rfl) (ad7) cz) (.nil))))
 ·have hp:(De x y).isSome=true:=hp
  obtain ⟨z,hz⟩:=Option.isSome_iff_exists.1 hp
  have h:=alR x y z hz
  have h:Tree.kE (Fs.Ok AN z) (ab5 Try.prog E0 HB Try.f108 ad8 alP x y):=(awA x y).symm ▸ h
  show Tree.kE (Fs.Ok AN ((De x y).getD ⟨0,fun _=>Ty.dflt AN⟩)) _
  rw [hz]
  exact h
noncomputable def c81:=zo Try.f81
theorem Sg:zq 81 Try.f81 c81:=zu
abbrev T69:Ty:=(.seq gN)
abbrev T70:Ty:=(.cons T69 .nil)
abbrev a81:Ty:=Jd
abbrev RR:Ty:=T70
noncomputable def G81:Ctx:=Ctx.of [(108,.iter aF8)]
theorem g81:SP G81:=aD (fa ⟨⟨agO.c,awB⟩,f0⟩)
def Q81 {α:Type} (l:Option (RR).den->α) (an:α->α->α) (x:(a81).den):α:=bif (UX () (x.1,())) then l (some ((abw () (x.1,())),())) else l none
theorem q81:QO G81 Try.f81 [] a81 RR Q81:=fun _=>by kernel_rfl
def US (x:(a81).den):Option (RR).den:=Q81 (fun r=>r) (fun _ _=>none) x
theorem m81:MO G81 Try.f81 [] US:=fun x=>by rw [q81]; unfold US Q81; simp only [Tree.sure,iO]
def p81:=pO US
def v81:=vO (τ:=RR) US
def k81:ee:=⟨a81,RR,p81,v81⟩
theorem h81:Holds Try.prog 81 k81:=hO Sg g81 m81 l0
noncomputable def c77:=zo Try.f77
theorem ad9:zq 77 Try.f77 c77:=zu
abbrev a77:Ty:=Jd
abbrev Xi:Ty:=T3
noncomputable def G77:Ctx:=Ctx.of [(81,.pure k81)]
theorem g77:SP G77:=aD (fa ⟨⟨Sg.c,h81⟩,f0⟩)
noncomputable def Mo:Code:=mP ((af (c77))[0]?)
noncomputable def Li:Code:=tZ ((af (c77))[0]?)
abbrev jX:List aL:=[.slot 2 (.ptr 2),.box 2 [.pc .bool]]
theorem aea:af (Mo)=[]:=by kernel_rfl
def Tn {α:Type} (l:RO jX->α) (an:α->α->α) (x:ZD jX) (it:Ty.den gN):α:=l (.ret ((),((true,()),())))
theorem alU (x:ZD jX) (it:Ty.den gN):jl Try.prog E0 G77 0 500000 6 [5] Li Mo [] [] gN jX x it=Tn .leaf .any x it:=by kernel_rfl
def To (x:ZD jX) (it:Ty.den gN):RO jX:=Tn (fun r=>r) (fun _ _=>.bad) x it
theorem alV (x:ZD jX) (it:Ty.den gN):(jl Try.prog E0 G77 0 500000 6 [5] Li Mo [] [] gN jX x it).iZ .bad=To x it:=by rw [alU]; unfold To Tn; simp only [kC,Tree.iZ,qh,gA,gB]
def JD (x:ZD jX) (l:List (Ty.den gN)):RO jX:=eW To x l
theorem awD:af (c77)=[.rangeFunc (.tmp 4) #[5] Li Mo]:=by kernel_rfl
noncomputable def l77:List Loop:=[.known (tT 0 [] 4 gN jX [] [] (fun x l=>JD x l))]
def Q77 {α:Type} (l:Option (Xi).den->α) (an:α->α->α) (x:(a77).den):α:=cl (RR).dflt (US (x.1,())) (fun u0=>oQ (JD ((),((false,()),())) (Sl.list u0.1)) (fun u1=>l (some (false,()))) (oR (JD ((),((false,()),())) (Sl.list u0.1)) (fun u2=>l (some u2.2.1)) (l none))) (l none)
theorem q77:QO G77 Try.f77 l77 a77 Xi Q77:=fun _=>by kernel_rfl
def Yx (x:(a77).den):Option (Xi).den:=Q77 (fun r=>r) (fun _ _=>none) x
theorem m77:MO G77 Try.f77 l77 Yx:=fun x=>by rw [q77]; unfold Yx Q77; simp only [Tree.sure,iO]
def p77:=pO Yx
def v77:=vO (τ:=Xi) Yx
def k77:ee:=⟨a77,Xi,p77,v77⟩
theorem h77:Holds Try.prog 77 k77:=hO ad9 g77 m77 fun G' hlo hF hE=>ai (by rw [awD]; exact .cons (mO hE hF hlo ad9.a (by kernel_rfl) (by kernel_rfl) (by kernel_rfl) (by kernel_rfl) (by kernel_rfl) (fun G' hlo hF l hE=>fC) (fun G' hlo hF l hE=>ai (by rw [aea]; exact .nil)) alV) (.nil))
noncomputable def c63:=zo Try.f63
theorem NJ:zq 63 Try.f63 c63:=zu
abbrev T71:Ty:=(.cons PV T3)
abbrev a63:Ty:=T71
abbrev MH:Ty:=T0
noncomputable def G63:Ctx:=Ctx.of [(74,.pure k74),(77,.pure k77)]
theorem g63:SP G63:=aD (fa ⟨⟨aa7.c,h74⟩,fa ⟨⟨ad9.c,h77⟩,f0⟩⟩)
def Q63 {α:Type} (l:Option (MH).den->α) (an:α->α->α) (x:(a63).den):α:=cl (Wa).dflt (WW (x.1,())) (fun u0=>bif (!u0.1) then l (some ((2:Int),())) else bif (!x.2.1) then l (some ((2:Int),())) else cl (Xi).dflt (Yx (x.1,())) (fun u1=>bif (!u1.1) then l (some ((7:Int),())) else l (some ((0:Int),()))) (l none)) (l none)
theorem q63:QO G63 Try.f63 [] a63 MH Q63:=fun _=>by kernel_rfl
def Sh (x:(a63).den):Option (MH).den:=Q63 (fun r=>r) (fun _ _=>none) x
theorem m63:MO G63 Try.f63 [] Sh:=fun x=>by rw [q63]; unfold Sh Q63; simp only [Tree.sure,iO]
def p63:=pO Sh
def v63:=vO (τ:=MH) Sh
def k63:ee:=⟨a63,MH,p63,v63⟩
theorem h63:Holds Try.prog 63 k63:=hO NJ g63 m63 l0
noncomputable def aoz:=zo Try.f100
theorem RT:zq 100 Try.f100 aoz:=zu
abbrev T72:Ty:=(.cons T49 T1)
abbrev HC:Ty:=T72
abbrev xA:Ty:=T0
noncomputable def aec:Ctx:=Ctx.of [(118,.pure adN)]
theorem awF:SP aec:=aD (fa ⟨⟨aaa.c,adO⟩,f0⟩)
def aa9 {α:Type} (l:Option (xA).den->α) (an:α->α->α) (x:(HC).den):α:=bif (decide ((W (x.2.1 + (1:Int)))=((x.1.1.n:Nat):Int))) then l (some ((-1:Int),())) else bif (decide (((0:Int)<=(W (x.2.1 + (1:Int))))/\((W (x.2.1 + (1:Int))) < ((x.1.2.2.2.2.2.1.n:Nat):Int)))) then cl (Dx).dflt (Gq ((x.1.2.2.2.2.2.1.g (Int.toNat (W (x.2.1 + (1:Int))))).1,x.2.2)) (fun u0=>l (some u0)) (l none) else l none
theorem awG:QO aec Try.f100 [] HC xA aa9:=fun _=>by kernel_rfl
def Ay (x:(HC).den):Option (xA).den:=aa9 (fun r=>r) (fun _ _=>none) x
theorem awH:MO aec Try.f100 [] Ay:=fun x=>by rw [awG]; unfold Ay aa9; simp only [Tree.sure,iO]
def awI:=pO Ay
def awJ:=vO (τ:=xA) Ay
def XP:ee:=⟨HC,xA,awI,awJ⟩
theorem aba:Holds Try.prog 100 XP:=hO RT awF awH l0
noncomputable def c65:=zo Try.f65
theorem agQ:zq 65 Try.f65 c65:=zu
abbrev Ca:Ty:=(.agg T4)
abbrev T74:Ty:=(.map Ca tI)
abbrev T75:Ty:=(.cons T74 T0)
abbrev a65:Ty:=Jd
abbrev Yy:Ty:=T75
noncomputable def XQ:Ctx:=Ctx.of [(81,.pure k81),(100,.pure XP)]
theorem g65:SP XQ:=aD (fa ⟨⟨Sg.c,h81⟩,fa ⟨⟨RT.c,aba⟩,f0⟩⟩)
noncomputable def HD:Code:=mP ((af (c65))[0]?)
noncomputable def Lj:Code:=tZ ((af (c65))[0]?)
abbrev jL:List aL:=[.slot 1 (.ptr 1),.slot 4 (.ptr 85),.slot 5 (.ptr 86),.box 1 [.pc eX,.pc tI,.pc tI,.pc tI,.pc tI],.box 85 [.mp 91],.box 86 [.pc tI],.mp 91 Ca tI]
noncomputable def tB:Code:=aG ((af (HD))[0]?)
noncomputable def pY:Code:=aG ((af (tB))[0]?)
theorem Lk:af (pY)=[]:=by kernel_rfl
abbrev eN:List aL:=[.slot 1 (.ptr 1),.slot 4 (.ptr 85),.slot 5 (.ptr 86),.slot 6 (.ptr 500006),.slot 7 (.pc tI),.slot 18 (.pc tI),.slot 19 (.pc tI),.slot 26 (.pc (.sl T0)),.slot 27 (.pc tI),.box 1 [.pc eX,.pc tI,.pc tI,.pc tI,.pc tI],.box 86 [.pc tI],.box 500006 [.pc eX,.pc tI,.pc tI,.pc tI,.pc tI,.pc ec]]
abbrev ep:List aL:=[.slot 28 (.pc tI),.box 85 [.mp 91],.mp 91 Ca tI]
abbrev jt:List aL:=eN ++ ep
def pZ:ZJ eN ep jt:=ZA _ _
def iE:ZS eN ep jt:=ZP _ _
abbrev iF:aO:=⟨[(4,[.slot 1 (.ptr 1),.slot 4 (.ptr 85),.slot 5 (.ptr 86),.slot 6 (.ptr 500006),.slot 18 (.pc tI),.slot 19 (.pc tI),.box 1 [.pc eX,.pc tI,.pc tI,.pc tI,.pc tI],.box 86 [.pc tI],.box 500006 [.pc eX,.pc tI,.pc tI,.pc tI,.pc tI,.pc ec],.box 85 [.mp 91],.mp 91 Ca tI])],[],[]⟩
abbrev mE:aO:=⟨[(4,[.box 85 [.mp 91],.mp 91 Ca tI])],[],[]⟩
def nk:ZE eN mE iF:=fun id=>match id with | 4=>fun c y=>(c.1,(c.2.1,(c.2.2.1,(c.2.2.2.1,(c.2.2.2.2.2.1,(c.2.2.2.2.2.2.1,(c.2.2.2.2.2.2.2.2.2.1,(c.2.2.2.2.2.2.2.2.2.2.1,(c.2.2.2.2.2.2.2.2.2.2.2.1,y))))))))) | _=>jm
def sU {α:Type} (l:RQ ep mE->α) (an:α->α->α) (c:ZD eN) (v:ZD ep):α:=bif (decide (v.1 < c.2.2.2.2.2.2.2.2.1)) then bif (decide (((0:Int)<=v.1)/\(v.1 < ((c.2.2.2.2.2.2.2.1.n:Nat):Int)))) then bif (decide (c.2.2.2.2.1=(0:Int))) then bif (decide ((W (c.2.2.2.2.1 + (1:Int))) < ((c.2.2.2.2.2.2.2.2.2.1.1.n:Nat):Int))) then cl (xA).dflt (Ay (c.2.2.2.2.2.2.2.2.2.2.2.1,(c.2.2.2.2.1,(v.1,())))) (fun u0=>bif (decide (u0.1 < (0:Int))) then l (.next ((W (v.1 + (1:Int))),(((),()),((ek (nP Ca) v.2.2.1 ((2:Int),(c.2.2.2.2.1,(v.1,((0:Int),())))) (W ((Option.getD (v.2.2.1 ((2:Int),(c.2.2.2.2.1,(v.1,((0:Int),()))))) (0:Int)) + (1:Int)))),())))) else l (.next ((W (v.1 + (1:Int))),(((),()),v.2.2)))) (l .bad) else l (.next ((W (v.1 + (1:Int))),(((),()),v.2.2))) else bif (decide ((c.2.2.2.2.2.2.2.1.g (Int.toNat v.1)).1 < (0:Int))) then bif (decide ((W (c.2.2.2.2.1 + (1:Int))) < ((c.2.2.2.2.2.2.2.2.2.1.1.n:Nat):Int))) then cl (xA).dflt (Ay (c.2.2.2.2.2.2.2.2.2.2.2.1,(c.2.2.2.2.1,(v.1,())))) (fun u1=>bif (decide (u1.1 < (0:Int))) then l (.next ((W (v.1 + (1:Int))),(((),()),((ek (nP Ca) (ek (nP Ca) v.2.2.1 ((1:Int),(c.2.2.2.2.1,(v.1,((0:Int),())))) (W ((Option.getD (v.2.2.1 ((1:Int),(c.2.2.2.2.1,(v.1,((0:Int),()))))) (0:Int)) + (1:Int)))) ((2:Int),(c.2.2.2.2.1,(v.1,((0:Int),())))) (W ((Option.getD (ek (nP Ca) v.2.2.1 ((1:Int),(c.2.2.2.2.1,(v.1,((0:Int),())))) (W ((Option.getD (v.2.2.1 ((1:Int),(c.2.2.2.2.1,(v.1,((0:Int),()))))) (0:Int)) + (1:Int))) ((2:Int),(c.2.2.2.2.1,(v.1,((0:Int),()))))) (0:Int)) + (1:Int)))),())))) else l (.next ((W (v.1 + (1:Int))),(((),()),((ek (nP Ca) v.2.2.1 ((1:Int),(c.2.2.2.2.1,(v.1,((0:Int),())))) (W ((Option.getD (v.2.2.1 ((1:Int),(c.2.2.2.2.1,(v.1,((0:Int),()))))) (0:Int)) + (1:Int)))),()))))) (l .bad) else l (.next ((W (v.1 + (1:Int))),(((),()),((ek (nP Ca) v.2.2.1 ((1:Int),(c.2.2.2.2.1,(v.1,((0:Int),())))) (W ((Option.getD (v.2.2.1 ((1:Int),(c.2.2.2.2.1,(v.1,((0:Int),()))))) (0:Int)) + (1:Int)))),())))) else bif (decide ((W (c.2.2.2.2.1 + (1:Int))) < ((c.2.2.2.2.2.2.2.2.2.1.1.n:Nat):Int))) then cl (xA).dflt (Ay (c.2.2.2.2.2.2.2.2.2.2.2.1,(c.2.2.2.2.1,(v.1,())))) (fun u2=>bif (decide (u2.1 < (0:Int))) then l (.next ((W (v.1 + (1:Int))),(((),()),((ek (nP Ca) (ek (nP Ca) v.2.2.1 ((0:Int),(c.2.2.2.2.1,(v.1,(c.2.2.2.2.2.2.2.1.g (Int.toNat v.1))))) (W ((Option.getD (v.2.2.1 ((0:Int),(c.2.2.2.2.1,(v.1,(c.2.2.2.2.2.2.2.1.g (Int.toNat v.1)))))) (0:Int)) + (1:Int)))) ((2:Int),(c.2.2.2.2.1,(v.1,((0:Int),())))) (W ((Option.getD (ek (nP Ca) v.2.2.1 ((0:Int),(c.2.2.2.2.1,(v.1,(c.2.2.2.2.2.2.2.1.g (Int.toNat v.1))))) (W ((Option.getD (v.2.2.1 ((0:Int),(c.2.2.2.2.1,(v.1,(c.2.2.2.2.2.2.2.1.g (Int.toNat v.1)))))) (0:Int)) + (1:Int))) ((2:Int),(c.2.2.2.2.1,(v.1,((0:Int),()))))) (0:Int)) + (1:Int)))),())))) else l (.next ((W (v.1 + (1:Int))),(((),()),((ek (nP Ca) v.2.2.1 ((0:Int),(c.2.2.2.2.1,(v.1,(c.2.2.2.2.2.2.2.1.g (Int.toNat v.1))))) (W ((Option.getD (v.2.2.1 ((0:Int),(c.2.2.2.2.1,(v.1,(c.2.2.2.2.2.2.2.1.g (Int.toNat v.1)))))) (0:Int)) + (1:Int)))),()))))) (l .bad) else l (.next ((W (v.1 + (1:Int))),(((),()),((ek (nP Ca) v.2.2.1 ((0:Int),(c.2.2.2.2.1,(v.1,(c.2.2.2.2.2.2.2.1.g (Int.toNat v.1))))) (W ((Option.getD (v.2.2.1 ((0:Int),(c.2.2.2.2.1,(v.1,(c.2.2.2.2.2.2.2.1.g (Int.toNat v.1)))))) (0:Int)) + (1:Int)))),())))) else l .bad else l (.out (.exit 4 (((),()),v.2.2)))
theorem OH (c:ZD eN) (v:ZD ep):aU Try.prog (E0.rw [] [2000]).uD XQ 500000 81 [] jt iF pY [] (pZ c v)=sU (fun r=>.leaf (r.lift pZ nk ZI ZI c)) .any c v:=by kernel_rfl
def qY (c:ZD eN) (v:ZD ep):RQ ep mE:=sU (fun r=>r) (fun _ _=>.bad) c v
theorem OJ (c:ZD eN) (v:ZD ep):bu (aU Try.prog (E0.rw [] [2000]).uD XQ 500000 81 [] jt iF pY [] (pZ c v))=(qY c v).lift pZ nk ZI ZI c:=by rw [OH]; unfold qY sU; simp only [bu,aM,pM]
def sV (c:ZD eN) (v:ZD ep):LQ mE:=aH (qY c) cz v
theorem Tp:af (tB)=[.loop pY]:=by kernel_rfl
abbrev gK:List aL:=[.slot 1 (.ptr 1),.slot 4 (.ptr 85),.slot 5 (.ptr 86),.slot 6 (.ptr 500006),.slot 18 (.pc tI),.box 1 [.pc eX,.pc tI,.pc tI,.pc tI,.pc tI],.box 86 [.pc tI],.box 500006 [.pc eX,.pc tI,.pc tI,.pc tI,.pc tI,.pc ec]]
abbrev fF:List aL:=[.slot 19 (.pc tI),.box 85 [.mp 91],.mp 91 Ca tI]
abbrev nt:List aL:=gK ++ fF
def xL:ZJ gK fF nt:=ZA _ _
def lZ:ZS gK fF nt:=ZP _ _
abbrev mb:aO:=⟨[(2,[.slot 1 (.ptr 1),.slot 4 (.ptr 85),.slot 5 (.ptr 86),.box 1 [.pc eX,.pc tI,.pc tI,.pc tI,.pc tI],.box 86 [.pc tI],.box 85 [.mp 91],.mp 91 Ca tI])],[],[]⟩
abbrev sH:aO:=⟨[(2,[.box 85 [.mp 91],.mp 91 Ca tI])],[],[]⟩
def tC:ZE gK sH mb:=fun id=>match id with | 2=>fun c y=>(c.1,(c.2.1,(c.2.2.1,(c.2.2.2.2.2.1,(c.2.2.2.2.2.2.1,y))))) | _=>jm
def AO {α:Type} (l:RQ fF sH->α) (an:α->α->α) (c:ZD gK) (v:ZD fF):α:=bif (decide (v.1 < c.2.2.2.2.1)) then bif (decide (((0:Int)<=v.1)/\(v.1 < ((c.2.2.2.2.2.2.2.1.2.2.2.2.2.1.n:Nat):Int)))) then aF (sV ((),((),((),((),(v.1,(c.2.2.2.2.1,(v.1,((c.2.2.2.2.2.2.2.1.2.2.2.2.2.1.g (Int.toNat v.1)).1,((((c.2.2.2.2.2.2.2.1.2.2.2.2.2.1.g (Int.toNat v.1)).1.n:Nat):Int),(c.2.2.2.2.2.1,(c.2.2.2.2.2.2.1,(c.2.2.2.2.2.2.2.1,())))))))))))) ((0:Int),(((),()),v.2.2))) 4 (fun u3=>l (.next ((W (v.1 + (1:Int))),(((),()),u3.2)))) (l .bad) else l .bad else l (.out (.exit 2 (((),()),v.2.2)))
theorem XR (c:ZD gK) (v:ZD fF):aU Try.prog (E0.rw [] [2000]).uD XQ 500000 81 [] nt mb tB [lk 500000 nk ZI ZI false iE sV] (xL c v)=AO (fun r=>.leaf (r.lift xL tC ZI ZI c)) .any c v:=by kernel_rfl
def zC (c:ZD gK) (v:ZD fF):RQ fF sH:=AO (fun r=>r) (fun _ _=>.bad) c v
theorem XS (c:ZD gK) (v:ZD fF):bu (aU Try.prog (E0.rw [] [2000]).uD XQ 500000 81 [] nt mb tB [lk 500000 nk ZI ZI false iE sV] (xL c v))=(zC c v).lift xL tC ZI ZI c:=by rw [XR]; unfold zC AO; simp only [bu,aM,pM]
def AP (c:ZD gK) (v:ZD fF):LQ sH:=aH (zC c) cz v
theorem aee:af (HD)=[.loop tB]:=by kernel_rfl
def RU {α:Type} (l:RO jL->α) (an:α->α->α) (x:ZD jL) (it:Ty.den gN):α:=aF (AP ((),((),((),((),(((x.2.2.2.1.1.n:Nat):Int),(x.2.2.2.1,(((W (x.2.2.2.2.2.1.1 + (1:Int))),()),(it.1,())))))))) ((0:Int),(((),()),x.2.2.2.2.2.2))) 2 (fun u4=>l (.next ((),((),((),(x.2.2.2.1,(((),()),(((W (x.2.2.2.2.2.1.1 + (1:Int))),()),u4.2)))))))) (l .bad)
theorem alW (x:ZD jL) (it:Ty.den gN):jl Try.prog (E0.rw [] [2000]) XQ 0 500000 81 [13] Lj HD [] [lk 500000 tC ZI ZI false lZ AP] gN jL x it=RU .leaf .any x it:=by kernel_rfl
def PG (x:ZD jL) (it:Ty.den gN):RO jL:=RU (fun r=>r) (fun _ _=>.bad) x it
theorem alX (x:ZD jL) (it:Ty.den gN):(jl Try.prog (E0.rw [] [2000]) XQ 0 500000 81 [13] Lj HD [] [lk 500000 tC ZI ZI false lZ AP] gN jL x it).iZ .bad=PG x it:=by rw [alW]; unfold PG RU; simp only [kC,Tree.iZ,qh,gA,gB]
def PI (x:ZD jL) (l:List (Ty.den gN)):RO jL:=eW PG x l
theorem awK:af (c65)=[.rangeFunc (.tmp 12) #[13] Lj HD]:=by kernel_rfl
noncomputable def l65:List Loop:=[.known (tT 0 [] 12 gN jL [] [] (fun x l=>PI x l))]
def Q65 {α:Type} (l:Option (Yy).den->α) (an:α->α->α) (x:(a65).den):α:=cl (RR).dflt (US (x.1,())) (fun u5=>oQ (PI ((),((),((),(x.1,(((),()),(((0:Int),()),((fun y1=>none),()))))))) (Sl.list u5.1)) (fun u6=>l (some (u6.2.2.2.2.2.2.1,u6.2.2.2.2.2.1))) (oR (PI ((),((),((),(x.1,(((),()),(((0:Int),()),((fun y1=>none),()))))))) (Sl.list u5.1)) (fun u7=>l none) (l none))) (l none)
theorem q65 (x:(a65).den):aI Try.prog (E0.rw [] [2000]) XQ Try.f65 l65 a65 Yy x=Q65 .leaf .any x:=by kernel_rfl
def M65 (x:(a65).den):Option (Yy).den:=Q65 (fun r=>r) (fun _ _=>none) x
theorem m65 (x:(a65).den):(aI Try.prog (E0.rw [] [2000]) XQ Try.f65 l65 a65 Yy x).sure=M65 x:=by rw [q65]; unfold M65 Q65; simp only [Tree.sure,iO]
def p65:=pO M65
def v65:=vO (τ:=Yy) M65
def k65:ee:=⟨a65,Yy,p65,v65⟩
theorem h65:Holds Try.prog 65 k65:=aC (E:=(E0.rw [] [2000])) aA g65 aB au agQ.a agQ.b (by kernel_rfl) m65 fun G' hlo hF hE=>ai (by rw [awK]; exact .cons (mO hE hF hlo agQ.a (by kernel_rfl) (by kernel_rfl) (by kernel_rfl) (by kernel_rfl) (by kernel_rfl) (fun G' hlo hF l hE=>fC) (fun G' hlo hF l hE=>ai (by rw [aee]; exact .cons (bE hE hF hlo (ai (by rw [Tp]; exact .cons (bE hE hF hlo (ai (by rw [Lk]; exact .nil)) (by kernel_rfl) (by kernel_rfl) iE (fun _=>rfl) (fun _ _=>rfl) (OJ) cz) (.nil))) (by kernel_rfl) (by kernel_rfl) lZ (fun _=>rfl) (fun _ _=>rfl) (XS) cz) (.nil))) alX) (.nil))
noncomputable def c66:=zo Try.f66
theorem ajU:zq 66 Try.f66 c66:=zu
abbrev a66:Ty:=T1
abbrev r66:Ty:=T0
noncomputable def G66:Ctx:=Ctx.of []
theorem g66:SP G66:=aD f0
def Q66 {α:Type} (l:Option (r66).den->α) (an:α->α->α) (x:(a66).den):α:=bif (decide (x.1=(0:Int))) then l (some ((1:Int),())) else bif (decide (x.1=x.2.1)) then l (some ((3:Int),())) else l (some ((2:Int),()))
theorem q66:QO G66 Try.f66 [] a66 r66 Q66:=fun _=>by kernel_rfl
def M66 (x:(a66).den):Option (r66).den:=Q66 (fun r=>r) (fun _ _=>none) x
theorem m66:MO G66 Try.f66 [] M66:=fun x=>by rw [q66]; unfold M66 Q66; simp only [Tree.sure,iO]
def p66:=pO M66
def v66:=vO (τ:=r66) M66
def k66:ee:=⟨a66,r66,p66,v66⟩
theorem h66:Holds Try.prog 66 k66:=hO ajU g66 m66 l0
noncomputable def c18:=zo Try.f18
theorem alY:zq 18 Try.f18 c18:=zu
abbrev T76:Ty:=(.cons PV T0)
abbrev T77:Ty:=(.cons ec T0)
abbrev Tq:Ty:=T76
abbrev MF:Ty:=T77
noncomputable def G18:Ctx:=Ctx.of [(63,.pure k63),(64,.pure k64),(65,.pure k65),(66,.pure k66)]
theorem g18:SP G18:=aD (fa ⟨⟨NJ.c,h63⟩,fa ⟨⟨VM.c,h64⟩,fa ⟨⟨agQ.c,h65⟩,fa ⟨⟨ajU.c,h66⟩,f0⟩⟩⟩⟩)
noncomputable def HE:Code:=aG ((af (c18))[0]?)
noncomputable def xM:Code:=aG ((af (HE))[0]?)
theorem Ts:af (xM)=[]:=by kernel_rfl
abbrev iG:List aL:=[.slot 1 (.pc tI),.slot 2 (.ptr 2),.slot 7 (.pc T74),.slot 8 (.pc tI),.slot 9 (.own 1000009 46 nK),.slot 10 (.pc tI),.slot 35 (.pc tI),.slot 36 (.pc tI),.slot 46 (.pc tI),.box 2 [.pc eX,.pc tI,.pc tI,.pc tI,.pc tI]]
abbrev fP:List aL:=[.slot 11 (.own 1000011 47 T0),.slot 47 (.pc tI)]
abbrev nu:List aL:=iG ++ fP
def zD:ZJ iG fP nu:=ZA _ _
def jY:ZS iG fP nu:=ZP _ _
abbrev kN:aO:=⟨[(2,[.slot 1 (.pc tI),.slot 2 (.ptr 2),.slot 7 (.pc T74),.slot 8 (.pc tI),.slot 9 (.own 1000009 46 nK),.slot 35 (.pc tI),.slot 36 (.pc tI),.box 2 [.pc eX,.pc tI,.pc tI,.pc tI,.pc tI],.slot 11 (.pc (.sl T0))])],[],[]⟩
abbrev sI:aO:=⟨[(2,[.slot 11 (.pc (.sl T0))])],[],[]⟩
def tD:ZE iG sI kN:=fun id=>match id with | 2=>fun c y=>(c.1,(c.2.1,(c.2.2.1,(c.2.2.2.1,(c.2.2.2.2.1,(c.2.2.2.2.2.2.1,(c.2.2.2.2.2.2.2.1,(c.2.2.2.2.2.2.2.2.2.1,y)))))))) | _=>jm
def AQ {α:Type} (l:RQ fP sI->α) (an:α->α->α) (c:ZD iG) (v:ZD fP):α:=bif (decide (v.2.1 < c.2.2.2.2.2.2.2.2.1)) then cl (r66).dflt (M66 ((Option.getD (c.2.2.1 ((0:Int),(c.1,(c.2.2.2.2.2.1,v.2)))) (0:Int)),(c.2.2.2.1,()))) (fun u0=>bif (decide (((v.1.n + 1) * 8)<=140737488355328)) then l (.next ((cK v.1 (⟨1,fun i=>List.getD [u0] i u0⟩:Sl (Ty.den T0))),((W (v.2.1 + (1:Int))),()))) else l .bad) (l .bad) else l (.out (.exit 2 (v.1,())))
theorem XT:ZO G18 0 68 xM [] zD tD ZI ZI AQ:=fun _ _=>by kernel_rfl
def AR (c:ZD iG) (v:ZD fP):RQ fP sI:=AQ (fun r=>r) (fun _ _=>.bad) c v
theorem XU:SO G18 0 68 xM [] zD tD ZI ZI AR:=fun c v=>by rw [XT]; unfold AR AQ; simp only [bu,aM,pM]
def zE (c:ZD iG) (v:ZD fP):LQ sI:=aH (AR c) cz v
theorem aeg:af (HE)=[.loop xM]:=by kernel_rfl
abbrev om:List aL:=[.slot 1 (.pc tI),.slot 2 (.ptr 2),.slot 7 (.pc T74),.slot 8 (.pc tI),.slot 35 (.pc tI),.box 2 [.pc eX,.pc tI,.pc tI,.pc tI,.pc tI]]
abbrev lp:List aL:=[.slot 9 (.own 1000009 46 nK),.slot 36 (.pc tI)]
abbrev By:List aL:=om ++ lp
def OZ:ZJ om lp By:=ZA _ _
def GD:ZS om lp By:=ZP _ _
abbrev CC:aO:=⟨[(0,[.slot 9 (.pc (.sl nK))])],[],[]⟩
abbrev CD:aO:=⟨[(0,[.slot 9 (.pc (.sl nK))])],[],[]⟩
def Ll:ZE om CD CC:=fun id=>match id with | 0=>fun c y=>y | _=>jm
def PJ {α:Type} (l:RQ lp CD->α) (an:α->α->α) (c:ZD om) (v:ZD lp):α:=bif (decide (v.2.1 < c.2.2.2.2.1)) then bif (decide (((0:Int)<=(W (c.1 - (1:Int))))/\((W (c.1 - (1:Int))) < ((c.2.2.2.2.2.1.1.n:Nat):Int)))) then aF (zE (c.1,((),(c.2.2.1,(c.2.2.2.1,(v.1,(v.2.1,(c.2.2.2.2.1,(v.2.1,((((c.2.2.2.2.2.1.1.g (Int.toNat (W (c.1 - (1:Int))))).2.1.n:Nat):Int),(c.2.2.2.2.2.1,())))))))))) ((⟨0,fun i=>((0:Int),())⟩:Sl _),((0:Int),()))) 2 (fun u1=>bif (decide (((v.1.n + 1) * 24)<=140737488355328)) then l (.next ((cK v.1 (⟨1,fun i=>List.getD [u1] i u1⟩:Sl (Ty.den nK))),((W (v.2.1 + (1:Int))),()))) else l .bad) (l .bad) else l .bad else l (.out (.exit 0 (v.1,())))
theorem alZ:ZO G18 0 68 HE [.known (bF 0 [] nu fun x=>aJ kN tD ZI ZI [] false (jY x).1 (zE (jY x).1 (jY x).2) kN.bw)] OZ Ll ZI ZI PJ:=fun _ _=>by kernel_rfl
def PK (c:ZD om) (v:ZD lp):RQ lp CD:=PJ (fun r=>r) (fun _ _=>.bad) c v
theorem al0:SO G18 0 68 HE [.known (bF 0 [] nu fun x=>aJ kN tD ZI ZI [] false (jY x).1 (zE (jY x).1 (jY x).2) kN.bw)] OZ Ll ZI ZI PK:=fun c v=>by rw [alZ]; unfold PK PJ; simp only [bu,aM,pM]
def Xj (c:ZD om) (v:ZD lp):LQ CD:=aH (PK c) cz v
theorem awQ:af (c18)=[.loop HE]:=by kernel_rfl
noncomputable def l18:List Loop:=[lk 0 Ll ZI ZI false GD Xj]
def Q18 {α:Type} (l:Option (MF).den->α) (an:α->α->α) (x:(Tq).den):α:=cl (r64).dflt (Kk (x.2.1,((1:Int),((W (((x.1.1.n:Nat):Int) - (1:Int))),())))) (fun u2=>cl (MH).dflt (Sh (x.1,u2)) (fun u3=>bif (!(decide (u3.1=(0:Int)))) then l (some ((⟨0,fun i=>((⟨0,fun i=>((0:Int),())⟩:Sl _),())⟩:Sl _),u3)) else cl (Yy).dflt (M65 (x.1,())) (fun u4=>bif (decide (((0:Int)<=x.2.1)/\(x.2.1 < ((x.1.1.n:Nat):Int)))) then aF (Xj (x.2.1,((),(u4.1,(u4.2.1,((((x.1.1.g (Int.toNat x.2.1)).2.1.n:Nat):Int),(x.1,())))))) ((⟨0,fun i=>((⟨0,fun i=>((0:Int),())⟩:Sl _),())⟩:Sl _),((0:Int),()))) 0 (fun u5=>l (some (u5.1,((0:Int),())))) (l none) else l none) (l none)) (l none)) (l none)
theorem q18:QO G18 Try.f18 l18 Tq MF Q18:=fun _=>by kernel_rfl
def XV (x:(Tq).den):Option (MF).den:=Q18 (fun r=>r) (fun _ _=>none) x
theorem m18:MO G18 Try.f18 l18 XV:=fun x=>by rw [q18]; unfold XV Q18; simp only [Tree.sure,iO]
def p18:=pO XV
def v18:=vO (τ:=MF) XV
def k18:ee:=⟨Tq,MF,p18,v18⟩
theorem h18:Holds Try.prog 18 k18:=hO alY g18 m18 fun G' hlo hF hE=>ai (by rw [awQ]; exact .cons (lv hE hF hlo (ai (by rw [aeg]; exact .cons (lv hE hF hlo (ln Ts) jY XU) (.nil))) GD al0) (.nil))
noncomputable def c67:=zo Try.f67
theorem ajV:zq 67 Try.f67 c67:=zu
abbrev T78:Ty:=(.cons PV T2)
abbrev a67:Ty:=T78
abbrev r67:Ty:=T77
noncomputable def G67:Ctx:=Ctx.of [(63,.pure k63),(65,.pure k65),(66,.pure k66)]
theorem g67:SP G67:=aD (fa ⟨⟨NJ.c,h63⟩,fa ⟨⟨agQ.c,h65⟩,fa ⟨⟨ajU.c,h66⟩,f0⟩⟩⟩)
noncomputable def HF:Code:=aG ((af (c67))[0]?)
noncomputable def xN:Code:=aG ((af (HF))[0]?)
theorem Tt:af (xN)=[]:=by kernel_rfl
abbrev iH:List aL:=[.slot 1 (.pc tI),.slot 2 (.pc tI),.slot 4 (.ptr 4),.slot 11 (.pc T74),.slot 12 (.pc tI),.slot 13 (.own 1000013 46 nK),.slot 14 (.pc tI),.slot 30 (.pc tI),.slot 31 (.pc tI),.slot 42 (.pc tI),.box 4 [.pc eX,.pc tI,.pc tI,.pc tI,.pc tI]]
abbrev fQ:List aL:=[.slot 15 (.own 1000015 47 T0),.slot 43 (.pc tI)]
abbrev nv:List aL:=iH ++ fQ
def zF:ZJ iH fQ nv:=ZA _ _
def jZ:ZS iH fQ nv:=ZP _ _
abbrev kO:aO:=⟨[(2,[.slot 1 (.pc tI),.slot 2 (.pc tI),.slot 4 (.ptr 4),.slot 11 (.pc T74),.slot 12 (.pc tI),.slot 13 (.own 1000013 46 nK),.slot 30 (.pc tI),.slot 31 (.pc tI),.box 4 [.pc eX,.pc tI,.pc tI,.pc tI,.pc tI],.slot 15 (.pc (.sl T0))])],[],[]⟩
abbrev sJ:aO:=⟨[(2,[.slot 15 (.pc (.sl T0))])],[],[]⟩
def tE:ZE iH sJ kO:=fun id=>match id with | 2=>fun c y=>(c.1,(c.2.1,(c.2.2.1,(c.2.2.2.1,(c.2.2.2.2.1,(c.2.2.2.2.2.1,(c.2.2.2.2.2.2.2.1,(c.2.2.2.2.2.2.2.2.1,(c.2.2.2.2.2.2.2.2.2.2.1,y))))))))) | _=>jm
def AS {α:Type} (l:RQ fQ sJ->α) (an:α->α->α) (c:ZD iH) (v:ZD fQ):α:=bif (decide (v.2.1 < c.2.2.2.2.2.2.2.2.2.1)) then cl (r66).dflt (M66 ((Option.getD (c.2.2.2.1 (c.1,((W (c.2.1 + c.2.2.2.2.2.2.1)),(v.2.1,((0:Int),()))))) (0:Int)),(c.2.2.2.2.1,()))) (fun u0=>bif (decide (((v.1.n + 1) * 8)<=140737488355328)) then l (.next ((cK v.1 (⟨1,fun i=>List.getD [u0] i u0⟩:Sl (Ty.den T0))),((W (v.2.1 + (1:Int))),()))) else l .bad) (l .bad) else l (.out (.exit 2 (v.1,())))
theorem XW:ZO G67 0 66 xN [] zF tE ZI ZI AS:=fun _ _=>by kernel_rfl
def AT (c:ZD iH) (v:ZD fQ):RQ fQ sJ:=AS (fun r=>r) (fun _ _=>.bad) c v
theorem XX:SO G67 0 66 xN [] zF tE ZI ZI AT:=fun c v=>by rw [XW]; unfold AT AS; simp only [bu,aM,pM]
def zG (c:ZD iH) (v:ZD fQ):LQ sJ:=aH (AT c) cz v
theorem aei:af (HF)=[.loop xN]:=by kernel_rfl
abbrev oo:List aL:=[.slot 1 (.pc tI),.slot 2 (.pc tI),.slot 4 (.ptr 4),.slot 11 (.pc T74),.slot 12 (.pc tI),.slot 30 (.pc tI),.box 4 [.pc eX,.pc tI,.pc tI,.pc tI,.pc tI]]
abbrev lq:List aL:=[.slot 13 (.own 1000013 46 nK),.slot 31 (.pc tI)]
abbrev Bz:List aL:=oo ++ lq
def Pa:ZJ oo lq Bz:=ZA _ _
def GF:ZS oo lq Bz:=ZP _ _
abbrev CE:aO:=⟨[(0,[.slot 13 (.pc (.sl nK))])],[],[]⟩
abbrev CF:aO:=⟨[(0,[.slot 13 (.pc (.sl nK))])],[],[]⟩
def Lm:ZE oo CF CE:=fun id=>match id with | 0=>fun c y=>y | _=>jm
def PL {α:Type} (l:RQ lq CF->α) (an:α->α->α) (c:ZD oo) (v:ZD lq):α:=bif (decide (v.2.1 < c.2.2.2.2.2.1)) then bif (decide (((0:Int)<=(W (c.2.1 + v.2.1)))/\((W (c.2.1 + v.2.1)) < ((c.2.2.2.2.2.2.1.1.n:Nat):Int)))) then aF (zG (c.1,(c.2.1,((),(c.2.2.2.1,(c.2.2.2.2.1,(v.1,(v.2.1,(c.2.2.2.2.2.1,(v.2.1,((((c.2.2.2.2.2.2.1.1.g (Int.toNat (W (c.2.1 + v.2.1)))).2.1.n:Nat):Int),(c.2.2.2.2.2.2.1,()))))))))))) ((⟨0,fun i=>((0:Int),())⟩:Sl _),((0:Int),()))) 2 (fun u1=>bif (decide (((v.1.n + 1) * 24)<=140737488355328)) then l (.next ((cK v.1 (⟨1,fun i=>List.getD [u1] i u1⟩:Sl (Ty.den nK))),((W (v.2.1 + (1:Int))),()))) else l .bad) (l .bad) else l .bad else l (.out (.exit 0 (v.1,())))
theorem al1:ZO G67 0 66 HF [.known (bF 0 [] nv fun x=>aJ kO tE ZI ZI [] false (jZ x).1 (zG (jZ x).1 (jZ x).2) kO.bw)] Pa Lm ZI ZI PL:=fun _ _=>by kernel_rfl
def PM (c:ZD oo) (v:ZD lq):RQ lq CF:=PL (fun r=>r) (fun _ _=>.bad) c v
theorem al2:SO G67 0 66 HF [.known (bF 0 [] nv fun x=>aJ kO tE ZI ZI [] false (jZ x).1 (zG (jZ x).1 (jZ x).2) kO.bw)] Pa Lm ZI ZI PM:=fun c v=>by rw [al1]; unfold PM PL; simp only [bu,aM,pM]
def Xk (c:ZD oo) (v:ZD lq):LQ CF:=aH (PM c) cz v
theorem awS:af (c67)=[.loop HF]:=by kernel_rfl
noncomputable def l67:List Loop:=[lk 0 Lm ZI ZI false GF Xk]
def Q67 {α:Type} (l:Option (r67).den->α) (an:α->α->α) (x:(a67).den):α:=cl (MH).dflt (Sh (x.1,(true,()))) (fun u2=>bif (!(decide (u2.1=(0:Int)))) then l (some ((⟨0,fun i=>((⟨0,fun i=>((0:Int),())⟩:Sl _),())⟩:Sl _),u2)) else cl (Yy).dflt (M65 (x.1,())) (fun u3=>aF (Xk (x.2.1,(x.2.2.1,((),(u3.1,(u3.2.1,((W ((W (x.2.2.2.1 - x.2.2.1)) + (1:Int))),(x.1,()))))))) ((⟨0,fun i=>((⟨0,fun i=>((0:Int),())⟩:Sl _),())⟩:Sl _),((0:Int),()))) 0 (fun u4=>l (some (u4.1,((0:Int),())))) (l none)) (l none)) (l none)
theorem q67:QO G67 Try.f67 l67 a67 r67 Q67:=fun _=>by kernel_rfl
def M67 (x:(a67).den):Option (r67).den:=Q67 (fun r=>r) (fun _ _=>none) x
theorem m67:MO G67 Try.f67 l67 M67:=fun x=>by rw [q67]; unfold M67 Q67; simp only [Tree.sure,iO]
def p67:=pO M67
def v67:=vO (τ:=r67) M67
def k67:ee:=⟨a67,r67,p67,v67⟩
theorem h67:Holds Try.prog 67 k67:=hO ajV g67 m67 fun G' hlo hF hE=>ai (by rw [awS]; exact .cons (lv hE hF hlo (ai (by rw [aei]; exact .cons (lv hE hF hlo (ln Tt) jZ XX) (.nil))) GF al2) (.nil))
noncomputable def c19:=zo Try.f19
theorem al3:zq 19 Try.f19 c19:=zu
abbrev Tu:Ty:=Jd
abbrev OK:Ty:=T77
noncomputable def G19:Ctx:=Ctx.of [(67,.pure k67)]
theorem g19:SP G19:=aD (fa ⟨⟨ajV.c,h67⟩,f0⟩)
def Q19 {α:Type} (l:Option (OK).den->α) (an:α->α->α) (x:(Tu).den):α:=cl (r67).dflt (M67 (x.1,((1:Int),((1:Int),((W (((x.1.1.n:Nat):Int) - (1:Int))),()))))) (fun u0=>l (some u0)) (l none)
theorem q19:QO G19 Try.f19 [] Tu OK Q19:=fun _=>by kernel_rfl
def M19 (x:(Tu).den):Option (OK).den:=Q19 (fun r=>r) (fun _ _=>none) x
theorem m19:MO G19 Try.f19 [] M19:=fun x=>by rw [q19]; unfold M19 Q19; simp only [Tree.sure,iO]
def p19:=pO M19
def v19:=vO (τ:=OK) M19
def k19:ee:=⟨Tu,OK,p19,v19⟩
theorem h19:Holds Try.prog 19 k19:=hO al3 g19 m19 l0
noncomputable def c20:=zo Try.f20
theorem aoA:zq 20 Try.f20 c20:=zu
abbrev a20:Ty:=Jd
abbrev Pz:Ty:=T77
noncomputable def G20:Ctx:=Ctx.of [(67,.pure k67)]
theorem g20:SP G20:=aD (fa ⟨⟨ajV.c,h67⟩,f0⟩)
def Q20 {α:Type} (l:Option (Pz).den->α) (an:α->α->α) (x:(a20).den):α:=cl (r67).dflt (M67 (x.1,((2:Int),((0:Int),((W (((x.1.1.n:Nat):Int) - (2:Int))),()))))) (fun u0=>l (some u0)) (l none)
theorem q20:QO G20 Try.f20 [] a20 Pz Q20:=fun _=>by kernel_rfl
def M20 (x:(a20).den):Option (Pz).den:=Q20 (fun r=>r) (fun _ _=>none) x
theorem m20:MO G20 Try.f20 [] M20:=fun x=>by rw [q20]; unfold M20 Q20; simp only [Tree.sure,iO]
def p20:=pO M20
def v20:=vO (τ:=Pz) M20
def k20:ee:=⟨a20,Pz,p20,v20⟩
theorem h20:Holds Try.prog 20 k20:=hO aoA g20 m20 l0
noncomputable def c23:=zo Try.f23
theorem apm:zq 23 Try.f23 c23:=zu
abbrev T79:Ty:=(.cons ec OG)
abbrev Tv:Ty:=T79
abbrev IN:Ty:=T3
noncomputable def G23:Ctx:=Ctx.of []
theorem g23:SP G23:=aD f0
noncomputable def HG:Code:=aG ((af (c23))[0]?)
noncomputable def xO:Code:=aG ((af (HG))[0]?)
theorem Tw:af (xO)=[]:=by kernel_rfl
abbrev iI:List aL:=[.slot 0 (.pc ec),.slot 1 (.pc ec),.slot 5 (.pc tI)]
abbrev fR:List aL:=[.slot 6 (.pc tI)]
abbrev nw:List aL:=iI ++ fR
def zH:ZJ iI fR nw:=ZA _ _
def kf:ZS iI fR nw:=ZP _ _
abbrev kP:aO:=⟨[(2,[.slot 0 (.pc ec),.slot 1 (.pc ec),.slot 5 (.pc tI)])],[.slot 4 (.pc .bool)],[]⟩
abbrev qF:aO:=⟨[(2,[])],[.slot 4 (.pc .bool)],[]⟩
def tF:ZE iI qF kP:=fun id=>match id with | 2=>fun c y=>(c.1,(c.2.1,(c.2.2.1,y))) | _=>jm
def AU {α:Type} (l:RQ fR qF->α) (an:α->α->α) (c:ZD iI) (v:ZD fR):α:=bif (decide (((0:Int)<=c.2.2.1)/\(c.2.2.1 < ((c.1.n:Nat):Int)))) then bif (decide (v.1 < (((c.1.g (Int.toNat c.2.2.1)).1.n:Nat):Int))) then bif (decide (((0:Int)<=c.2.2.1)/\(c.2.2.1 < ((c.1.n:Nat):Int)))) then bif (decide (((0:Int)<=v.1)/\(v.1 < (((c.1.g (Int.toNat c.2.2.1)).1.n:Nat):Int)))) then bif (decide (((0:Int)<=c.2.2.1)/\(c.2.2.1 < ((c.2.1.n:Nat):Int)))) then bif (decide (((0:Int)<=v.1)/\(v.1 < (((c.2.1.g (Int.toNat c.2.2.1)).1.n:Nat):Int)))) then bif (!(decide (((c.1.g (Int.toNat c.2.2.1)).1.g (Int.toNat v.1)).1=((c.2.1.g (Int.toNat c.2.2.1)).1.g (Int.toNat v.1)).1))) then l (.out (.ret (false,()))) else l (.next ((W (v.1 + (1:Int))),())) else l .bad else l .bad else l .bad else l .bad else l (.out (.exit 2 ())) else l .bad
theorem XY:ZO G23 0 53 xO [] zH tF ZI ZI AU:=fun _ _=>by kernel_rfl
def AV (c:ZD iI) (v:ZD fR):RQ fR qF:=AU (fun r=>r) (fun _ _=>.bad) c v
theorem XZ:SO G23 0 53 xO [] zH tF ZI ZI AV:=fun c v=>by rw [XY]; unfold AV AU; simp only [bu,aM,pM]
def vK (c:ZD iI) (v:ZD fR):LQ qF:=aH (AV c) cz v
theorem aek:af (HG)=[.loop xO]:=by kernel_rfl
abbrev oq:List aL:=[.slot 0 (.pc ec),.slot 1 (.pc ec)]
abbrev lz:List aL:=[.slot 5 (.pc tI)]
abbrev BA:List aL:=oq ++ lz
def Pb:ZJ oq lz BA:=ZA _ _
def GG:ZS oq lz BA:=ZP _ _
abbrev CG:aO:=⟨[(0,[])],[.slot 4 (.pc .bool)],[]⟩
abbrev Az:aO:=⟨[(0,[])],[.slot 4 (.pc .bool)],[]⟩
def Ln:ZE oq Az CG:=fun id=>match id with | 0=>fun c y=>y | _=>jm
def PN {α:Type} (l:RQ lz Az->α) (an:α->α->α) (c:ZD oq) (v:ZD lz):α:=bif (decide (v.1 < ((c.1.n:Nat):Int))) then bif (decide (((0:Int)<=v.1)/\(v.1 < ((c.1.n:Nat):Int)))) then bif (decide (((0:Int)<=v.1)/\(v.1 < ((c.2.1.n:Nat):Int)))) then bif (!(decide ((((c.1.g (Int.toNat v.1)).1.n:Nat):Int)=(((c.2.1.g (Int.toNat v.1)).1.n:Nat):Int)))) then l (.out (.ret (false,()))) else aF (vK (c.1,(c.2.1,v)) ((0:Int),())) 2 (fun u0=>l (.next ((W (v.1 + (1:Int))),()))) (bS (vK (c.1,(c.2.1,v)) ((0:Int),())) (fun u1=>l (.out (.ret u1))) (l .bad)) else l .bad else l .bad else l (.out (.exit 0 ()))
theorem al4:ZO G23 0 53 HG [.known (bF 0 [] nw fun x=>aJ kP tF ZI ZI [] true (kf x).1 (vK (kf x).1 (kf x).2) kP.bw)] Pb Ln ZI ZI PN:=fun _ _=>by kernel_rfl
def PO (c:ZD oq) (v:ZD lz):RQ lz Az:=PN (fun r=>r) (fun _ _=>.bad) c v
theorem al5:SO G23 0 53 HG [.known (bF 0 [] nw fun x=>aJ kP tF ZI ZI [] true (kf x).1 (vK (kf x).1 (kf x).2) kP.bw)] Pb Ln ZI ZI PO:=fun c v=>by rw [al4]; unfold PO PN; simp only [bu,aM,pM]
def PR (c:ZD oq) (v:ZD lz):LQ Az:=aH (PO c) cz v
theorem awY:af (c23)=[.loop HG]:=by kernel_rfl
noncomputable def l23:List Loop:=[lk 0 Ln ZI ZI true GG PR]
def Q23 {α:Type} (l:Option (IN).den->α) (an:α->α->α) (x:(Tv).den):α:=bif (!(decide (((x.1.n:Nat):Int)=((x.2.1.n:Nat):Int)))) then l (some (false,())) else aF (PR x ((0:Int),())) 0 (fun u2=>l (some (true,()))) (bS (PR x ((0:Int),())) (fun u3=>l (some u3)) (l none))
theorem q23:QO G23 Try.f23 l23 Tv IN Q23:=fun _=>by kernel_rfl
def VN (x:(Tv).den):Option (IN).den:=Q23 (fun r=>r) (fun _ _=>none) x
theorem m23:MO G23 Try.f23 l23 VN:=fun x=>by rw [q23]; unfold VN Q23; simp only [Tree.sure,iO]
def p23:=pO VN
def v23:=vO (τ:=IN) VN
def k23:ee:=⟨Tv,IN,p23,v23⟩
theorem h23:Holds Try.prog 23 k23:=hO apm g23 m23 fun G' hlo hF hE=>ai (by rw [awY]; exact .cons (lv hE hF hlo (ai (by rw [aek]; exact .cons (lv hE hF hlo (ln Tw) kf XZ) (.nil))) GG al5) (.nil))
noncomputable def c75:=zo Try.f75
theorem aoB:zq 75 Try.f75 c75:=zu
abbrev T80:Ty:=(.cons .bool T3)
abbrev T81:Ty:=(.fn T0 T80)
abbrev T82:Ty:=(.cons T81 .nil)
abbrev T83:Ty:=(.cons tI T82)
abbrev T84:Ty:=(.cons tI T83)
abbrev T85:Ty:=(.cons tI T3)
abbrev T86:Ty:=(.cons .bool T85)
abbrev a75:Ty:=T84
abbrev r75:Ty:=T86
noncomputable def G75:Ctx:=Ctx.of []
theorem g75:SP G75:=aD f0
noncomputable def Mp:Code:=aG ((af (c75))[0]?)
theorem ael:af (Mp)=[]:=by kernel_rfl
abbrev ot:List aL:=[.slot 1 (.pc tI),.slot 2 (.pc T81)]
abbrev iR:List aL:=[.slot 9 (.pc tI)]
abbrev BB:List aL:=ot ++ iR
def Pc:ZJ ot iR BB:=ZA _ _
def GH:ZS ot iR BB:=ZP _ _
abbrev CH:aO:=⟨[(0,[])],[.slot 6 (.pc .bool),.slot 7 (.pc tI),.slot 8 (.pc .bool)],[]⟩
abbrev jM:aO:=⟨[(0,[])],[.slot 6 (.pc .bool),.slot 7 (.pc tI),.slot 8 (.pc .bool)],[]⟩
def Lo:ZE ot jM CH:=fun id=>match id with | 0=>fun c y=>y | _=>jm
def FM {α:Type} (l:RQ iR jM->α) (an:α->α->α) (c:ZD ot) (v:ZD iR):α:=bif (decide (v.1<=c.1)) then bif (c.2.1 v).1 then bif (c.2.1 v).2.2.1 then l (.out (.ret ((c.2.1 v).2.1,(v.1,(true,()))))) else l (.next ((W (v.1 + (1:Int))),())) else l .bad else l (.out (.exit 0 ()))
theorem al7:ZO G75 0 29 Mp [] Pc Lo ZI ZI FM:=fun _ _=>by kernel_rfl
def FN (c:ZD ot) (v:ZD iR):RQ iR jM:=FM (fun r=>r) (fun _ _=>.bad) c v
theorem al8:SO G75 0 29 Mp [] Pc Lo ZI ZI FN:=fun c v=>by rw [al7]; unfold FN FM; simp only [bu,aM,pM]
def FO (c:ZD ot) (v:ZD iR):LQ jM:=aH (FN c) cz v
theorem aw0:af (c75)=[.loop Mp]:=by kernel_rfl
noncomputable def l75:List Loop:=[lk 0 Lo ZI ZI true GH FO]
def Q75 {α:Type} (l:Option (r75).den->α) (an:α->α->α) (x:(a75).den):α:=aF (FO x.2 (x.1,())) 0 (fun u0=>l (some (false,((0:Int),(false,()))))) (bS (FO x.2 (x.1,())) (fun u1=>l (some u1)) (l none))
theorem q75:QO G75 Try.f75 l75 a75 r75 Q75:=fun _=>by kernel_rfl
def Xl (x:(a75).den):Option (r75).den:=Q75 (fun r=>r) (fun _ _=>none) x
theorem m75:MO G75 Try.f75 l75 Xl:=fun x=>by rw [q75]; unfold Xl Q75; simp only [Tree.sure,iO]
def p75:=pO Xl
def v75:=vO (τ:=r75) Xl
def k75:ee:=⟨a75,r75,p75,v75⟩
theorem h75:Holds Try.prog 75 k75:=hO aoB g75 m75 fun G' hlo hF hE=>ai (by rw [aw0]; exact .cons (lv hE hF hlo (ln ael) GH al8) (.nil))
noncomputable def c76:=zo Try.f76
theorem at8:zq 76 Try.f76 c76:=zu
abbrev T87:Ty:=(.cons tI T68)
abbrev a76:Ty:=T87
abbrev r76:Ty:=T80
noncomputable def G76:Ctx:=Ctx.of [(77,.pure k77)]
theorem g76:SP G76:=aD (fa ⟨⟨ad9.c,h77⟩,f0⟩)
def Q76 {α:Type} (l:Option (r76).den->α) (an:α->α->α) (x:(a76).den):α:=cl (Xi).dflt (Yx ((x.2.1.1,(x.1,x.2.1.2.2)),())) (fun u0=>l (some (true,u0))) (l none)
theorem q76:QO G76 Try.f76 [] a76 r76 Q76:=fun _=>by kernel_rfl
def M76 (x:(a76).den):Option (r76).den:=Q76 (fun r=>r) (fun _ _=>none) x
theorem m76:MO G76 Try.f76 [] M76:=fun x=>by rw [q76]; unfold M76 Q76; simp only [Tree.sure,iO]
def p76:=pO M76
def v76:=vO (τ:=r76) M76
def k76:ee:=⟨a76,r76,p76,v76⟩
theorem h76:Holds Try.prog 76 k76:=hO at8 g76 m76 l0
noncomputable def c28:=zo Try.f28
theorem ajW:zq 28 Try.f28 c28:=zu
abbrev a28:Ty:=Jd
abbrev OB:Ty:=T1
noncomputable def G28:Ctx:=Ctx.of [(74,.pure k74),(75,.pure k75),(76,.pure k76)]
theorem g28:SP G28:=aD (fa ⟨⟨aa7.c,h74⟩,fa ⟨⟨aoB.c,h75⟩,fa ⟨⟨at8.c,h76⟩,f0⟩⟩⟩)
def Q28 {α:Type} (l:Option (OB).den->α) (an:α->α->α) (x:(a28).den):α:=cl (Wa).dflt (WW (x.1,())) (fun u0=>bif (!u0.1) then l (some ((0:Int),((2:Int),()))) else cl (r75).dflt (Xl ((0:Int),((50:Int),((fun y1=>((p76 (y1.1,(x.1,()))),(v76 (y1.1,(x.1,()))))),())))) (fun u1=>bif (!u1.2.2.1) then l (some ((0:Int),((5:Int),()))) else l (some (u1.2.1,((0:Int),())))) (l none)) (l none)
theorem q28:QO G28 Try.f28 [] a28 OB Q28:=fun _=>by kernel_rfl
def VO (x:(a28).den):Option (OB).den:=Q28 (fun r=>r) (fun _ _=>none) x
theorem m28:MO G28 Try.f28 [] VO:=fun x=>by rw [q28]; unfold VO Q28; simp only [Tree.sure,iO]
def p28:=pO VO
def v28:=vO (τ:=OB) VO
def k28:ee:=⟨a28,OB,p28,v28⟩
theorem h28:Holds Try.prog 28 k28:=hO ajW g28 m28 l0
noncomputable def c78:=zo Try.f78
theorem acp:zq 78 Try.f78 c78:=zu
abbrev T88:Ty:=(.cons PV T1)
abbrev a78:Ty:=T88
abbrev WH:Ty:=T3
noncomputable def G78:Ctx:=Ctx.of [(64,.pure k64)]
theorem g78:SP G78:=aD (fa ⟨⟨VM.c,h64⟩,f0⟩)
def Q78 {α:Type} (l:Option (WH).den->α) (an:α->α->α) (x:(a78).den):α:=cl (r64).dflt (Kk (x.2.1,((0:Int),((W (((x.1.1.n:Nat):Int) - (1:Int))),())))) (fun u0=>bif u0.1 then bif (decide (((0:Int)<=x.2.1)/\(x.2.1 < ((x.1.1.n:Nat):Int)))) then cl (r64).dflt (Kk (x.2.2.1,((0:Int),((W ((((x.1.1.g (Int.toNat x.2.1)).2.1.n:Nat):Int) - (1:Int))),())))) (fun u1=>l (some u1)) (l none) else l none else l (some (false,()))) (l none)
theorem q78:QO G78 Try.f78 [] a78 WH Q78:=fun _=>by kernel_rfl
def M78 (x:(a78).den):Option (WH).den:=Q78 (fun r=>r) (fun _ _=>none) x
theorem m78:MO G78 Try.f78 [] M78:=fun x=>by rw [q78]; unfold M78 Q78; simp only [Tree.sure,iO]
def p78:=pO M78
def v78:=vO (τ:=WH) M78
def k78:ee:=⟨a78,WH,p78,v78⟩
theorem h78:Holds Try.prog 78 k78:=hO acp g78 m78 l0
noncomputable def c79:=zo Try.f79
theorem ajY:zq 79 Try.f79 c79:=zu
abbrev a79:Ty:=T8
abbrev WI:Ty:=T8
noncomputable def G79:Ctx:=Ctx.of []
theorem g79:SP G79:=aD f0
def Q79 {α:Type} (l:Option (WI).den->α) (an:α->α->α) (x:(a79).den):α:=l (some (x.1,()))
theorem q79:QO G79 Try.f79 [] a79 WI Q79:=fun _=>by kernel_rfl
def M79 (x:(a79).den):Option (WI).den:=Q79 (fun r=>r) (fun _ _=>none) x
theorem m79:MO G79 Try.f79 [] M79:=fun x=>by rw [q79]; unfold M79 Q79; simp only [Tree.sure,iO]
def p79:=pO M79
def v79:=vO (τ:=WI) M79
def k79:ee:=⟨a79,WI,p79,v79⟩
theorem h79:Holds Try.prog 79 k79:=hO ajY g79 m79 l0
noncomputable def Tx:Code:=Try.f105.body.getD .skip
theorem Tz:Try.prog.funcs[105]? = some Try.f105:=by kernel_rfl
theorem aen:Try.f105.body=some Tx:=by kernel_rfl
theorem aw8:aE Try.prog 105:=az Tz (by kernel_rfl) (by kernel_rfl)
abbrev uM:Ty:=(.cons T7 T14)
abbrev qW:Ty:=T8
noncomputable def HH:Ctx:=Ctx.of []
theorem al9:SP HH:=aD f0
noncomputable def tG:Code:=aG ((af (Tx))[0]?)
noncomputable def Cb:Code:=aG ((af (tG))[0]?)
theorem Lp:af (Cb)=[]:=by kernel_rfl
theorem TA:af (tG)=[.loop Cb]:=by kernel_rfl
abbrev iJ:List aL:=[.slot 2 (.ptr 2),.slot 4 (.ptr 4),.slot 8 (.pc (.sl T6)),.slot 9 (.pc tI),.box 4 [.pc tI,.pc tI,.pc tI,.pc tI,.pc tI,.pc tI]]
abbrev fT:List aL:=[.slot 10 (.pc tI),.box 2 [.pc tI,.pc tI,.pc tI,.pc tI,.pc tI,.pc tI]]
abbrev qG:List aL:=iJ ++ fT
def zI:ZJ iJ fT qG:=ZA _ _
def tH:ZS iJ fT qG:=ZP _ _
abbrev qH:aO:=⟨[(0,[.slot 2 (.ptr 2),.slot 4 (.ptr 4),.box 4 [.pc tI,.pc tI,.pc tI,.pc tI,.pc tI,.pc tI],.box 2 [.pc tI,.pc tI,.pc tI,.pc tI,.pc tI,.pc tI]])],[],[]⟩
abbrev tJ:aO:=⟨[(0,[.box 2 [.pc tI,.pc tI,.pc tI,.pc tI,.pc tI,.pc tI]])],[],[]⟩
def yV:ZE iJ tJ qH:=fun id=>match id with | 0=>fun c y=>(c.1,(c.2.1,(c.2.2.2.2.1,y))) | _=>jm
def Cc {α:Type} (l:RQ fT tJ->α) (an:α->α->α) (c:ZD iJ) (v:ZD fT):α:=bif (decide (v.1 < c.2.2.2.1)) then bif (decide (((0:Int)<=v.1)/\(v.1 < ((c.2.2.1.n:Nat):Int)))) then bif (decide ((mn v.2.1.2.1 (c.2.2.1.g (Int.toNat v.1)).2.1) < (mx v.2.1.1 (c.2.2.1.g (Int.toNat v.1)).1))) then l (.out (.cw 150 (.agg T0) ((0:Int),()) ())) else bif (decide ((mn v.2.1.2.2.2.1 (c.2.2.1.g (Int.toNat v.1)).2.2.2.1) < (mx v.2.1.2.2.1 (c.2.2.1.g (Int.toNat v.1)).2.2.1))) then l (.out (.cw 150 (.agg T0) ((1:Int),()) ())) else bif (decide ((mn v.2.1.2.2.2.2.2.1 (c.2.2.1.g (Int.toNat v.1)).2.2.2.2.2.1) < (mx v.2.1.2.2.2.2.1 (c.2.2.1.g (Int.toNat v.1)).2.2.2.2.1))) then l (.out (.cw 150 (.agg T0) ((2:Int),()) ())) else l (.next ((W (v.1 + (1:Int))),(((mx v.2.1.1 (c.2.2.1.g (Int.toNat v.1)).1),((mn v.2.1.2.1 (c.2.2.1.g (Int.toNat v.1)).2.1),((mx v.2.1.2.2.1 (c.2.2.1.g (Int.toNat v.1)).2.2.1),((mn v.2.1.2.2.2.1 (c.2.2.1.g (Int.toNat v.1)).2.2.2.1),((mx v.2.1.2.2.2.2.1 (c.2.2.1.g (Int.toNat v.1)).2.2.2.2.1),((mn v.2.1.2.2.2.2.2.1 (c.2.2.1.g (Int.toNat v.1)).2.2.2.2.2.1),())))))),()))) else l .bad else l (.out (.exit 0 (v.2.1,())))
theorem Ya:ZO HH 0 53 tG [.gW 4 []] zI yV ZI ZI Cc:=fun _ _=>by kernel_rfl
def zJ (c:ZD iJ) (v:ZD fT):RQ fT tJ:=Cc (fun r=>r) (fun _ _=>.bad) c v
theorem Yb:SO HH 0 53 tG [.gW 4 []] zI yV ZI ZI zJ:=fun c v=>by rw [Ya]; unfold zJ Cc; simp only [bu,aM,pM]
def AW (c:ZD iJ) (v:ZD fT):LQ tJ:=aH (zJ c) cz v
theorem aeo:af (Tx)=[.loop tG]:=by kernel_rfl
noncomputable def abz:List Loop:=[.known (bF 0 [] qG fun x=>aJ qH yV ZI ZI [(150,(.agg T0))] false (tH x).1 (AW (tH x).1 (tH x).2) qH.bw)]
def RV {α:Type} (l:Option (qW).den->α) (an:α->α->α) (x:(uM).den):α:=aF (AW ((),((),(x.2.1,(((x.2.1.n:Nat):Int),(((0:Int),((0:Int),((0:Int),((0:Int),((0:Int),((0:Int),())))))),()))))) ((0:Int),(x.1,()))) 0 (fun u0=>l (some (u0.1,()))) (qE (AW ((),((),(x.2.1,(((x.2.1.n:Nat):Int),(((0:Int),((0:Int),((0:Int),((0:Int),((0:Int),((0:Int),())))))),()))))) ((0:Int),(x.1,()))) 150 (.agg T0) (fun u1=>l none) (l none))
theorem ama (x:(uM).den):aI Try.prog E0 HH Try.f105 abz uM qW x=RV .leaf .any x:=by kernel_rfl
def xB (x:(uM).den):Option (qW).den:=RV (fun r=>r) (fun _ _=>none) x
theorem amb (x:(uM).den):(aI Try.prog E0 HH Try.f105 abz uM qW x).sure=xB x:=by rw [ama]; unfold xB RV; simp only [Tree.sure,iO]
def amc:=pO xB
def amd:=vO (τ:=qW) xB
def Mq:ee:=⟨uM,qW,amc,amd⟩
theorem TB:Holds Try.prog 105 Mq:=aC (E:=E0) aA al9 aB au Tz aen (by kernel_rfl) amb fun G' hlo hF hE=>ai (by rw [aeo]; exact .cons (bE hE hF hlo (ai (by rw [TA]; exact .unr (ai (by rw [Lp]; exact .nil)) (.nil))) (by kernel_rfl) (by kernel_rfl) tH (fun _=>rfl) (fun _ _=>rfl) (Yb) cz) (.nil))
abbrev T89:Ty:=(.cons T7 T14)
noncomputable def ame:=zo Try.f106
theorem Xm:zq 106 Try.f106 ame:=zu
abbrev nM:Ty:=T72
abbrev oS:Ty:=T8
noncomputable def aep:((nM).den->Option (oS).den)->Ctx:=fun kI=>Ctx.of [(88,.pure k88),(94,.pure k94),(96,.pure k96),(105,.pure Mq),(106,.pure (gU kI))]
theorem aw9 (kI:(nM).den->Option (oS).den) (hR:Holds Try.prog 106 (gU kI)):Sound Try.prog (aep kI):=aD (fa ⟨⟨WY.c,h88⟩,fa ⟨⟨PF.c,h94⟩,fa ⟨⟨aa8.c,h96⟩,fa ⟨⟨Kr.c,TB⟩,fa ⟨⟨Xm.c,hR⟩,f0⟩⟩⟩⟩⟩)
theorem amf:af (ame)=[]:=by kernel_rfl
noncomputable def amg:((nM).den->Option (oS).den)->List Loop:=fun kI=>[]
def acd (kI:(nM).den->Option (oS).den) {α:Type} (l:Option (oS).den->α) (an:α->α->α) (x:(nM).den):α:=cl (PW).dflt (Sf ((x.1.1,(x.1.2.1,(x.1.2.2.1,(x.1.2.2.2.1,(x.1.2.2.2.2.1,((),())))))),x.2)) (fun u0=>bif (decide ((0:Int) < x.2.1)) then bif (decide (((0:Int)<=x.2.1)/\(x.2.1 < ((x.1.2.2.2.2.2.1.n:Nat):Int)))) then bif (decide (((0:Int)<=x.2.2.1)/\(x.2.2.1 < (((x.1.2.2.2.2.2.1.g (Int.toNat x.2.1)).1.n:Nat):Int)))) then bif (decide ((0:Int)<=((x.1.2.2.2.2.2.1.g (Int.toNat x.2.1)).1.g (Int.toNat x.2.2.1)).1)) then bif (decide (((0:Int)<=x.2.1)/\(x.2.1 < ((x.1.2.2.2.2.2.1.n:Nat):Int)))) then bif (decide (((0:Int)<=x.2.2.1)/\(x.2.2.1 < (((x.1.2.2.2.2.2.1.g (Int.toNat x.2.1)).1.n:Nat):Int)))) then cl (Ty.dflt T8) (kI (x.1,((W (x.2.1 - (1:Int))),((x.1.2.2.2.2.2.1.g (Int.toNat x.2.1)).1.g (Int.toNat x.2.2.1))))) (fun u1=>cl (Wb).dflt (WG ((x.1.1,(x.1.2.1,(x.1.2.2.1,(x.1.2.2.2.1,(x.1.2.2.2.2.1,((),())))))),(x.2.1,()))) (fun u2=>cl (RP).dflt (UQ ((x.1.1,(x.1.2.1,(x.1.2.2.1,(x.1.2.2.2.1,(x.1.2.2.2.2.1,((),())))))),(u1.1,u2))) (fun u3=>cl (qW).dflt (xB (u0.1,((⟨1,fun i=>List.getD [u3.1] i u3.1⟩:Sl _),()))) (fun u4=>l (some (u4.1,()))) (l none)) (l none)) (l none)) (l none) else l none else l none else l (some (u0.1,())) else l none else l none else l (some (u0.1,()))) (l none)
theorem axa (kI:(nM).den->Option (oS).den) (x:(nM).den):aI Try.prog E0 (aep kI) Try.f106 (amg kI) nM oS x=acd kI .leaf .any x:=by kernel_rfl
def UT (kI:(nM).den->Option (oS).den) (x:(nM).den):Option (oS).den:=acd kI (fun r=>r) (fun _ _=>none) x
theorem axb (kI:(nM).den->Option (oS).den) (x:(nM).den):(aI Try.prog E0 (aep kI) Try.f106 (amg kI) nM oS x).sure=UT kI x:=by rw [axa]; unfold UT acd; simp only [Tree.sure,iO]
theorem amh (kI:(nM).den->Option (oS).den) (hR:Holds Try.prog 106 (gU kI)):Holds Try.prog 106 (gU (UT kI)):=aC (E:=E0) aA (aw9 kI hR) aB au Xm.a Xm.b (by kernel_rfl) (axb kI) fun G' hlo hF hE=>ai (by rw [amf]; exact .nil)
def Yc:Nat->(nM).den->Option (oS).den
 | 0=>fun _=>none
 | n + 1=>UT (Yc n)
theorem abA:∀ n,Holds Try.prog 106 (gU (Yc n))
 | 0=>Ev
 | n + 1=>amh _ (abA n)
def aeq (x:(nM).den):Option (oS).den:=Yc 6 x
def axc:=pO aeq
def axd:=vO (τ:=oS) aeq
def ami:ee:=⟨nM,oS,axc,axd⟩
theorem axe:Holds Try.prog 106 ami:=abA 6
noncomputable def amj:=zo Try.f107
theorem Xn:zq 107 Try.f107 amj:=zu
abbrev a107:Ty:=T72
abbrev oT:Ty:=T8
noncomputable def aer:((a107).den->Option (oT).den)->Ctx:=fun kJ=>Ctx.of [(88,.pure k88),(94,.pure k94),(96,.pure k96),(100,.pure XP),(105,.pure Mq),(107,.pure (gU kJ))]
theorem axf (kJ:(a107).den->Option (oT).den) (hR:Holds Try.prog 107 (gU kJ)):Sound Try.prog (aer kJ):=aD (fa ⟨⟨WY.c,h88⟩,fa ⟨⟨PF.c,h94⟩,fa ⟨⟨aa8.c,h96⟩,fa ⟨⟨RT.c,aba⟩,fa ⟨⟨Kr.c,TB⟩,fa ⟨⟨Xn.c,hR⟩,f0⟩⟩⟩⟩⟩⟩)
theorem amk:af (amj)=[]:=by kernel_rfl
noncomputable def aml:((a107).den->Option (oT).den)->List Loop:=fun kJ=>[]
def ace (kJ:(a107).den->Option (oT).den) {α:Type} (l:Option (oT).den->α) (an:α->α->α) (x:(a107).den):α:=cl (PW).dflt (Sf ((x.1.1,(x.1.2.1,(x.1.2.2.1,(x.1.2.2.2.1,(x.1.2.2.2.2.1,((),())))))),x.2)) (fun u0=>cl (xA).dflt (Ay (x.1,x.2)) (fun u1=>bif (decide ((0:Int)<=u1.1)) then cl (Ty.dflt T8) (kJ (x.1,((W (x.2.1 + (1:Int))),u1))) (fun u2=>cl (Wb).dflt (WG ((x.1.1,(x.1.2.1,(x.1.2.2.1,(x.1.2.2.2.1,(x.1.2.2.2.2.1,((),())))))),((W (x.2.1 + (1:Int))),()))) (fun u3=>cl (RP).dflt (UQ ((x.1.1,(x.1.2.1,(x.1.2.2.1,(x.1.2.2.2.1,(x.1.2.2.2.2.1,((),())))))),(u2.1,u3))) (fun u4=>cl (qW).dflt (xB (u0.1,((⟨1,fun i=>List.getD [u4.1] i u4.1⟩:Sl _),()))) (fun u5=>l (some (u5.1,()))) (l none)) (l none)) (l none)) (l none) else l (some (u0.1,()))) (l none)) (l none)
theorem axg (kJ:(a107).den->Option (oT).den) (x:(a107).den):aI Try.prog E0 (aer kJ) Try.f107 (aml kJ) a107 oT x=ace kJ .leaf .any x:=by kernel_rfl
def UU (kJ:(a107).den->Option (oT).den) (x:(a107).den):Option (oT).den:=ace kJ (fun r=>r) (fun _ _=>none) x
theorem axh (kJ:(a107).den->Option (oT).den) (x:(a107).den):(aI Try.prog E0 (aer kJ) Try.f107 (aml kJ) a107 oT x).sure=UU kJ x:=by rw [axg]; unfold UU ace; simp only [Tree.sure,iO]
theorem amm (kJ:(a107).den->Option (oT).den) (hR:Holds Try.prog 107 (gU kJ)):Holds Try.prog 107 (gU (UU kJ)):=aC (E:=E0) aA (axf kJ hR) aB au Xn.a Xn.b (by kernel_rfl) (axh kJ) fun G' hlo hF hE=>ai (by rw [amk]; exact .nil)
def aaj:Nat->(a107).den->Option (oT).den
 | 0=>fun _=>none
 | n + 1=>UU (aaj n)
theorem abB:∀ n,Holds Try.prog 107 (gU (aaj n))
 | 0=>Ev
 | n + 1=>amm _ (abB n)
def aes (x:(a107).den):Option (oT).den:=aaj 6 x
def axi:=pO aes
def v107:=vO (τ:=oT) aes
def amn:ee:=⟨a107,oT,axi,v107⟩
theorem axj:Holds Try.prog 107 amn:=abB 6
noncomputable def c80:=zo Try.f80
theorem aiC:zq 80 Try.f80 c80:=zu
abbrev a80:Ty:=T88
abbrev WJ:Ty:=T8
noncomputable def G80:Ctx:=Ctx.of [(81,.pure k81),(105,.pure Mq),(106,.pure ami),(107,.pure amn)]
theorem g80:SP G80:=aD (fa ⟨⟨Sg.c,h81⟩,fa ⟨⟨Kr.c,TB⟩,fa ⟨⟨Xm.c,axe⟩,fa ⟨⟨Xn.c,axj⟩,f0⟩⟩⟩⟩)
noncomputable def HI:Code:=mP ((af (c80))[0]?)
noncomputable def Lq:Code:=tZ ((af (c80))[0]?)
abbrev jN:List aL:=[.slot 4 (.ptr 4),.slot 5 (.ptr 5),.slot 6 (.ptr 6),.slot 7 (.ptr 61),.slot 8 (.ptr 116),.box 4 [.pc tI],.box 5 [.pc tI],.box 6 [.pc tI,.pc tI,.pc tI,.pc tI,.pc tI,.pc tI],.box 61 [.pc tI,.pc tI,.pc tI,.pc tI,.pc tI,.pc tI],.box 116 [.pc .bool]]
noncomputable def Mr:Code:=aG ((af (HI))[0]?)
theorem TC:af (Mr)=[]:=by kernel_rfl
theorem aet:af (HI)=[.loop Mr]:=by kernel_rfl
def RW {α:Type} (l:RO jN->α) (an:α->α->α) (x:ZD jN) (it:Ty.den gN):α:=cl (oS).dflt (aeq (it.1,(x.2.2.2.2.2.1.1,x.2.2.2.2.2.2.1))) (fun u0=>cl (oT).dflt (aes (it.1,(x.2.2.2.2.2.1.1,x.2.2.2.2.2.2.1))) (fun u1=>cl (qW).dflt (xB (u0.1,((⟨1,fun i=>List.getD [u1.1] i u1.1⟩:Sl _),()))) (fun u2=>bif (!x.2.2.2.2.2.2.2.2.2.1.1) then l (.next ((),((),((),((),((),(x.2.2.2.2.2.1,(x.2.2.2.2.2.2.1,(x.2.2.2.2.2.2.2.1,(((mn u2.1.1 u2.1.1),((mx u2.1.2.1 u2.1.2.1),((mn u2.1.2.2.1 u2.1.2.2.1),((mx u2.1.2.2.2.1 u2.1.2.2.2.1),((mn u2.1.2.2.2.2.1 u2.1.2.2.2.2.1),((mx u2.1.2.2.2.2.2.1 u2.1.2.2.2.2.2.1),())))))),((true,()),()))))))))))) else l (.next ((),((),((),((),((),(x.2.2.2.2.2.1,(x.2.2.2.2.2.2.1,(x.2.2.2.2.2.2.2.1,(((mn x.2.2.2.2.2.2.2.2.1.1 u2.1.1),((mx x.2.2.2.2.2.2.2.2.1.2.1 u2.1.2.1),((mn x.2.2.2.2.2.2.2.2.1.2.2.1 u2.1.2.2.1),((mx x.2.2.2.2.2.2.2.2.1.2.2.2.1 u2.1.2.2.2.1),((mn x.2.2.2.2.2.2.2.2.1.2.2.2.2.1 u2.1.2.2.2.2.1),((mx x.2.2.2.2.2.2.2.2.1.2.2.2.2.2.1 u2.1.2.2.2.2.2.1),())))))),(x.2.2.2.2.2.2.2.2.2.1,())))))))))))) (l .bad)) (l .bad)) (l .bad)
theorem amp (x:ZD jN) (it:Ty.den gN):jl Try.prog E0 G80 0 500000 54 [14] Lq HI [] [.gW 4 []] gN jN x it=RW .leaf .any x it:=by kernel_rfl
def PT (x:ZD jN) (it:Ty.den gN):RO jN:=RW (fun r=>r) (fun _ _=>.bad) x it
theorem amq (x:ZD jN) (it:Ty.den gN):(jl Try.prog E0 G80 0 500000 54 [14] Lq HI [] [.gW 4 []] gN jN x it).iZ .bad=PT x it:=by rw [amp]; unfold PT RW; simp only [kC,Tree.iZ,qh,gA,gB]
def NK (x:ZD jN) (l:List (Ty.den gN)):RO jN:=eW PT x l
theorem axk:af (c80)=[.rangeFunc (.tmp 13) #[14] Lq HI]:=by kernel_rfl
noncomputable def l80:List Loop:=[.known (tT 0 [] 13 gN jN [] [] (fun x l=>NK x l))]
def Q80 {α:Type} (l:Option (WJ).den->α) (an:α->α->α) (x:(a80).den):α:=cl (RR).dflt (US (x.1,())) (fun u3=>oQ (NK ((),((),((),((),((),((x.2.1,()),(x.2.2,(((0:Int),((0:Int),((0:Int),((0:Int),((0:Int),((0:Int),())))))),(((0:Int),((0:Int),((0:Int),((0:Int),((0:Int),((0:Int),())))))),((false,()),())))))))))) (Sl.list u3.1)) (fun u4=>l (some (u4.2.2.2.2.2.2.2.2.1,()))) (oR (NK ((),((),((),((),((),((x.2.1,()),(x.2.2,(((0:Int),((0:Int),((0:Int),((0:Int),((0:Int),((0:Int),())))))),(((0:Int),((0:Int),((0:Int),((0:Int),((0:Int),((0:Int),())))))),((false,()),())))))))))) (Sl.list u3.1)) (fun u5=>l (some (u5.2.2.2.2.2.2.2.1,()))) (l none))) (l none)
theorem q80:QO G80 Try.f80 l80 a80 WJ Q80:=fun _=>by kernel_rfl
def M80 (x:(a80).den):Option (WJ).den:=Q80 (fun r=>r) (fun _ _=>none) x
theorem m80:MO G80 Try.f80 l80 M80:=fun x=>by rw [q80]; unfold M80 Q80; simp only [Tree.sure,iO]
def p80:=pO M80
def v80:=vO (τ:=WJ) M80
def k80:ee:=⟨a80,WJ,p80,v80⟩
theorem h80:Holds Try.prog 80 k80:=hO aiC g80 m80 fun G' hlo hF hE=>ai (by rw [axk]; exact .cons (mO hE hF hlo aiC.a (by kernel_rfl) (by kernel_rfl) (by kernel_rfl) (by kernel_rfl) (by kernel_rfl) (fun G' hlo hF l hE=>fC) (fun G' hlo hF l hE=>ai (by rw [aet]; exact .unr (ai (by rw [TC]; exact .nil)) (.nil))) amq) (.nil))
noncomputable def c36:=zo Try.f36
theorem apo:zq 36 Try.f36 c36:=zu
abbrev TD:Ty:=T88
abbrev PE:Ty:=T34
noncomputable def G36:Ctx:=Ctx.of [(63,.pure k63),(78,.pure k78),(79,.pure k79),(80,.pure k80)]
theorem g36:SP G36:=aD (fa ⟨⟨NJ.c,h63⟩,fa ⟨⟨acp.c,h78⟩,fa ⟨⟨ajY.c,h79⟩,fa ⟨⟨aiC.c,h80⟩,f0⟩⟩⟩⟩)
def Q36 {α:Type} (l:Option (PE).den->α) (an:α->α->α) (x:(TD).den):α:=cl (WH).dflt (M78 (x.1,x.2)) (fun u0=>cl (MH).dflt (Sh (x.1,u0)) (fun u1=>bif (!(decide (u1.1=(0:Int)))) then l (some (((0:Int),((0:Int),((0:Int),((0:Int),((0:Int),((0:Int),())))))),u1)) else cl (WJ).dflt (M80 (x.1,x.2)) (fun u2=>cl (WI).dflt (M79 (u2.1,())) (fun u3=>l (some (u3.1,((0:Int),())))) (l none)) (l none)) (l none)) (l none)
theorem q36:QO G36 Try.f36 [] TD PE Q36:=fun _=>by kernel_rfl
def M36 (x:(TD).den):Option (PE).den:=Q36 (fun r=>r) (fun _ _=>none) x
theorem m36:MO G36 Try.f36 [] M36:=fun x=>by rw [q36]; unfold M36 Q36; simp only [Tree.sure,iO]
def p36:=pO M36
def v36:=vO (τ:=PE) M36
def k36:ee:=⟨TD,PE,p36,v36⟩
theorem h36:Holds Try.prog 36 k36:=hO apo g36 m36 l0
noncomputable def c82:=zo Try.f82
theorem aub:zq 82 Try.f82 c82:=zu
abbrev a82:Ty:=T72
abbrev r82:Ty:=nK
noncomputable def G82:Ctx:=Ctx.of [(100,.pure XP)]
theorem g82:SP G82:=aD (fa ⟨⟨RT.c,aba⟩,f0⟩)
noncomputable def Ms:Code:=aG ((af (c82))[0]?)
theorem aeu:af (Ms)=[]:=by kernel_rfl
abbrev ou:List aL:=[.slot 3 (.ptr 3),.box 3 [.pc eX,.pc tI,.pc tI,.pc tI,.pc tI,.pc ec]]
abbrev mh:List aL:=[.slot 1 (.pc tI),.slot 2 (.pc tI),.slot 7 (.own 1000007 3 T0)]
abbrev BC:List aL:=ou ++ mh
def Pd:ZJ ou mh BC:=ZA _ _
def GI:ZS ou mh BC:=ZP _ _
abbrev CI:aO:=⟨[(0,[.slot 7 (.own 1000007 3 T0)])],[],[]⟩
abbrev DY:aO:=⟨[(0,[.slot 7 (.own 1000007 3 T0)])],[],[]⟩
def Lr:ZE ou DY CI:=fun id=>match id with | 0=>fun c y=>y | _=>jm
def TE {α:Type} (l:RQ mh DY->α) (an:α->α->α) (c:ZD ou) (v:ZD mh):α:=bif (decide ((0:Int)<=v.2.1)) then bif (decide (((v.2.2.1.n + 1) * 8)<=140737488355328)) then cl (xA).dflt (Ay (c.2.1,(v.1,(v.2.1,())))) (fun u0=>l (.next ((W (v.1 + (1:Int))),(u0.1,((cK v.2.2.1 (⟨1,fun i=>List.getD [(v.2.1,())] i (v.2.1,())⟩:Sl (Ty.den T0))),()))))) (l .bad) else l .bad else l (.out (.exit 0 v.2.2))
theorem ams:ZO G82 0 21 Ms [] Pd Lr ZI ZI TE:=fun _ _=>by kernel_rfl
def TF (c:ZD ou) (v:ZD mh):RQ mh DY:=TE (fun r=>r) (fun _ _=>.bad) c v
theorem amt:SO G82 0 21 Ms [] Pd Lr ZI ZI TF:=fun c v=>by rw [ams]; unfold TF TE; simp only [bu,aM,pM]
def abC (c:ZD ou) (v:ZD mh):LQ DY:=aH (TF c) cz v
theorem axo:af (c82)=[.loop Ms]:=by kernel_rfl
noncomputable def l82:List Loop:=[lk 0 Lr ZI ZI false GI abC]
def Q82 {α:Type} (l:Option (r82).den->α) (an:α->α->α) (x:(a82).den):α:=aF (abC ((),(x.1,())) (x.2.1,(x.2.2.1,((⟨0,fun i=>((0:Int),())⟩:Sl _),())))) 0 (fun u1=>l (some u1)) (l none)
theorem q82:QO G82 Try.f82 l82 a82 r82 Q82:=fun _=>by kernel_rfl
def M82 (x:(a82).den):Option (r82).den:=Q82 (fun r=>r) (fun _ _=>none) x
theorem m82:MO G82 Try.f82 l82 M82:=fun x=>by rw [q82]; unfold M82 Q82; simp only [Tree.sure,iO]
def p82:=pO M82
def v82:=vO (τ:=r82) M82
def k82:ee:=⟨a82,r82,p82,v82⟩
theorem h82:Holds Try.prog 82 k82:=hO aub g82 m82 fun G' hlo hF hE=>ai (by rw [axo]; exact .cons (lv hE hF hlo (ln aeu) GI amt) (.nil))
noncomputable def c87:=zo Try.f87
theorem auc:zq 87 Try.f87 c87:=zu
abbrev a87:Ty:=gN
abbrev r87:Ty:=T0
noncomputable def G87:Ctx:=Ctx.of []
theorem g87:SP G87:=aD f0
noncomputable def HJ:Code:=aG ((af (c87))[0]?)
noncomputable def xP:Code:=aG ((af (HJ))[0]?)
theorem TG:af (xP)=[]:=by kernel_rfl
abbrev iK:List aL:=[.slot 10 (.pc ec),.slot 11 (.pc tI),.slot 12 (.pc tI),.slot 16 (.pc (.sl T0)),.slot 17 (.pc tI)]
abbrev gv:List aL:=[.slot 3 (.pc tI),.slot 18 (.pc tI)]
abbrev ny:List aL:=iK ++ gv
def zK:ZJ iK gv ny:=ZA _ _
def kg:ZS iK gv ny:=ZP _ _
abbrev kQ:aO:=⟨[(2,[.slot 10 (.pc ec),.slot 11 (.pc tI),.slot 12 (.pc tI),.slot 3 (.pc tI)])],[],[]⟩
abbrev tL:aO:=⟨[(2,[.slot 3 (.pc tI)])],[],[]⟩
def tM:ZE iK tL kQ:=fun id=>match id with | 2=>fun c y=>(c.1,(c.2.1,(c.2.2.1,y))) | _=>jm
def DZ {α:Type} (l:RQ gv tL->α) (an:α->α->α) (c:ZD iK) (v:ZD gv):α:=bif (decide (v.2.1 < c.2.2.2.2.1)) then bif (decide (((0:Int)<=v.2.1)/\(v.2.1 < ((c.2.2.2.1.n:Nat):Int)))) then bif (decide ((c.2.2.2.1.g (Int.toNat v.2.1)).1 < (0:Int))) then l (.next ((W (v.1 + (1:Int))),((W (v.2.1 + (1:Int))),()))) else l (.next (v.1,((W (v.2.1 + (1:Int))),()))) else l .bad else l (.out (.exit 2 (v.1,())))
theorem Yd:ZO G87 0 29 xP [] zK tM ZI ZI DZ:=fun _ _=>by kernel_rfl
def Ea (c:ZD iK) (v:ZD gv):RQ gv tL:=DZ (fun r=>r) (fun _ _=>.bad) c v
theorem Ye:SO G87 0 29 xP [] zK tM ZI ZI Ea:=fun c v=>by rw [Yd]; unfold Ea DZ; simp only [bu,aM,pM]
def Eb (c:ZD iK) (v:ZD gv):LQ tL:=aH (Ea c) cz v
theorem aew:af (HJ)=[.loop xP]:=by kernel_rfl
abbrev ov:List aL:=[.slot 10 (.pc ec),.slot 11 (.pc tI)]
abbrev mj:List aL:=[.slot 3 (.pc tI),.slot 12 (.pc tI)]
abbrev BD:List aL:=ov ++ mj
def Pe:ZJ ov mj BD:=ZA _ _
def GJ:ZS ov mj BD:=ZP _ _
abbrev CJ:aO:=⟨[(0,[.slot 3 (.pc tI)])],[],[]⟩
abbrev Ec:aO:=⟨[(0,[.slot 3 (.pc tI)])],[],[]⟩
def Ls:ZE ov Ec CJ:=fun id=>match id with | 0=>fun c y=>y | _=>jm
def TH {α:Type} (l:RQ mj Ec->α) (an:α->α->α) (c:ZD ov) (v:ZD mj):α:=bif (decide (v.2.1 < c.2.1)) then bif (decide (((0:Int)<=v.2.1)/\(v.2.1 < ((c.1.n:Nat):Int)))) then aF (Eb (c.1,(c.2.1,(v.2.1,((c.1.g (Int.toNat v.2.1)).1,((((c.1.g (Int.toNat v.2.1)).1.n:Nat):Int),()))))) (v.1,((0:Int),()))) 2 (fun u0=>l (.next (u0.1,((W (v.2.1 + (1:Int))),())))) (l .bad) else l .bad else l (.out (.exit 0 (v.1,())))
theorem amv:ZO G87 0 29 HJ [.known (bF 0 [] ny fun x=>aJ kQ tM ZI ZI [] false (kg x).1 (Eb (kg x).1 (kg x).2) kQ.bw)] Pe Ls ZI ZI TH:=fun _ _=>by kernel_rfl
def TI (c:ZD ov) (v:ZD mj):RQ mj Ec:=TH (fun r=>r) (fun _ _=>.bad) c v
theorem amw:SO G87 0 29 HJ [.known (bF 0 [] ny fun x=>aJ kQ tM ZI ZI [] false (kg x).1 (Eb (kg x).1 (kg x).2) kQ.bw)] Pe Ls ZI ZI TI:=fun c v=>by rw [amv]; unfold TI TH; simp only [bu,aM,pM]
def abD (c:ZD ov) (v:ZD mj):LQ Ec:=aH (TI c) cz v
theorem axr:af (c87)=[.loop HJ]:=by kernel_rfl
noncomputable def l87:List Loop:=[lk 0 Ls ZI ZI false GJ abD]
def Q87 {α:Type} (l:Option (r87).den->α) (an:α->α->α) (x:(a87).den):α:=bif (decide (((0:Int)<=(1:Int))/\(((1:Int)<=((x.1.2.2.2.2.2.1.n:Nat):Int))/\(((x.1.2.2.2.2.2.1.n:Nat):Int)<=((x.1.2.2.2.2.2.1.n:Nat):Int))))) then aF (abD ((⟨(Int.toNat (((x.1.2.2.2.2.2.1.n:Nat):Int) - (1:Int))),fun i=>(x.1.2.2.2.2.2.1.g (i + 1))⟩:Sl _),((((Int.toNat (((x.1.2.2.2.2.2.1.n:Nat):Int) - (1:Int))):Nat):Int),())) ((0:Int),((0:Int),()))) 0 (fun u1=>l (some u1)) (l none) else l none
theorem q87:QO G87 Try.f87 l87 a87 r87 Q87:=fun _=>by kernel_rfl
def M87 (x:(a87).den):Option (r87).den:=Q87 (fun r=>r) (fun _ _=>none) x
theorem m87:MO G87 Try.f87 l87 M87:=fun x=>by rw [q87]; unfold M87 Q87; simp only [Tree.sure,iO]
def p87:=pO M87
def v87:=vO (τ:=r87) M87
def k87:ee:=⟨a87,r87,p87,v87⟩
theorem h87:Holds Try.prog 87 k87:=hO auc g87 m87 fun G' hlo hF hE=>ai (by rw [axr]; exact .cons (lv hE hF hlo (ai (by rw [aew]; exact .cons (lv hE hF hlo (ln TG) kg Ye) (.nil))) GJ amw) (.nil))
noncomputable def c40:=zo Try.f40
theorem apq:zq 40 Try.f40 c40:=zu
abbrev T90:Ty:=(.cons tI T77)
abbrev a40:Ty:=Jd
abbrev Rb:Ty:=T90
noncomputable def G40:Ctx:=Ctx.of [(63,.pure k63),(81,.pure k81),(87,.pure k87)]
theorem g40:SP G40:=aD (fa ⟨⟨NJ.c,h63⟩,fa ⟨⟨Sg.c,h81⟩,fa ⟨⟨auc.c,h87⟩,f0⟩⟩⟩)
noncomputable def Mt:Code:=mP ((af (c40))[0]?)
noncomputable def Lt:Code:=tZ ((af (c40))[0]?)
abbrev kn:List aL:=[.slot 6 (.pc tI),.slot 7 (.ptr 179),.slot 8 (.ptr 180),.box 179 [.pc tI],.box 180 [.pc (.sl nK)]]
theorem aex:af (Mt)=[]:=by kernel_rfl
def TJ {α:Type} (l:RO kn->α) (an:α->α->α) (x:ZD kn) (it:Ty.den gN):α:=cl (r87).dflt (M87 (it.1,())) (fun u0=>bif (decide (x.2.2.2.1.1 < (0:Int))) then bif (decide (u0.1=(0:Int))) then l (.brk 0 (x.1,((),((),(u0,(it.1.2.2.2.2.2,())))))) else l (.next (x.1,((),((),(u0,(it.1.2.2.2.2.2,())))))) else bif (decide (u0.1 < x.2.2.2.1.1)) then bif (decide (u0.1=(0:Int))) then l (.brk 0 (x.1,((),((),(u0,(it.1.2.2.2.2.2,())))))) else l (.next (x.1,((),((),(u0,(it.1.2.2.2.2.2,())))))) else bif (decide (x.2.2.2.1.1=(0:Int))) then l (.brk 0 (x.1,((),((),(x.2.2.2.1,(x.2.2.2.2.1,())))))) else l (.next (x.1,((),((),(x.2.2.2.1,(x.2.2.2.2.1,()))))))) (l .bad)
theorem amz (x:ZD kn) (it:Ty.den gN):jl Try.prog E0 G40 0 500000 43 [24] Lt Mt [] [] gN kn x it=TJ .leaf .any x it:=by kernel_rfl
def TK (x:ZD kn) (it:Ty.den gN):RO kn:=TJ (fun r=>r) (fun _ _=>.bad) x it
theorem amA (x:ZD kn) (it:Ty.den gN):(jl Try.prog E0 G40 0 500000 43 [24] Lt Mt [] [] gN kn x it).iZ .bad=TK x it:=by rw [amz]; unfold TK TJ; simp only [kC,Tree.iZ,qh,gA,gB]
def Mu (x:ZD kn) (l:List (Ty.den gN)):RO kn:=eW TK x l
theorem axu:af (c40)=[.rangeFunc (.tmp 23) #[24] Lt Mt]:=by kernel_rfl
noncomputable def l40:List Loop:=[.known (tT 0 [] 23 gN kn [0] [] (fun x l=>Mu x l))]
def Q40 {α:Type} (l:Option (Rb).den->α) (an:α->α->α) (x:(a40).den):α:=cl (MH).dflt (Sh (x.1,(true,()))) (fun u1=>bif (!(decide (u1.1=(0:Int)))) then l (some ((0:Int),((⟨0,fun i=>((⟨0,fun i=>((0:Int),())⟩:Sl _),())⟩:Sl _),u1))) else bif (decide (((0:Int)<=(0:Int))/\((0:Int) < ((x.1.1.n:Nat):Int)))) then cl (RR).dflt (US (x.1,())) (fun u2=>RJ (Mu ((((x.1.1.g 0).2.1.n:Nat):Int),((),((),(((-1:Int),()),(((⟨0,fun i=>((⟨0,fun i=>((0:Int),())⟩:Sl _),())⟩:Sl _),()),()))))) (Sl.list u2.1)) 0 (fun u3=>l (some ((W (u3.1 + u3.2.2.2.1.1)),(u3.2.2.2.2.1.1,((0:Int),()))))) (oQ (Mu ((((x.1.1.g 0).2.1.n:Nat):Int),((),((),(((-1:Int),()),(((⟨0,fun i=>((⟨0,fun i=>((0:Int),())⟩:Sl _),())⟩:Sl _),()),()))))) (Sl.list u2.1)) (fun u4=>l (some ((W (u4.1 + u4.2.2.2.1.1)),(u4.2.2.2.2.1.1,((0:Int),()))))) (oR (Mu ((((x.1.1.g 0).2.1.n:Nat):Int),((),((),(((-1:Int),()),(((⟨0,fun i=>((⟨0,fun i=>((0:Int),())⟩:Sl _),())⟩:Sl _),()),()))))) (Sl.list u2.1)) (fun u5=>l none) (l none)))) (l none) else l none) (l none)
theorem q40:QO G40 Try.f40 l40 a40 Rb Q40:=fun _=>by kernel_rfl
def M40 (x:(a40).den):Option (Rb).den:=Q40 (fun r=>r) (fun _ _=>none) x
theorem m40:MO G40 Try.f40 l40 M40:=fun x=>by rw [q40]; unfold M40 Q40; simp only [Tree.sure,iO]
def p40:=pO M40
def v40:=vO (τ:=Rb) M40
def k40:ee:=⟨a40,Rb,p40,v40⟩
theorem h40:Holds Try.prog 40 k40:=hO apq g40 m40 fun G' hlo hF hE=>ai (by rw [axu]; exact .cons (mO hE hF hlo apq.a (by kernel_rfl) (by kernel_rfl) (by kernel_rfl) (by kernel_rfl) (by kernel_rfl) (fun G' hlo hF l hE=>fC) (fun G' hlo hF l hE=>ai (by rw [aex]; exact .nil)) amA) (.nil))
noncomputable def c59:=zo Try.f59
theorem aud:zq 59 Try.f59 c59:=zu
abbrev T91:Ty:=(.cons (.sl T0) nK)
abbrev a59:Ty:=T91
abbrev r59:Ty:=T3
noncomputable def G59:Ctx:=Ctx.of []
theorem g59:SP G59:=aD f0
noncomputable def Mv:Code:=aG ((af (c59))[0]?)
theorem aey:af (Mv)=[]:=by kernel_rfl
abbrev ow:List aL:=[.slot 0 (.pc (.sl T0)),.slot 1 (.pc (.sl T0))]
abbrev mo:List aL:=[.slot 5 (.pc tI)]
abbrev BE:List aL:=ow ++ mo
def Pf:ZJ ow mo BE:=ZA _ _
def GK:ZS ow mo BE:=ZP _ _
abbrev CK:aO:=⟨[(0,[])],[.slot 4 (.pc .bool)],[]⟩
abbrev Ed:aO:=⟨[(0,[])],[.slot 4 (.pc .bool)],[]⟩
def Lu:ZE ow Ed CK:=fun id=>match id with | 0=>fun c y=>y | _=>jm
def TL {α:Type} (l:RQ mo Ed->α) (an:α->α->α) (c:ZD ow) (v:ZD mo):α:=bif (decide (v.1 < ((c.1.n:Nat):Int))) then bif (decide (((0:Int)<=v.1)/\(v.1 < ((c.1.n:Nat):Int)))) then bif (decide (((0:Int)<=v.1)/\(v.1 < ((c.2.1.n:Nat):Int)))) then bif (!(decide ((c.1.g (Int.toNat v.1)).1=(c.2.1.g (Int.toNat v.1)).1))) then l (.out (.ret (false,()))) else l (.next ((W (v.1 + (1:Int))),())) else l .bad else l .bad else l (.out (.exit 0 ()))
theorem amC:ZO G59 0 26 Mv [] Pf Lu ZI ZI TL:=fun _ _=>by kernel_rfl
def TM (c:ZD ow) (v:ZD mo):RQ mo Ed:=TL (fun r=>r) (fun _ _=>.bad) c v
theorem amD:SO G59 0 26 Mv [] Pf Lu ZI ZI TM:=fun c v=>by rw [amC]; unfold TM TL; simp only [bu,aM,pM]
def TN (c:ZD ow) (v:ZD mo):LQ Ed:=aH (TM c) cz v
theorem axx:af (c59)=[.loop Mv]:=by kernel_rfl
noncomputable def l59:List Loop:=[lk 0 Lu ZI ZI true GK TN]
def Q59 {α:Type} (l:Option (r59).den->α) (an:α->α->α) (x:(a59).den):α:=bif (!(decide (((x.1.n:Nat):Int)=((x.2.1.n:Nat):Int)))) then l (some (false,())) else aF (TN x ((0:Int),())) 0 (fun u0=>l (some (true,()))) (bS (TN x ((0:Int),())) (fun u1=>l (some u1)) (l none))
theorem q59:QO G59 Try.f59 l59 a59 r59 Q59:=fun _=>by kernel_rfl
def M59 (x:(a59).den):Option (r59).den:=Q59 (fun r=>r) (fun _ _=>none) x
theorem m59:MO G59 Try.f59 l59 M59:=fun x=>by rw [q59]; unfold M59 Q59; simp only [Tree.sure,iO]
def p59:=pO M59
def v59:=vO (τ:=r59) M59
def k59:ee:=⟨a59,r59,p59,v59⟩
theorem h59:Holds Try.prog 59 k59:=hO aud g59 m59 fun G' hlo hF hE=>ai (by rw [axx]; exact .cons (lv hE hF hlo (ln aey) GK amD) (.nil))
noncomputable def c41:=zo Try.f41
theorem aue:zq 41 Try.f41 c41:=zu
abbrev a41:Ty:=T79
abbrev MI:Ty:=T3
noncomputable def G41:Ctx:=Ctx.of [(59,.pure k59)]
theorem g41:SP G41:=aD (fa ⟨⟨aud.c,h59⟩,f0⟩)
noncomputable def Mw:Code:=aG ((af (c41))[0]?)
theorem aez:af (Mw)=[]:=by kernel_rfl
abbrev ox:List aL:=[.slot 0 (.pc ec),.slot 1 (.pc ec)]
abbrev mq:List aL:=[.slot 5 (.pc tI)]
abbrev BF:List aL:=ox ++ mq
def Pg:ZJ ox mq BF:=ZA _ _
def GL:ZS ox mq BF:=ZP _ _
abbrev CL:aO:=⟨[(0,[])],[.slot 4 (.pc .bool)],[]⟩
abbrev Ee:aO:=⟨[(0,[])],[.slot 4 (.pc .bool)],[]⟩
def Lv:ZE ox Ee CL:=fun id=>match id with | 0=>fun c y=>y | _=>jm
def TO {α:Type} (l:RQ mq Ee->α) (an:α->α->α) (c:ZD ox) (v:ZD mq):α:=bif (decide (v.1 < ((c.1.n:Nat):Int))) then bif (decide (((0:Int)<=v.1)/\(v.1 < ((c.1.n:Nat):Int)))) then bif (decide (((0:Int)<=v.1)/\(v.1 < ((c.2.1.n:Nat):Int)))) then cl (r59).dflt (M59 ((c.1.g (Int.toNat v.1)).1,(c.2.1.g (Int.toNat v.1)))) (fun u0=>bif (!u0.1) then l (.out (.ret (false,()))) else l (.next ((W (v.1 + (1:Int))),()))) (l .bad) else l .bad else l .bad else l (.out (.exit 0 ()))
theorem amG:ZO G41 0 27 Mw [] Pg Lv ZI ZI TO:=fun _ _=>by kernel_rfl
def TP (c:ZD ox) (v:ZD mq):RQ mq Ee:=TO (fun r=>r) (fun _ _=>.bad) c v
theorem amH:SO G41 0 27 Mw [] Pg Lv ZI ZI TP:=fun c v=>by rw [amG]; unfold TP TO; simp only [bu,aM,pM]
def TQ (c:ZD ox) (v:ZD mq):LQ Ee:=aH (TP c) cz v
theorem axA:af (c41)=[.loop Mw]:=by kernel_rfl
noncomputable def l41:List Loop:=[lk 0 Lv ZI ZI true GL TQ]
def Q41 {α:Type} (l:Option (MI).den->α) (an:α->α->α) (x:(a41).den):α:=bif (!(decide (((x.1.n:Nat):Int)=((x.2.1.n:Nat):Int)))) then l (some (false,())) else aF (TQ x ((0:Int),())) 0 (fun u1=>l (some (true,()))) (bS (TQ x ((0:Int),())) (fun u2=>l (some u2)) (l none))
theorem q41:QO G41 Try.f41 l41 a41 MI Q41:=fun _=>by kernel_rfl
def M41 (x:(a41).den):Option (MI).den:=Q41 (fun r=>r) (fun _ _=>none) x
theorem m41:MO G41 Try.f41 l41 M41:=fun x=>by rw [q41]; unfold M41 Q41; simp only [Tree.sure,iO]
def p41:=pO M41
def v41:=vO (τ:=MI) M41
def k41:ee:=⟨a41,MI,p41,v41⟩
theorem h41:Holds Try.prog 41 k41:=hO aue g41 m41 fun G' hlo hF hE=>ai (by rw [axA]; exact .cons (lv hE hF hlo (ln aez) GL amH) (.nil))
noncomputable def c43:=zo Try.f43
theorem ar6:zq 43 Try.f43 c43:=zu
abbrev TR:Ty:=T88
abbrev Rc:Ty:=T34
noncomputable def G43:Ctx:=Ctx.of [(63,.pure k63),(64,.pure k64),(78,.pure k78),(79,.pure k79),(80,.pure k80),(88,.pure k88)]
theorem g43:SP G43:=aD (fa ⟨⟨NJ.c,h63⟩,fa ⟨⟨VM.c,h64⟩,fa ⟨⟨acp.c,h78⟩,fa ⟨⟨ajY.c,h79⟩,fa ⟨⟨aiC.c,h80⟩,fa ⟨⟨WY.c,h88⟩,f0⟩⟩⟩⟩⟩⟩)
noncomputable def abE:Code:=aG ((af (c43))[0]?)
theorem aeC:af (abE)=[]:=by kernel_rfl
theorem axF:af (c43)=[.loop abE]:=by kernel_rfl
noncomputable def l43:List Loop:=[.gW 4 []]
def Q43 {α:Type} (l:Option (Rc).den->α) (an:α->α->α) (x:(TR).den):α:=cl (WH).dflt (M78 (x.1,((W (((x.1.1.n:Nat):Int) - (1:Int))),(x.2.1,())))) (fun u0=>bif u0.1 then cl (r64).dflt (Kk (x.2.2.1,((0:Int),((200:Int),())))) (fun u1=>cl (MH).dflt (Sh (x.1,u1)) (fun u2=>bif (!(decide (u2.1=(0:Int)))) then l (some (((0:Int),((0:Int),((0:Int),((0:Int),((0:Int),((0:Int),())))))),u2)) else cl (WJ).dflt (M80 (x.1,((W (((x.1.1.n:Nat):Int) - (1:Int))),(x.2.1,())))) (fun u3=>cl (RP).dflt (UQ ((x.1.1,(x.1.2.1,(x.1.2.2.1,(x.1.2.2.2.1,(x.1.2.2.2.2.1,((),())))))),(u3.1,x.2.2))) (fun u4=>cl (WI).dflt (M79 (((mx (0:Int) u4.1.1),((mn (100:Int) u4.1.2.1),((mx (0:Int) u4.1.2.2.1),((mn (100:Int) u4.1.2.2.2.1),((mx (0:Int) u4.1.2.2.2.2.1),((mn (99999:Int) u4.1.2.2.2.2.2.1),())))))),())) (fun u5=>l (some (u5.1,((0:Int),())))) (l none)) (l none)) (l none)) (l none)) (l none) else cl (MH).dflt (Sh (x.1,(false,()))) (fun u6=>bif (!(decide (u6.1=(0:Int)))) then l (some (((0:Int),((0:Int),((0:Int),((0:Int),((0:Int),((0:Int),())))))),u6)) else cl (WJ).dflt (M80 (x.1,((W (((x.1.1.n:Nat):Int) - (1:Int))),(x.2.1,())))) (fun u7=>cl (RP).dflt (UQ ((x.1.1,(x.1.2.1,(x.1.2.2.1,(x.1.2.2.2.1,(x.1.2.2.2.2.1,((),())))))),(u7.1,x.2.2))) (fun u8=>cl (WI).dflt (M79 (((mx (0:Int) u8.1.1),((mn (100:Int) u8.1.2.1),((mx (0:Int) u8.1.2.2.1),((mn (100:Int) u8.1.2.2.2.1),((mx (0:Int) u8.1.2.2.2.2.1),((mn (99999:Int) u8.1.2.2.2.2.2.1),())))))),())) (fun u9=>l (some (u9.1,((0:Int),())))) (l none)) (l none)) (l none)) (l none)) (l none)
theorem q43:QO G43 Try.f43 l43 TR Rc Q43:=fun _=>by kernel_rfl
def M43 (x:(TR).den):Option (Rc).den:=Q43 (fun r=>r) (fun _ _=>none) x
theorem m43:MO G43 Try.f43 l43 M43:=fun x=>by rw [q43]; unfold M43 Q43; simp only [Tree.sure,iO]
def p43:=pO M43
def v43:=vO (τ:=Rc) M43
def k43:ee:=⟨TR,Rc,p43,v43⟩
theorem h43:Holds Try.prog 43 k43:=hO ar6 g43 m43 fun G' hlo hF hE=>ai (by rw [axF]; exact .unr (ai (by rw [aeC]; exact .nil)) (.nil))
noncomputable def aoC:=zo Try.f132
theorem aiN:zq 132 Try.f132 aoC:=zu
abbrev HK:Ty:=T0
abbrev FQ:Ty:=T3
noncomputable def aeD:Ctx:=Ctx.of []
theorem axH:SP aeD:=aD f0
def aeE {α:Type} (l:Option (FQ).den->α) (an:α->α->α) (x:(HK).den):α:=l (some ((!(decide (x.1=x.1))),()))
theorem axI:QO aeD Try.f132 [] HK FQ aeE:=fun _=>by kernel_rfl
def OL (x:(HK).den):Option (FQ).den:=aeE (fun r=>r) (fun _ _=>none) x
theorem axJ:MO aeD Try.f132 [] OL:=fun x=>by rw [axI]; unfold OL aeE; simp only [Tree.sure,iO]
def axK:=pO OL
def axL:=vO (τ:=FQ) OL
def amI:ee:=⟨HK,FQ,axK,axL⟩
theorem axM:Holds Try.prog 132 amI:=hO aiN axH axJ l0
noncomputable def aoD:=zo Try.f114
theorem aiO:zq 114 Try.f114 aoD:=zu
abbrev HL:Ty:=T1
abbrev Ja:Ty:=T0
noncomputable def aeF:Ctx:=Ctx.of [(132,.pure amI)]
theorem axN:SP aeF:=aD (fa ⟨⟨aiN.c,axM⟩,f0⟩)
def aeG {α:Type} (l:Option (Ja).den->α) (an:α->α->α) (x:(HL).den):α:=cl (FQ).dflt (OL (x.1,())) (fun u0=>cl (FQ).dflt (OL x.2) (fun u1=>bif u0.1 then bif u1.1 then l (some ((0:Int),())) else l (some ((-1:Int),())) else bif u1.1 then l (some ((1:Int),())) else bif (decide (x.1 < x.2.1)) then l (some ((-1:Int),())) else bif (decide (x.2.1 < x.1)) then l (some ((1:Int),())) else l (some ((0:Int),()))) (l none)) (l none)
theorem axO:QO aeF Try.f114 [] HL Ja aeG:=fun _=>by kernel_rfl
def TS (x:(HL).den):Option (Ja).den:=aeG (fun r=>r) (fun _ _=>none) x
theorem axP:MO aeF Try.f114 [] TS:=fun x=>by rw [axO]; unfold TS aeG; simp only [Tree.sure,iO]
def axQ:=pO TS
def axR:=vO (τ:=Ja) TS
def amJ:ee:=⟨HL,Ja,axQ,axR⟩
theorem axS:Holds Try.prog 114 amJ:=hO aiO axN axP l0
noncomputable def c84:=zo Try.f84
theorem aj1:zq 84 Try.f84 c84:=zu
abbrev a84:Ty:=T91
abbrev r84:Ty:=T0
noncomputable def G84:Ctx:=Ctx.of [(114,.pure amJ)]
theorem g84:SP G84:=aD (fa ⟨⟨aiO.c,axS⟩,f0⟩)
noncomputable def Mx:Code:=aG ((af (c84))[0]?)
theorem aeH:af (Mx)=[]:=by kernel_rfl
abbrev oy:List aL:=[.slot 0 (.pc (.sl T0)),.slot 1 (.pc (.sl T0)),.slot 9 (.pc (.sl T0)),.slot 10 (.pc tI)]
abbrev mu:List aL:=[.slot 11 (.pc tI)]
abbrev BG:List aL:=oy ++ mu
def Ph:ZJ oy mu BG:=ZA _ _
def GM:ZS oy mu BG:=ZP _ _
abbrev CM:aO:=⟨[(0,[.slot 0 (.pc (.sl T0)),.slot 1 (.pc (.sl T0))])],[.slot 4 (.pc tI)],[]⟩
abbrev Ef:aO:=⟨[(0,[])],[.slot 4 (.pc tI)],[]⟩
def Lw:ZE oy Ef CM:=fun id=>match id with | 0=>fun c y=>(c.1,(c.2.1,y)) | _=>jm
def TT {α:Type} (l:RQ mu Ef->α) (an:α->α->α) (c:ZD oy) (v:ZD mu):α:=bif (decide (v.1 < c.2.2.2.1)) then bif (decide (((0:Int)<=v.1)/\(v.1 < ((c.2.2.1.n:Nat):Int)))) then bif (decide (((c.2.1.n:Nat):Int)<=v.1)) then l (.out (.ret ((1:Int),()))) else bif (decide (((0:Int)<=v.1)/\(v.1 < ((c.2.1.n:Nat):Int)))) then cl (Ja).dflt (TS ((c.2.2.1.g (Int.toNat v.1)).1,(c.2.1.g (Int.toNat v.1)))) (fun u0=>bif (!(decide (u0.1=(0:Int)))) then l (.out (.ret u0)) else l (.next ((W (v.1 + (1:Int))),()))) (l .bad) else l .bad else l .bad else l (.out (.exit 0 ()))
theorem amL:ZO G84 0 36 Mx [] Ph Lw ZI ZI TT:=fun _ _=>by kernel_rfl
def TU (c:ZD oy) (v:ZD mu):RQ mu Ef:=TT (fun r=>r) (fun _ _=>.bad) c v
theorem amM:SO G84 0 36 Mx [] Ph Lw ZI ZI TU:=fun c v=>by rw [amL]; unfold TU TT; simp only [bu,aM,pM]
def TV (c:ZD oy) (v:ZD mu):LQ Ef:=aH (TU c) cz v
theorem axU:af (c84)=[.loop Mx]:=by kernel_rfl
noncomputable def l84:List Loop:=[lk 0 Lw ZI ZI true GM TV]
def Q84 {α:Type} (l:Option (r84).den->α) (an:α->α->α) (x:(a84).den):α:=aF (TV (x.1,(x.2.1,(x.1,(((x.1.n:Nat):Int),())))) ((0:Int),())) 0 (fun u1=>bif (decide (((x.1.n:Nat):Int) < ((x.2.1.n:Nat):Int))) then l (some ((-1:Int),())) else l (some ((0:Int),()))) (bS (TV (x.1,(x.2.1,(x.1,(((x.1.n:Nat):Int),())))) ((0:Int),())) (fun u2=>l (some u2)) (l none))
theorem q84:QO G84 Try.f84 l84 a84 r84 Q84:=fun _=>by kernel_rfl
def M84 (x:(a84).den):Option (r84).den:=Q84 (fun r=>r) (fun _ _=>none) x
theorem m84:MO G84 Try.f84 l84 M84:=fun x=>by rw [q84]; unfold M84 Q84; simp only [Tree.sure,iO]
def p84:=pO M84
def v84:=vO (τ:=r84) M84
def k84:ee:=⟨a84,r84,p84,v84⟩
theorem h84:Holds Try.prog 84 k84:=hO aj1 g84 m84 fun G' hlo hF hE=>ai (by rw [axU]; exact .cons (lv hE hF hlo (ln aeH) GM amM) (.nil))
noncomputable def c83:=zo Try.f83
theorem axW:zq 83 Try.f83 c83:=zu
def TW:Go.Shelf.Ren:=⟨fun x=>match x with | 6=>83 | 15=>113 | 14=>112 | 28=>130 | 29=>131 | 20=>122 | 21=>123 | 22=>124 | 23=>125 | 24=>126 | 25=>127 | 26=>128 | 27=>129 | 46=>136 | 47=>137 | 48=>138 | 49=>139 | 50=>140 | 57=>141 | n=>n,fun x=>match x with | 22=>58 | 24=>79 | 25=>113 | 3=>3 | 39=>140 | 0=>0 | 53=>160 | 55=>162 | 4=>4 | 46=>153 | 45=>152 | 50=>157 | 5=>5 | 9=>9 | 66=>165 | 70=>169 | 76=>171 | 77=>172 | n=>n,fun n=>n⟩
theorem aeI:Go.Proofs.SlLaysF.n6 Try.prog TW:={ mixed:=aA,f6:=⟨Try.f83.name,by kernel_rfl,by kernel_rfl⟩,f14:=⟨Try.f112.name,by kernel_rfl,by kernel_rfl⟩,f15:=by kernel_rfl,f20:=⟨Try.f122.name,by kernel_rfl,by kernel_rfl⟩,f21:=⟨Try.f123.name,by kernel_rfl,by kernel_rfl⟩,f22:=⟨Try.f124.name,by kernel_rfl,by kernel_rfl⟩,f23:=⟨Try.f125.name,by kernel_rfl,by kernel_rfl⟩,f24:=⟨Try.f126.name,by kernel_rfl,by kernel_rfl⟩,f25:=⟨Try.f127.name,by kernel_rfl,by kernel_rfl⟩,f26:=⟨Try.f128.name,by kernel_rfl,by kernel_rfl⟩,f27:=⟨Try.f129.name,by kernel_rfl,by kernel_rfl⟩,f28:=by kernel_rfl,f29:=by kernel_rfl,f46:=⟨Try.f136.name,by kernel_rfl,by kernel_rfl⟩,f47:=by kernel_rfl,f48:=by kernel_rfl,f49:=⟨Try.f139.name,by kernel_rfl,by kernel_rfl⟩,f50:=⟨Try.f140.name,by kernel_rfl,by kernel_rfl⟩,f57:=⟨Try.f141.name,by kernel_rfl,by kernel_rfl⟩,t0:=Try.underlying0,a0:=Try.isAgg0,z0:=Try.sizeOf0,v0:=Try.zeroValue0,t3:=Try.underlying3,a3:=Try.isAgg3,z3:=Try.sizeOf3,v3:=Try.zeroValue3,t4:=Try.underlying4,a4:=Try.isAgg4,z4:=Try.sizeOf4,v4:=Try.zeroValue4,t5:=Try.underlying5,a5:=Try.isAgg5,z5:=Try.sizeOf5,v5:=Try.zeroValue5,t9:=Try.underlying9,a9:=Try.isAgg9,z9:=Try.sizeOf9,v9:=Try.zeroValue9,t22:=Try.underlying58,a22:=Try.isAgg58,z22:=Try.sizeOf58,v22:=Try.zeroValue58,a24:=Try.isAgg79,z24:=Try.sizeOf79,t25:=Try.underlying113,a25:=Try.isAgg113,z25:=Try.sizeOf113,v25:=Try.zeroValue113,t39:=Try.underlying140,a39:=Try.isAgg140,z39:=Try.sizeOf140,v39:=Try.zeroValue140,t45:=Try.underlying152,a45:=Try.isAgg152,z45:=Try.sizeOf152,v45:=Try.zeroValue152,t46:=Try.underlying153,a46:=Try.isAgg153,z46:=Try.sizeOf153,v46:=Try.zeroValue153,t50:=Try.underlying157,a50:=Try.isAgg157,z50:=Try.sizeOf157,v50:=Try.zeroValue157,t53:=Try.underlying160,a53:=Try.isAgg160,z53:=Try.sizeOf160,v53:=Try.zeroValue160,t55:=Try.underlying162,a55:=Try.isAgg162,z55:=Try.sizeOf162,v55:=Try.zeroValue162,t66:=Try.underlying165,a66:=Try.isAgg165,z66:=Try.sizeOf165,v66:=Try.zeroValue165,t70:=Try.underlying169,a70:=Try.isAgg169,z70:=Try.sizeOf169,v70:=Try.zeroValue169,t76:=Try.underlying171,a76:=Try.isAgg171,z76:=Try.sizeOf171,v76:=Try.zeroValue171,t77:=Try.underlying172,a77:=Try.isAgg172,z77:=Try.sizeOf172,v77:=Try.zeroValue172 }
theorem axX:fH Try.prog 83 (IL 84 (.sl sR) p84 v84):=Hf (ρr:=TW) aeI aj1.c rfl h84
theorem aeJ:fH Try.prog 84 (fun _ _ _ _=>.leaf .bad):=fun _ _ _ _ _ _ _ _ _ _ _ _ _ _ _ _ hall=>absurd rfl (hall .bad rfl)
noncomputable def c86:=zo Try.f86
theorem auf:zq 86 Try.f86 c86:=zu
abbrev a86:Ty:=T91
abbrev r86:Ty:=T3
noncomputable def G86:Ctx:=Ctx.of []
theorem g86:SP G86:=aD f0
noncomputable def My:Code:=aG ((af (c86))[0]?)
theorem aeK:af (My)=[]:=by kernel_rfl
abbrev oz:List aL:=[.slot 0 (.pc (.sl T0)),.slot 1 (.pc (.sl T0)),.slot 12 (.pc tI)]
abbrev mw:List aL:=[.slot 13 (.pc tI)]
abbrev BH:List aL:=oz ++ mw
def Pj:ZJ oz mw BH:=ZA _ _
def GN:ZS oz mw BH:=ZP _ _
abbrev CN:aO:=⟨[(0,[])],[.slot 4 (.pc .bool)],[]⟩
abbrev Eg:aO:=⟨[(0,[])],[.slot 4 (.pc .bool)],[]⟩
def Lx:ZE oz Eg CN:=fun id=>match id with | 0=>fun c y=>y | _=>jm
def TX {α:Type} (l:RQ mw Eg->α) (an:α->α->α) (c:ZD oz) (v:ZD mw):α:=bif (decide (v.1 < c.2.2.1)) then bif (decide (((0:Int)<=v.1)/\(v.1 < ((c.1.n:Nat):Int)))) then bif (decide (((0:Int)<=v.1)/\(v.1 < ((c.2.1.n:Nat):Int)))) then bif (!(decide ((c.1.g (Int.toNat v.1)).1=(c.2.1.g (Int.toNat v.1)).1))) then l (.out (.ret (false,()))) else l (.next ((W (v.1 + (1:Int))),())) else l .bad else l .bad else l (.out (.exit 0 ()))
theorem amP:ZO G86 0 26 My [] Pj Lx ZI ZI TX:=fun _ _=>by kernel_rfl
def TY (c:ZD oz) (v:ZD mw):RQ mw Eg:=TX (fun r=>r) (fun _ _=>.bad) c v
theorem amQ:SO G86 0 26 My [] Pj Lx ZI ZI TY:=fun c v=>by rw [amP]; unfold TY TX; simp only [bu,aM,pM]
def TZ (c:ZD oz) (v:ZD mw):LQ Eg:=aH (TY c) cz v
theorem axZ:af (c86)=[.loop My]:=by kernel_rfl
noncomputable def l86:List Loop:=[lk 0 Lx ZI ZI true GN TZ]
def Q86 {α:Type} (l:Option (r86).den->α) (an:α->α->α) (x:(a86).den):α:=bif (!(decide (((x.1.n:Nat):Int)=((x.2.1.n:Nat):Int)))) then l (some (false,())) else aF (TZ (x.1,(x.2.1,(((x.1.n:Nat):Int),()))) ((0:Int),())) 0 (fun u0=>l (some (true,()))) (bS (TZ (x.1,(x.2.1,(((x.1.n:Nat):Int),()))) ((0:Int),())) (fun u1=>l (some u1)) (l none))
theorem q86:QO G86 Try.f86 l86 a86 r86 Q86:=fun _=>by kernel_rfl
def M86 (x:(a86).den):Option (r86).den:=Q86 (fun r=>r) (fun _ _=>none) x
theorem m86:MO G86 Try.f86 l86 M86:=fun x=>by rw [q86]; unfold M86 Q86; simp only [Tree.sure,iO]
def p86:=pO M86
def v86:=vO (τ:=r86) M86
def k86:ee:=⟨a86,r86,p86,v86⟩
theorem h86:Holds Try.prog 86 k86:=hO auf g86 m86 fun G' hlo hF hE=>ai (by rw [axZ]; exact .cons (lv hE hF hlo (ln aeK) GN amQ) (.nil))
noncomputable def c85:=zo Try.f85
theorem aug:zq 85 Try.f85 c85:=zu
open Go.Sort Go.Proofs Go.Shelf Go.Lib in
set_option maxHeartbeats 4000000 in
set_option maxRecDepth 1000000 in
theorem at6:aoh Try.prog 85 (.slice none 0 0):=by
 intro α _ enc ef g blk off cap d w eg heq R hcap hsz
 have mixed:Try.prog.follows .mixedOrders=true:=by kernel_rfl
 have t58:=Try.underlying58; have a58:=Try.isAgg58; have z58:=Try.sizeOf58; have v58:=Try.zeroValue58
 have t79:=Try.underlying79; have a79:=Try.isAgg79; have z79:=Try.sizeOf79; have v79:=Try.zeroValue79
 have t3:=Try.underlying3; have a3:=Try.isAgg3; have z3:=Try.sizeOf3; have v3:=Try.zeroValue3
 have t4:=Try.underlying4; have a4:=Try.isAgg4; have z4:=Try.sizeOf4; have v4:=Try.zeroValue4
 have aBh:=R.hO.cells
 simp only [Value.cells] at aBh
 have hst:=R.hO.store Try.prog
 have abG:Aside _:=heq
 have abL:Aside _:=R
 have S0:Aside (SW enc w blk off d w):=SW.start R.hH
 clear heq R
 by_cases h2:d.size < 2
 ·go_enter Try.func85,Try.ntmps85
  go_wp2
  go_ret
  exact .inl ⟨rfl,fun j hj=>avf j (by omega),S0⟩
 ·go_enter Try.func85,Try.ntmps85
  go_wp2
  go_loopg [5] d.size (fun g1 s5 wr=>∃ k:Nat,1<=k/\k<=d.size/\d.size - k<=g1/\s5 = .int .i64 k/\Aside (SW enc w blk off d wr)/\Aside (∀ j,j < k->kp ef d j=true))
  case atStart=>exact ⟨1,Nat.le_refl _,by omega,by omega,rfl,S0,avf⟩
  case round =>
   clear S0
   obtain ⟨k,hk1,hk,hg,rfl,S1,A⟩:=hrel
   by_cases hlt:k < d.size
   ·obtain ⟨q,rfl⟩:∃ q,k=q + 1:=⟨k - 1,by omega⟩
    have l1:=S1.out.cl abL.out rfl (q + 1) hlt
    have l0:=S1.out.cl abL.out rfl q (by omega)
    have hc1:=aIf S1.out abG.out rfl d[q + 1]! d[q]!
    generalize hx:d[q + 1]! = x at l1 hc1
    generalize hy:d[q]! = y at l0 hc1
    have B:Aside (d[q + 1]! = x/\d[q]! = y):=⟨hx,hy⟩
    clear hx hy
    have pa:(0:Int)<=(q:Int) + 1:=by omega
    have ba:(q:Int) + 1 < (d.size:Int):=by omega
    have ra:IntKind.i64.wrap ((q:Int) + 1)=(q:Int) + 1:=by rw [IntKind.wrap_i64]; omega
    have abW:((q:Int)).toNat=q:=by omega
    have pc:(0:Int)<=(q:Int):=by omega
    have bc:(q:Int) < (d.size:Int):=by omega
    have rc:IntKind.i64.wrap ((q:Int))=(q:Int):=by rw [IntKind.wrap_i64]; omega
    cases apG:ef x y with
    | true =>
     rw [apG] at hc1
     go_wp2_with fail
     go_quiet_grown (first | (go_at_fn g; refine Calls.grown_of (hc1 _ _)))
     have S2:Aside (SW enc w blk off d (grow (wr.drewN nq) osq)):=S1.out.grown nq osq
     clear l1 l0 hc1 S1
     generalize grow (wr.drewN nq) osq=w2 at S2 ⊢
     clear nq osq
     go_wp2
     go_loopg [5,7] d.size (fun g2 s5 s7 wr2=>∃ (kk k2:Nat) (dk:Array α),s5 = .int .i64 kk/\s7 = .int .i64 k2/\1<=k2/\q + 1 + k2<=d.size/\d.size - (q + 1 + k2)<=g2/\Aside (SW enc w blk off dk wr2)/\Aside (abk ef d (q + 1 + k2) kk dk))
     case atStart=>exact ⟨q + 1,1,d,by go_num,rfl,Nat.le_refl _,by omega,by omega,S2,abk.start A.out (avC (by omega) (by rw [B.out.1,Nat.add_sub_cancel,B.out.2]; exact apG))⟩
     case round =>
      clear S2 B apG ra rc abW pc pa bc ba
      obtain ⟨kk,k2,dk,rfl,rfl,h1,hle,hg2,S3,I⟩:=hrel
      have hkk:=I.out.lt
      have hds:=I.out.size
      by_cases aRN:q + 1 + k2 < d.size
      ·obtain ⟨r,rfl⟩:∃ r,k2=r + 1:=⟨k2 - 1,by omega⟩
       have l1:=S3.out.cl abL.out hds (q + 1 + (r + 1)) (by omega)
       have l0:=S3.out.cl abL.out hds (q + 1 + r) (by omega)
       have hc1:=aIf S3.out abG.out hds d[q + 1 + (r + 1)]! d[q + 1 + r]!
       rw [I.out.high (q + 1 + (r + 1)) (by omega),show off + (q + 1 + (r + 1))=off + (q + 1) + (r + 1) by omega] at l1
       rw [I.out.high (q + 1 + r) (by omega),show off + (q + 1 + r)=off + (q + 1) + r by omega] at l0
       generalize hu:d[q + 1 + (r + 1)]! = u at l1 hc1
       generalize hv:d[q + 1 + r]! = v at l0 hc1
       have C:Aside (d[q + 1 + (r + 1)]! = u/\d[q + 1 + r]! = v):=⟨hu,hv⟩
       clear hu hv
       have pa:(0:Int)<=(r:Int) + 1:=by omega
       have ba:(r:Int) + 1 < ((d.size - (q + 1):Nat):Int):=by omega
       have ra:IntKind.i64.wrap ((r:Int) + 1)=(r:Int) + 1:=by rw [IntKind.wrap_i64]; omega
       have abW:((r:Int)).toNat=r:=by omega
       have pc:(0:Int)<=(r:Int):=by omega
       have bc:(r:Int) < ((d.size - (q + 1):Nat):Int):=by omega
       have rc:IntKind.i64.wrap ((r:Int))=(r:Int):=by rw [IntKind.wrap_i64]; omega
       cases huv:ef u v with
       | true =>
        rw [huv] at hc1
        go_wp2_with fail
        go_quiet_grown (first | (go_at_fn g; refine Calls.grown_of (hc1 _ _)))
        have S4:Aside (SW enc w blk off dk (grow (wr.drewN nq) osq)):=S3.out.grown nq osq
        clear l1 l0 hc1 S3
        generalize grow (wr.drewN nq) osq=w3 at S4 ⊢
        clear nq osq
        go_wp2
        go_roundg (d.size - (q + 1 + (r + 1 + 1)))
        case measure=>omega
        case rel=>exact ⟨kk,r + 1 + 1,dk,rfl,by go_num,by omega,by omega,Nat.le_refl _,S4,I.out.skip (avC (by omega) (by rw [C.out.1,show q + 1 + (r + 1) - 1=q + 1 + r by omega,C.out.2]; exact huv))⟩
       | false =>
        rw [huv] at hc1
        go_wp2_with fail
        go_quiet_grown (first | (go_at_fn g; refine Calls.grown_of (hc1 _ _)))
        have S4:Aside (SW enc w blk off dk (grow (wr.drewN nq) osq)):=S3.out.grown nq osq
        clear l1 l0 hc1 S3
        generalize grow (wr.drewN nq) osq=w3 at S4 ⊢
        clear nq osq
        have c1:=S4.out.c1 abL.out hds (q + 1 + (r + 1)) (by omega)
        have ck:=S4.out.c1 abL.out hds kk (by omega)
        have abJ:=S4.out.f1 abL.out hds kk (by omega)
        rw [I.out.high (q + 1 + (r + 1)) (by omega),C.out.1,show off + (q + 1 + (r + 1))=off + (q + 1) + (r + 1) by omega] at c1
        generalize dk[kk]! = old at ck
        go_wp2
        go_roundg (d.size - (q + 1 + (r + 1 + 1)))
        case measure=>omega
        case rel=>exact ⟨kk + 1,r + 1 + 1,dk.setIfInBounds kk u,by go_num,by go_num,by omega,by omega,Nat.le_refl _,aIk S4.out abL.out.hblk (by omega) u,by have:=I.out.keep aRN (avr (by rw [C.out.1,show q + 1 + (r + 1) - 1=q + 1 + r by omega,C.out.2]; exact huv)); rwa [C.out.1] at this⟩
      ·have hend:q + 1 + k2=d.size:=by omega
       have jK:∀ ty,(Builtin.clear_ #[58] ty #[.slice (some ⟨blk,off + kk,none⟩) (d.size - kk) (cap - kk)]).run Try.prog wr = .ok (.tuple #[]) (wr.setCells blk (off + kk) (List.replicate (d.size - kk) (.slice none 0 0))):=
        fun ty=>Lib.run_clear_slice wr _ _ ty _ t58 v79 rfl rfl blk (off + kk) _ _ (by omega) (fun j hj=>by rw [show off + kk + j=off + (kk + j) by omega,S3.out.c1 abL.out hds (kk + j) (by omega)]; rfl) (fun j hj=>by rw [show off + kk + j=off + (kk + j) by omega]; exact S3.out.f1 abL.out hds (kk + j) (by omega))
       go_wp2
       go_ret
       refine .inr ⟨kk,dk,wr,rfl,?_,S3,rfl⟩
       have hI:=I.out
       rwa [hend] at hI
    | false =>
     rw [apG] at hc1
     go_wp2_with fail
     go_quiet_grown (first | (go_at_fn g; refine Calls.grown_of (hc1 _ _)))
     have S2:Aside (SW enc w blk off d (grow (wr.drewN nq) osq)):=S1.out.grown nq osq
     clear l1 l0 hc1 S1
     generalize grow (wr.drewN nq) osq=w2 at S2 ⊢
     clear nq osq
     go_wp2
     go_roundg (d.size - (q + 1 + 1))
     case measure=>omega
     case rel =>
      refine ⟨q + 1 + 1,by omega,by omega,Nat.le_refl _,by go_num,S2,fun j hj=>?_⟩
      by_cases e:j=q + 1
      ·subst e
       exact avr (by rw [B.out.1,Nat.add_sub_cancel,B.out.2]; exact apG)
      ·exact A.out j (by omega)
   ·have:k=d.size:=by omega
    subst this
    go_wp2
    go_ret
    exact .inl ⟨rfl,A.out,S1⟩
theorem aRO:fH Try.prog 85 (ajD 86 (.sl sR) p86 v86):=am9 at6 auf.c h86
theorem aEE:fH Try.prog 86 (fun _ _ _ _=>.leaf .bad):=fun _ _ _ _ _ _ _ _ _ _ _ _ _ _ _ _ hall=>absurd rfl (hall .bad rfl)
noncomputable def c39:=zo Try.f39
theorem apr:zq 39 Try.f39 c39:=zu
abbrev a39:Ty:=T88
abbrev Re:Ty:=T77
noncomputable def G39:Ctx:=Ctx.of [(63,.pure k63),(78,.pure k78),(81,.pure k81),(82,.pure k82),(83,.gen (IL 84 (.sl sR) p84 v84)),(84,.gen (fun _ _ _ _=>.leaf .bad)),(85,.gen (ajD 86 (.sl sR) p86 v86)),(86,.gen (fun _ _ _ _=>.leaf .bad))]
theorem g39:SP G39:=aD (fa ⟨⟨NJ.c,h63⟩,fa ⟨⟨acp.c,h78⟩,fa ⟨⟨Sg.c,h81⟩,fa ⟨⟨aub.c,h82⟩,fa ⟨⟨axW.c,axX⟩,fa ⟨⟨aj1.c,aeJ⟩,fa ⟨⟨aug.c,aRO⟩,fa ⟨⟨auf.c,aEE⟩,f0⟩⟩⟩⟩⟩⟩⟩⟩)
noncomputable def Mz:Code:=mP ((af (c39))[0]?)
noncomputable def Lz:Code:=tZ ((af (c39))[0]?)
abbrev kq:List aL:=[.slot 4 (.ptr 4),.slot 5 (.ptr 5),.slot 9 (.ptr 111),.box 4 [.pc tI],.box 5 [.pc tI],.box 111 [.own 1112000 79 nK]]
theorem aeN:af (Mz)=[]:=by kernel_rfl
def Ud {α:Type} (l:RO kq->α) (an:α->α->α) (x:ZD kq) (it:Ty.den gN):α:=cl (r82).dflt (M82 (it.1,(x.2.2.2.1.1,x.2.2.2.2.1))) (fun u0=>bif (decide (((x.2.2.2.2.2.1.1.n + 1) * 24)<=140737488355328)) then l (.next ((),((),((),(x.2.2.2.1,(x.2.2.2.2.1,(((cK x.2.2.2.2.2.1.1 (⟨1,fun i=>List.getD [u0] i u0⟩:Sl (Ty.den nK))),()),()))))))) else l .bad) (l .bad)
theorem amV (x:ZD kq) (it:Ty.den gN):jl Try.prog (E0.rw [] [83,85]) G39 0 500000 34 [22] Lz Mz [] [] gN kq x it=Ud .leaf .any x it:=by kernel_rfl
def Ue (x:ZD kq) (it:Ty.den gN):RO kq:=Ud (fun r=>r) (fun _ _=>.bad) x it
theorem amW (x:ZD kq) (it:Ty.den gN):(jl Try.prog (E0.rw [] [83,85]) G39 0 500000 34 [22] Lz Mz [] [] gN kq x it).iZ .bad=Ue x it:=by rw [amV]; unfold Ue Ud; simp only [kC,Tree.iZ,qh,gA,gB]
def Uf (x:ZD kq) (l:List (Ty.den gN)):RO kq:=eW Ue x l
theorem ax5:af (c39)=[.rangeFunc (.tmp 21) #[22] Lz Mz]:=by kernel_rfl
noncomputable def l39:List Loop:=[.known (fun s0=>Tree.map (RM 9) ((tT 0 [] 21 gN kq [] [] (fun x l=>Uf x l)) s0))]
def Q39 {α:Type} (l:Option (Re).den->α) (an:α->α->α) (x:(a39).den):α:=cl (WH).dflt (M78 (x.1,x.2)) (fun u1=>cl (MH).dflt (Sh (x.1,u1)) (fun u2=>bif (!(decide (u2.1=(0:Int)))) then l (some ((⟨0,fun i=>((⟨0,fun i=>((0:Int),())⟩:Sl _),())⟩:Sl _),u2)) else cl (RR).dflt (US (x.1,())) (fun u3=>oQ (Uf ((),((),((),((x.2.1,()),(x.2.2,(((⟨0,fun i=>((⟨0,fun i=>((0:Int),())⟩:Sl _),())⟩:Sl _),()),())))))) (Sl.list u3.1)) (fun u4=>bif (Jz p84 v84 u4.2.2.2.2.2.1.1) then bif (aoi p86 (JB v84 u4.2.2.2.2.2.1.1)) then l (some ((amF v86 (JB v84 u4.2.2.2.2.2.1.1)),((0:Int),()))) else l none else l none) (oR (Uf ((),((),((),((x.2.1,()),(x.2.2,(((⟨0,fun i=>((⟨0,fun i=>((0:Int),())⟩:Sl _),())⟩:Sl _),()),())))))) (Sl.list u3.1)) (fun u5=>l none) (l none))) (l none)) (l none)) (l none)
theorem q39 (x:(a39).den):aI Try.prog (E0.rw [] [83,85]) G39 Try.f39 l39 a39 Re x=Q39 .leaf .any x:=by kernel_rfl
def M39 (x:(a39).den):Option (Re).den:=Q39 (fun r=>r) (fun _ _=>none) x
theorem m39 (x:(a39).den):(aI Try.prog (E0.rw [] [83,85]) G39 Try.f39 l39 a39 Re x).sure=M39 x:=by rw [q39]; unfold M39 Q39; simp only [Tree.sure,iO]
def p39:=pO M39
def v39:=vO (τ:=Re) M39
def k39:ee:=⟨a39,Re,p39,v39⟩
theorem h39:Holds Try.prog 39 k39:=Kq (E:=(E0.rw [] [83,85])) aA g39 aB au apr.a apr.b (by kernel_rfl) m39 fun G' hlo hF hE hT=>ai (by rw [ax5]; exact .cons (RN hT (mO hE hF hlo apr.a (by kernel_rfl) (by kernel_rfl) (by kernel_rfl) (by kernel_rfl) (by kernel_rfl) (fun G' hlo hF l hE=>fC) (fun G' hlo hF l hE=>ai (by rw [aeN]; exact .nil)) amW) 9) (.nil))
noncomputable def c44:=zo Try.f44
theorem aiD:zq 44 Try.f44 c44:=zu
abbrev T92:Ty:=(.cons T12 T20)
abbrev T93:Ty:=(.cons T12 T92)
abbrev a44:Ty:=T93
abbrev Es:Ty:=T8
noncomputable def G44:Ctx:=Ctx.of []
theorem g44:SP G44:=aD f0
def Q44 {α:Type} (l:Option (Es).den->α) (an:α->α->α) (x:(a44).den):α:=l (some ((x.1.1,(x.1.2.1,(x.2.1.1,(x.2.1.2.1,x.2.2.1)))),()))
theorem q44:QO G44 Try.f44 [] a44 Es Q44:=fun _=>by kernel_rfl
def PU (x:(a44).den):Option (Es).den:=Q44 (fun r=>r) (fun _ _=>none) x
theorem m44:MO G44 Try.f44 [] PU:=fun x=>by rw [q44]; unfold PU Q44; simp only [Tree.sure,iO]
def p44:=pO PU
def v44:=vO (τ:=Es) PU
def k44:ee:=⟨a44,Es,p44,v44⟩
theorem h44:Holds Try.prog 44 k44:=hO aiD g44 m44 l0
noncomputable def c48:=zo Try.f48
theorem agY:zq 48 Try.f48 c48:=zu
abbrev PA:Ty:=T1
abbrev oM:Ty:=T20
noncomputable def G48:Ctx:=Ctx.of []
theorem g48:SP G48:=aD f0
def Q48 {α:Type} (l:Option (oM).den->α) (an:α->α->α) (x:(PA).den):α:=l (some (x,()))
theorem q48:QO G48 Try.f48 [] PA oM Q48:=fun _=>by kernel_rfl
def vA (x:(PA).den):Option (oM).den:=Q48 (fun r=>r) (fun _ _=>none) x
theorem Ug:MO G48 Try.f48 [] vA:=fun x=>by rw [q48]; unfold vA Q48; simp only [Tree.sure,iO]
def p48:=pO vA
def v48:=vO (τ:=oM) vA
def k48:ee:=⟨PA,oM,p48,v48⟩
theorem h48:Holds Try.prog 48 k48:=hO agY g48 Ug l0
noncomputable def c62:=zo Try.f62
theorem aui:zq 62 Try.f62 c62:=zu
abbrev Uh:Ty:=.nil
abbrev vN:Ty:=Jd
noncomputable def G62:Ctx:=Ctx.of [(44,.pure k44),(48,.pure k48)]
theorem g62:SP G62:=aD (fa ⟨⟨aiD.c,h44⟩,fa ⟨⟨agY.c,h48⟩,f0⟩⟩)
def Q62 {α:Type} (l:Option (vN).den->α) (an:α->α->α) (x:(Uh).den):α:=cl (oM).dflt (vA ((8:Int),((9:Int),()))) (fun u0=>cl (oM).dflt (vA ((50:Int),((50:Int),()))) (fun u1=>cl (oM).dflt (vA ((74000:Int),((74200:Int),()))) (fun u2=>cl (Es).dflt (PU (u0.1,(u1.1,(u2.1,())))) (fun u3=>cl (oM).dflt (vA ((30:Int),((30:Int),()))) (fun u4=>cl (oM).dflt (vA ((52:Int),((54:Int),()))) (fun u5=>cl (oM).dflt (vA ((75000:Int),((75100:Int),()))) (fun u6=>cl (Es).dflt (PU (u4.1,(u5.1,(u6.1,())))) (fun u7=>cl (oM).dflt (vA ((20:Int),((22:Int),()))) (fun u8=>cl (oM).dflt (vA ((50:Int),((52:Int),()))) (fun u9=>cl (oM).dflt (vA ((74100:Int),((74300:Int),()))) (fun vD=>cl (Es).dflt (PU (u8.1,(u9.1,(vD.1,())))) (fun lM=>cl (oM).dflt (vA ((38:Int),((40:Int),()))) (fun MA=>cl (oM).dflt (vA ((54:Int),((56:Int),()))) (fun Df=>cl (oM).dflt (vA ((74900:Int),((75000:Int),()))) (fun PX=>cl (Es).dflt (PU (MA.1,(Df.1,(PX.1,())))) (fun PB=>cl (oM).dflt (vA ((31:Int),((33:Int),()))) (fun u16=>cl (oM).dflt (vA ((52:Int),((53:Int),()))) (fun Wf=>cl (oM).dflt (vA ((74200:Int),((74900:Int),()))) (fun VP=>cl (Es).dflt (PU (u16.1,(Wf.1,(VP.1,())))) (fun UO=>l (some (((⟨3,fun i=>List.getD [((0:Int),((⟨2,fun i=>List.getD [u3.1,u7.1] i u3.1⟩:Sl _),())),((6:Int),((⟨2,fun i=>List.getD [lM.1,PB.1] i lM.1⟩:Sl _),())),((12:Int),((⟨1,fun i=>List.getD [UO.1] i UO.1⟩:Sl _),()))] i ((0:Int),((⟨2,fun i=>List.getD [u3.1,u7.1] i u3.1⟩:Sl _),()))⟩:Sl _),((2:Int),((50:Int),((0:Int),((1:Int),()))))),()))) (l none)) (l none)) (l none)) (l none)) (l none)) (l none)) (l none)) (l none)) (l none)) (l none)) (l none)) (l none)) (l none)) (l none)) (l none)) (l none)) (l none)) (l none)) (l none)) (l none)
theorem q62:QO G62 Try.f62 [] Uh vN Q62:=fun _=>by kernel_rfl
def OM (x:(Uh).den):Option (vN).den:=Q62 (fun r=>r) (fun _ _=>none) x
theorem ON:MO G62 Try.f62 [] OM:=fun x=>by rw [q62]; unfold OM Q62; simp only [Tree.sure,iO]
def p62:=pO OM
def v62:=vO (τ:=vN) OM
def k62:ee:=⟨Uh,vN,p62,v62⟩
theorem h62:Holds Try.prog 62 k62:=hO aui g62 ON l0
noncomputable def c16:=zo Try.f16
theorem aeP:zq 16 Try.f16 c16:=zu
abbrev a16:Ty:=Jd
abbrev WZ:Ty:=T3
noncomputable def G16:Ctx:=Ctx.of []
theorem g16:SP G16:=aD f0
noncomputable def MB:Code:=aG ((af (c16))[0]?)
theorem aeQ:af (MB)=[]:=by kernel_rfl
abbrev oB:List aL:=[.slot 1 (.ptr 1),.box 1 [.pc eX,.pc tI,.pc tI,.pc tI,.pc tI]]
abbrev jk:List aL:=[.slot 3 (.pc tI)]
abbrev BJ:List aL:=oB ++ jk
def Pm:ZJ oB jk BJ:=ZA _ _
def GQ:ZS oB jk BJ:=ZP _ _
abbrev CP:aO:=⟨[(0,[.slot 1 (.ptr 1),.box 1 [.pc eX,.pc tI,.pc tI,.pc tI,.pc tI]])],[.slot 2 (.pc .bool)],[]⟩
abbrev rZ:aO:=⟨[(0,[])],[.slot 2 (.pc .bool)],[]⟩
def LA:ZE oB rZ CP:=fun id=>match id with | 0=>fun c y=>(c.1,(c.2.1,y)) | _=>jm
def HN {α:Type} (l:RQ jk rZ->α) (an:α->α->α) (c:ZD oB) (v:ZD jk):α:=bif (decide (v.1 < ((c.2.1.1.n:Nat):Int))) then bif (decide (v.1 < (7:Int))) then bif (decide (((0:Int)<=v.1)/\(v.1 < ((c.2.1.1.n:Nat):Int)))) then bif (decide ((5:Int) < (((c.2.1.1.g (Int.toNat v.1)).2.1.n:Nat):Int))) then l (.out (.ret (false,()))) else l (.next ((W (v.1 + (1:Int))),())) else l .bad else l (.out (.exit 0 ())) else l (.out (.exit 0 ()))
theorem amY:ZO G16 0 27 MB [] Pm LA ZI ZI HN:=fun _ _=>by kernel_rfl
def HO (c:ZD oB) (v:ZD jk):RQ jk rZ:=HN (fun r=>r) (fun _ _=>.bad) c v
theorem amZ:SO G16 0 27 MB [] Pm LA ZI ZI HO:=fun c v=>by rw [amY]; unfold HO HN; simp only [bu,aM,pM]
def HP (c:ZD oB) (v:ZD jk):LQ rZ:=aH (HO c) cz v
theorem aye:af (c16)=[.loop MB]:=by kernel_rfl
noncomputable def l16:List Loop:=[lk 0 LA ZI ZI true GQ HP]
def Q16 {α:Type} (l:Option (WZ).den->α) (an:α->α->α) (x:(a16).den):α:=aF (HP ((),(x.1,())) ((0:Int),())) 0 (fun u0=>l (some ((decide (((x.1.1.n:Nat):Int)<=(6:Int))),()))) (bS (HP ((),(x.1,())) ((0:Int),())) (fun u1=>l (some u1)) (l none))
theorem q16:QO G16 Try.f16 l16 a16 WZ Q16:=fun _=>by kernel_rfl
def Yz (x:(a16).den):Option (WZ).den:=Q16 (fun r=>r) (fun _ _=>none) x
theorem m16:MO G16 Try.f16 l16 Yz:=fun x=>by rw [q16]; unfold Yz Q16; simp only [Tree.sure,iO]
def p16:=pO Yz
def v16:=vO (τ:=WZ) Yz
def k16:ee:=⟨a16,WZ,p16,v16⟩
theorem h16:Holds Try.prog 16 k16:=hO aeP g16 m16 fun G' hlo hF hE=>ai (by rw [aye]; exact .cons (lv hE hF hlo (ln aeQ) GQ amZ) (.nil))
noncomputable def c68:=zo Try.f68
theorem aiE:zq 68 Try.f68 c68:=zu
abbrev a68:Ty:=T2
abbrev Kj:Ty:=T3
noncomputable def G68:Ctx:=Ctx.of []
theorem g68:SP G68:=aD f0
def Q68 {α:Type} (l:Option (Kj).den->α) (an:α->α->α) (x:(a68).den):α:=bif (decide (x.2.1<=x.1)) then l (some ((decide (x.1<=x.2.2.1)),())) else l (some (false,()))
theorem q68:QO G68 Try.f68 [] a68 Kj Q68:=fun _=>by kernel_rfl
def MC (x:(a68).den):Option (Kj).den:=Q68 (fun r=>r) (fun _ _=>none) x
theorem m68:MO G68 Try.f68 [] MC:=fun x=>by rw [q68]; unfold MC Q68; simp only [Tree.sure,iO]
def p68:=pO MC
def v68:=vO (τ:=Kj) MC
def k68:ee:=⟨a68,Kj,p68,v68⟩
theorem h68:Holds Try.prog 68 k68:=hO aiE g68 m68 l0
end Go.Dm
